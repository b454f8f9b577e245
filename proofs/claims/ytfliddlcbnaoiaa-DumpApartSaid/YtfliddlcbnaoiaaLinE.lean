/- Walk: line.options. -/
import Derived.Test.YtfliddlcbnaoiaaLinD
import Derived.Test.YtfliddlcbnaoiaaHexB
import Derived.Deep.DeepCutAuto
namespace Go.Proofs.Ytfliddlcbnaoiaa
set_option linter.unusedVariables false
set_option linter.unusedSimpArgs false
open Go.RowKit

/-- A part that may be missing. -/
def optN (t : Bool) (l wd : List UInt8) (ns : List Nat) : List UInt8 := if t then addN l wd ns else l
def optS (t : Bool) (l p : List UInt8) : List UInt8 := if t then addS l p else l
theorem optN_len (t : Bool) (l wd : List UInt8) (ns : List Nat) (hn : ∀ n ∈ ns, n < 18446744073709551616) : (optN t l wd ns).length ≤ l.length + wd.length + 1 + 21 * ns.length := by
  unfold optN
  split
  · exact addN_len l wd ns hn
  · omega
theorem optS_len (t : Bool) (l p : List UInt8) : (optS t l p).length ≤ l.length + p.length + 1 := by
  unfold optS
  split
  · exact addS_len l p
  · omega
def sacksN (l : List UInt8) (ss : List (Nat × Nat)) : List UInt8 := (ss.map sackT).foldl addS l
theorem sacksN_take (l : List UInt8) (ss : List (Nat × Nat)) (k : Nat) (h : k < ss.length) : sacksN l (ss.take (k + 1)) = addS (sacksN l (ss.take k)) (sackT (ss.getD k (0, 0))) := by
  unfold sacksN
  rw [List.take_add_one, List.map_append, List.foldl_append]
  simp [List.getD_eq_getElem?_getD, List.getElem?_eq_getElem h]
theorem sackT_len (x : Nat × Nat) (h : x.1 < 4294967296 ∧ x.2 < 4294967296) : (sackT x).length ≤ 41 := by
  unfold sackT
  have h1 := tenS_20 x.1 (by omega)
  have h2 := tenS_20 x.2 (by omega)
  simp
  omega
theorem sacksN_len (ss : List (Nat × Nat)) (hs : OkB ss) (l : List UInt8) : ∀ k, k ≤ ss.length → (sacksN l (ss.take k)).length ≤ l.length + 42 * k := by
  intro k
  induction k with
  | zero => intro _; simp [sacksN]
  | succ k ih =>
    intro h
    rw [sacksN_take l ss k (by omega)]
    have h1 := ih (by omega)
    have h2 := addS_len (sacksN l (ss.take k)) (sackT (ss.getD k (0, 0)))
    have h3 := sackT_len _ (hs.get k (by omega))
    omega
theorem str_sack (x y : Nat) : strOf (tenS x) ++ ⟨#[45]⟩ ++ strOf (tenS y) = strOf (sackT (x, y)) := by
  unfold sackT
  rw [show tenS x ++ 45 :: tenS y = (tenS x ++ [45]) ++ tenS y by simp, strOf_append, strOf_append]
  rfl
theorem dash_fits (x : Nat) (h : x < 4294967296) : (9223372036854775807 < (strOf (tenS x)).size + 1) = False := by
  have := tenS_20 x (by omega)
  rw [strOf_size]
  simp only [eq_iff_iff, iff_false]
  omega
theorem sack_fits (x y : Nat) (h : x < 4294967296) (h' : y < 4294967296) : (9223372036854775807 < (strOf (tenS x)).size + 1 + (strOf (tenS y)).size) = False := by
  have := tenS_20 x (by omega)
  have := tenS_20 y (by omega)
  rw [strOf_size, strOf_size]
  simp only [eq_iff_iff, iff_false]
  omega
theorem lit_s1 (sb : ByteArray) : ∀ w, (Instr.buildSlice 68 1 #[(0, .string sb)]).run Try.prog w = .ok (.slice (some ⟨w.heap.size, 0, none⟩) 1 1) (w.alloc (.cells #[.string sb] 9)) := by intro w; kernel_rfl
theorem all_cons {n : Nat} {ns : List Nat} (h : n < 18446744073709551616) (hs : ∀ m ∈ ns, m < 18446744073709551616) : ∀ m ∈ n :: ns, m < 18446744073709551616 := fun m hm => by
  rcases List.mem_cons.1 hm with rfl | hm
  · exact h
  · exact hs m hm
theorem all_nil : ∀ m ∈ ([] : List Nat), m < 18446744073709551616 := fun m hm => by cases hm
theorem below_drewB {w : World} {B b : Nat} {l : List UInt8} (h : Bld w B b l) : Bld ({ w with drawn := w.drawn + 1 } : World) B b l := h
theorem keep_drew {b : Nat} {w w' : World} (h : KeepT b w w') : KeepT b w ({ w' with drawn := w'.drawn + 1 } : World) := h
theorem nw0 (w : World) (o : Obj) {b : Nat} {x : Obj} (h : w.heap[b]? = some x) : (w.alloc o).heap[b]? = some x := (Lib.alloc_old w o b (Array.getElem?_eq_some_iff.1 h).1).trans h
theorem slice_mac (xb : Nat) (W : World) : (Instr.sliceAt 25 (.pointer (some ⟨xb, 12, none⟩)) none none none).run Try.prog W = .ok (.slice (some ⟨xb, 12, none⟩) 12 12) W := by
  have hl : Try.prog.arrayLen 25 = 12 := by kernel_rfl
  have he : Try.prog.elem 25 = 5 := by kernel_rfl
  have hz : (Go.sizeOf 5).run Try.prog W = .ok 1 W := by kernel_rfl
  rw [run_sliceAt_array_all W 25 ⟨xb, 12, none⟩ (by rw [hl, he]; exact Try.underlying25), hl, he, hz]
  rfl
def optsN (l : List UInt8) (o : OptM) : List UInt8 :=
  optS o.hasAO (optN o.hasAO (sacksN (optS (decide (0 < o.sacks.length)) (optN o.hasTime (optS o.sackOK (optN o.hasScale (optN o.hasMSS l wMss [o.mss]) wScale [o.scale]) wSackok) wTime [o.val, o.echo]) wSack) o.sacks) wAo [o.key, o.next]) (hexOf o.mac)
set_option maxRecDepth 20000 in
set_option maxHeartbeats 8000000 in
theorem options_any (B b : Nat) (l : List UInt8) (o : OptM) (w : World) (h : Bld w B b l) (ho : OptOk w o) (hrow : ∀ W', Below B w W' → Row W' 2 o.A o.sacks.length o.c (bcs o.sacks)) (hl : l.length ≤ 800000000) (hsl : o.sacks.length ≤ 100) (hBw : B ≤ w.heap.size) :
    Calls Try.prog 20 #[.pointer (some ⟨b, 0, none⟩), .agg o.cells] w fun e w' => e = .returned (.tuple #[]) ∧ Bld w' B b (optsN l o) ∧ Below B w w' ∧ KeepT b w w' := by
  have HOK := hid ho.ok
  have hml := hid ho.mac
  obtain ⟨k1, k2, k3, k4, k5, k6⟩ : o.mss < 65536 ∧ o.scale < 256 ∧ o.val < 4294967296 ∧ o.echo < 4294967296 ∧ o.key < 256 ∧ o.next < 256 := ⟨ho.mss, ho.scale, ho.val, ho.echo, ho.key, ho.next⟩
  have v1 : (o.mss : Int) % 18446744073709551616 = (o.mss : Int) := by omega
  have v2 : (o.scale : Int) % 18446744073709551616 = (o.scale : Int) := by omega
  have v3 : (o.val : Int) % 18446744073709551616 = (o.val : Int) := by omega
  have v4 : (o.echo : Int) % 18446744073709551616 = (o.echo : Int) := by omega
  have v5 : (o.key : Int) % 18446744073709551616 = (o.key : Int) := by omega
  have v6 : (o.next : Int) % 18446744073709551616 = (o.next : Int) := by omega
  have HRW := hid hrow
  have HBw := hid hBw
  have HL := hid hl
  have HSL := hid hsl
  have H := hid h
  have hOC := @opt_cells
  have HOC := hid (fun (W : World) (g : Nat) (h : W.heap[g]? = some (.cells o.cells 27 (0, 0))) => opt_cells h)
  have HMC := hid (fun (W : World) (g : Nat) (h : W.heap[g]? = some (.cells o.cells 27 (0, 0))) => opt_mac h ho.mac)
  unfold optsN
  generalize hla : optN o.hasMSS l wMss [o.mss] = la
  generalize hlb : optN o.hasScale la wScale [o.scale] = lb
  generalize hlc : optS o.sackOK lb wSackok = lc
  generalize hld : optN o.hasTime lc wTime [o.val, o.echo] = ld
  generalize hle : optS (decide (0 < o.sacks.length)) ld wSack = le
  generalize hlf : sacksN le o.sacks = lf
  generalize hlg : optN o.hasAO lf wAo [o.key, o.next] = lg
  generalize hlh : optS o.hasAO lg (hexOf o.mac) = lh
  have ba : la.length ≤ 800000025 := by rw [← hla]; have := optN_len o.hasMSS l wMss [o.mss] (all_cons (by omega) all_nil); have e : wMss.length = 3 := rfl; simp only [List.length_cons, List.length_nil] at *; omega
  have bb : lb.length ≤ 800000060 := by rw [← hlb]; have := optN_len o.hasScale la wScale [o.scale] (all_cons (by omega) all_nil); have e : wScale.length = 5 := rfl; simp only [List.length_cons, List.length_nil] at *; omega
  have bc : lc.length ≤ 800000080 := by rw [← hlc]; have := optS_len o.sackOK lb wSackok; have e : wSackok.length = 6 := rfl; omega
  have bd : ld.length ≤ 800000140 := by rw [← hld]; have := optN_len o.hasTime lc wTime [o.val, o.echo] (all_cons (by omega) (all_cons (by omega) all_nil)); have e : wTime.length = 4 := rfl; simp only [List.length_cons, List.length_nil] at *; omega
  have be : le.length ≤ 800000150 := by rw [← hle]; have := optS_len (decide (0 < o.sacks.length)) ld wSack; have e : wSack.length = 4 := rfl; omega
  have bf : lf.length ≤ 800004400 := by rw [← hlf]; have := sacksN_len o.sacks ho.ok le o.sacks.length (Nat.le_refl _); rw [List.take_length] at this; omega
  have bg : lg.length ≤ 800004460 := by rw [← hlg]; have := optN_len o.hasAO lf wAo [o.key, o.next] (all_cons (by omega) (all_cons (by omega) all_nil)); have e : wAo.length = 2 := rfl; simp only [List.length_cons, List.length_nil] at *; omega
  have Hla := hid hla
  have Hlb := hid hlb
  have Hlc := hid hlc
  have Hld := hid hld
  have Hle := hid hle
  have Hlf := hid hlf
  have Hlg := hid hlg
  have Hlh := hid hlh
  clear hla hlb hlc hld hle hlf hlg hlh
  clear h ho hrow hl hsl hBw hOC
  generalize o.cells = cs at HOC HMC ⊢
  obtain ⟨A0, hA0⟩ : ∃ x, o.A = x := ⟨_, rfl⟩
  rw [hA0] at HOC HRW
  clear hA0
  go_enter Try.func20, Try.ntmps20
  have hbl := H.out.lt
  obtain ⟨xb, hxb⟩ : ∃ xb, w.heap.size = xb := ⟨_, rfl⟩
  have HXB := hid hxb
  have HNE := hid (show xb ≠ b by omega)
  clear hxb hbl
  go_upto_if 7 with ((with_reducible refine at_slot 3 ?_); refine wpList_boxF rfl 27 (.tmp 1) rfl cs rfl ?_; intro w1 hx1 hb1 hz1; rw [HXB.out] at hx1 ⊢; obtain ⟨f0, f1, f2, f3, f4, f5, f6, f7, f8, f9, f10, f11⟩ := HOC.out w1 xb hx1)
  have BB := hid (hb1.mono HBw.out)
  have BD := hid (H.out.below hb1)
  have KK := hid (KeepT.refl b w1)
  have K1 := hid (KeepT.of_below (b := b) hb1)
  have HX := hid hx1
  clear hx1 hb1 hz1 H
  go_cut [] (fun wx => Bld wx B b la ∧ Below B w wx ∧ KeepT b w1 wx)
  case first =>
    cases hm : o.hasMSS
    · have hn : la = l := by rw [← Hla.out, hm]; rfl
      have HN := hid hn
      clear hn hm
      go_wp2_with fail
      go_meet
      case rel => exact ⟨by rw [HN.out]; exact BD.out, BB.out, KK.out⟩
    · have hn : la = addN l wMss [o.mss] := by rw [← Hla.out, hm]; rfl
      have HN := hid hn
      clear hn hm
      go_wp2_with fail
      (with_reducible refine Calls.mono (num2_any B b l wMss [o.mss] _ BD.out (by intro x hx; simp only [List.mem_cons, List.not_mem_nil, or_false] at hx; omega) (by have := HL.out; omega) (by decide) (by have := BB.out.size; have := HBw.out; omega) (by simp) ⟨#[109, 115, 115]⟩ rfl #[.int .u64 (o.mss : Int)] rfl 1 rfl) ?_)
      rintro e w3 ⟨rfl, hd3, hb3, hk3⟩
      have D3 := hid hd3
      have B3 := hid (BB.out.trans hb3)
      have K3 := hid (KK.out.trans hk3)
      clear hd3 hb3 hk3
      go_wp2_with fail
      go_meet
      case rel => exact ⟨by rw [HN.out]; exact D3.out, B3.out, K3.out⟩
  case rest =>
    obtain ⟨hbd, hbb, hkk⟩ := hcut
    clear BD BB KK f0 f1 f2 f3 f4 f5 f6 f7 f8 f9 f10 f11
    have BD := hid hbd
    have BB := hid hbb
    have KK := hid hkk
    clear hbd hbb hkk
    have hxc := KK.out xb _ _ _ HNE.out (by decide) HX.out
    obtain ⟨f0, f1, f2, f3, f4, f5, f6, f7, f8, f9, f10, f11⟩ := HOC.out _ xb hxc
    clear hxc
    go_upto_if 15 with fail
    go_cut [] (fun wx => Bld wx B b lb ∧ Below B w wx ∧ KeepT b w1 wx)
    case first =>
      cases hm : o.hasScale
      · have hn : lb = la := by rw [← Hlb.out, hm]; rfl
        have HN := hid hn
        clear hn hm
        go_wp2_with fail
        go_meet
        case rel => exact ⟨by rw [HN.out]; exact BD.out, BB.out, KK.out⟩
      · have hn : lb = addN la wScale [o.scale] := by rw [← Hlb.out, hm]; rfl
        have HN := hid hn
        clear hn hm
        go_wp2_with fail
        (with_reducible refine Calls.mono (num2_any B b la wScale [o.scale] _ BD.out (by intro x hx; simp only [List.mem_cons, List.not_mem_nil, or_false] at hx; omega) (by have := HL.out; omega) (by decide) (by have := BB.out.size; have := HBw.out; omega) (by simp) ⟨#[115, 99, 97, 108, 101]⟩ rfl #[.int .u64 (o.scale : Int)] rfl 1 rfl) ?_)
        rintro e w3 ⟨rfl, hd3, hb3, hk3⟩
        have D3 := hid hd3
        have B3 := hid (BB.out.trans hb3)
        have K3 := hid (KK.out.trans hk3)
        clear hd3 hb3 hk3
        go_wp2_with fail
        go_meet
        case rel => exact ⟨by rw [HN.out]; exact D3.out, B3.out, K3.out⟩
    case rest =>
      obtain ⟨hbd, hbb, hkk⟩ := hcut
      clear BD BB KK f0 f1 f2 f3 f4 f5 f6 f7 f8 f9 f10 f11
      have BD := hid hbd
      have BB := hid hbb
      have KK := hid hkk
      clear hbd hbb hkk
      have hxc := KK.out xb _ _ _ HNE.out (by decide) HX.out
      obtain ⟨f0, f1, f2, f3, f4, f5, f6, f7, f8, f9, f10, f11⟩ := HOC.out _ xb hxc
      clear hxc
      go_upto_if 23 with fail
      go_cut [] (fun wx => Bld wx B b lc ∧ Below B w wx ∧ KeepT b w1 wx)
      case first =>
        cases hm : o.sackOK
        · have hn : lc = lb := by rw [← Hlc.out, hm]; rfl
          have HN := hid hn
          clear hn hm
          go_wp2_with fail
          go_meet
          case rel => exact ⟨by rw [HN.out]; exact BD.out, BB.out, KK.out⟩
        · have hn : lc = addS lb wSackok := by rw [← Hlc.out, hm]; rfl
          have HN := hid hn
          clear hn hm
          go_wp2_with fail
          (with_reducible refine Calls.mono (add2_any B b lb wSackok _ BD.out (by have e : wSackok.length ≤ 6 := (by decide); omega) (by have := BB.out.size; have := HBw.out; omega) ⟨#[115, 97, 99, 107, 111, 107]⟩ rfl) ?_)
          rintro e w3 ⟨rfl, hd3, hb3, hk3⟩
          have D3 := hid hd3
          have B3 := hid (BB.out.trans hb3)
          have K3 := hid (KK.out.trans hk3)
          clear hd3 hb3 hk3
          go_wp2_with fail
          go_meet
          case rel => exact ⟨by rw [HN.out]; exact D3.out, B3.out, K3.out⟩
      case rest =>
        obtain ⟨hbd, hbb, hkk⟩ := hcut
        clear BD BB KK f0 f1 f2 f3 f4 f5 f6 f7 f8 f9 f10 f11
        have BD := hid hbd
        have BB := hid hbb
        have KK := hid hkk
        clear hbd hbb hkk
        have hxc := KK.out xb _ _ _ HNE.out (by decide) HX.out
        obtain ⟨f0, f1, f2, f3, f4, f5, f6, f7, f8, f9, f10, f11⟩ := HOC.out _ xb hxc
        clear hxc
        go_upto_if 28 with fail
        go_cut [] (fun wx => Bld wx B b ld ∧ Below B w wx ∧ KeepT b w1 wx)
        case first =>
          cases hm : o.hasTime
          · have hn : ld = lc := by rw [← Hld.out, hm]; rfl
            have HN := hid hn
            clear hn hm
            go_wp2_with fail
            go_meet
            case rel => exact ⟨by rw [HN.out]; exact BD.out, BB.out, KK.out⟩
          · have hn : ld = addN lc wTime [o.val, o.echo] := by rw [← Hld.out, hm]; rfl
            have HN := hid hn
            clear hn hm
            go_wp2_with fail
            (with_reducible refine Calls.mono (num2_any B b lc wTime [o.val, o.echo] _ BD.out (by intro x hx; simp only [List.mem_cons, List.not_mem_nil, or_false] at hx; omega) (by have := HL.out; omega) (by decide) (by have := BB.out.size; have := HBw.out; omega) (by simp) ⟨#[116, 105, 109, 101]⟩ rfl #[.int .u64 (o.val : Int), .int .u64 (o.echo : Int)] rfl 2 rfl) ?_)
            rintro e w3 ⟨rfl, hd3, hb3, hk3⟩
            have D3 := hid hd3
            have B3 := hid (BB.out.trans hb3)
            have K3 := hid (KK.out.trans hk3)
            clear hd3 hb3 hk3
            go_wp2_with fail
            go_meet
            case rel => exact ⟨by rw [HN.out]; exact D3.out, B3.out, K3.out⟩
        case rest =>
          obtain ⟨hbd, hbb, hkk⟩ := hcut
          clear BD BB KK f0 f1 f2 f3 f4 f5 f6 f7 f8 f9 f10 f11
          have BD := hid hbd
          have BB := hid hbb
          have KK := hid hkk
          clear hbd hbb hkk
          have hxc := KK.out xb _ _ _ HNE.out (by decide) HX.out
          obtain ⟨f0, f1, f2, f3, f4, f5, f6, f7, f8, f9, f10, f11⟩ := HOC.out _ xb hxc
          clear hxc
          have hcn : decide ((0 : Int) < (o.sacks.length : Int)) = decide (0 < o.sacks.length) := by rw [decide_eq_decide]; omega
          go_upto_if 41 with fail
          go_cut [] (fun wx => Bld wx B b le ∧ Below B w wx ∧ KeepT b w1 wx)
          case first =>
            cases hm : decide (0 < o.sacks.length)
            · have hn : le = ld := by rw [← Hle.out, hm]; rfl
              have HN := hid hn
              clear hn hm
              go_wp2_with fail
              go_meet
              case rel => exact ⟨by rw [HN.out]; exact BD.out, BB.out, KK.out⟩
            · have hn : le = addS ld wSack := by rw [← Hle.out, hm]; rfl
              have HN := hid hn
              clear hn hm
              go_wp2_with fail
              (with_reducible refine Calls.mono (add2_any B b ld wSack _ BD.out (by have e : wSack.length ≤ 6 := (by decide); omega) (by have := BB.out.size; have := HBw.out; omega) ⟨#[115, 97, 99, 107]⟩ rfl) ?_)
              rintro e w3 ⟨rfl, hd3, hb3, hk3⟩
              have D3 := hid hd3
              have B3 := hid (BB.out.trans hb3)
              have K3 := hid (KK.out.trans hk3)
              clear hd3 hb3 hk3
              go_wp2_with fail
              go_meet
              case rel => exact ⟨by rw [HN.out]; exact D3.out, B3.out, K3.out⟩
          case rest =>
            obtain ⟨hbd, hbb, hkk⟩ := hcut
            clear BD BB KK f0 f1 f2 f3 f4 f5 f6 f7 f8 f9 f10 f11
            have BD := hid hbd
            have BB := hid hbb
            have KK := hid hkk
            clear hbd hbb hkk
            have hxc := KK.out xb _ _ _ HNE.out (by decide) HX.out
            obtain ⟨f0, f1, f2, f3, f4, f5, f6, f7, f8, f9, f10, f11⟩ := HOC.out _ xb hxc
            clear hxc
            clear f0 f1 f2 f3 f4 f6 f7 f8 f9 f10 f11
            have hsl := HSL.out
            go_wp2_with fail
            go_loopw [48] (fun i wr => ∃ k : Nat, k ≤ o.sacks.length ∧ i = .int .i64 k ∧ Bld wr B b (sacksN le (o.sacks.take k)) ∧ Below B w wr ∧ KeepT b w1 wr) (fun i _ => o.sacks.length - (intOf i).toNat)
            case atStart => exact ⟨0, Nat.zero_le _, rfl, by simpa [sacksN] using BD.out, BB.out, KK.out⟩
            case round =>
              obtain ⟨k, hk, rfl, hbd, hbb, hkk⟩ := hrel
              clear BD BB KK
              by_cases hlt : k < o.sacks.length
              · have hrow := HRW.out wr hbb
                obtain ⟨a, rfl⟩ := hrow.addr (by rw [bcs_length]; omega)
                obtain ⟨l0, l1⟩ := hrow.blk k hlt
                obtain ⟨hx, hy⟩ := HOK.out.get k hlt
                have hft := sacksN_take le o.sacks k hlt
                have hcl := sacksN_len o.sacks HOK.out le k (by omega)
                generalize sacksN le (o.sacks.take k) = cur at hbd hft hcl
                generalize o.sacks.getD k (0, 0) = xy at l0 l1 hx hy hft
                obtain ⟨x, y⟩ := xy
                simp only at l0 l1 hx hy
                have BD := hid hbd
                have BB := hid hbb
                have KK := hid hkk
                have HTK := hid hft
                have hblt := hbd.lt
                clear hrow hbd hbb hkk hft
                go_wp2_with fail
                have sn := nw1 wr (.cells #[.int .u32 (x : Int), .int .u32 (y : Int)] 59)
                have bn := bl1 wr (.cells #[.int .u32 (x : Int), .int .u32 (y : Int)] 59)
                have HSB := hid (show wr.heap.size ≠ b by omega)
                have D4 := BD.out.below bn
                have B4 := BB.out.trans (bn.mono (by have := BB.out.size; have := HBw.out; omega))
                have K4 := KK.out.trans (KeepT.of_below (b := b) bn)
                clear l0 l1 BD BB KK bn hblt
                generalize wr.heap.size = sb at sn HSB ⊢
                generalize wr.alloc _ = W1 at sn D4 B4 K4 ⊢
                have hx64 : IntKind.u64.wrap (x : Int) = (x : Int) := by rw [IntKind.wrap_u64]; omega
                have hy64 : IntKind.u64.wrap (y : Int) = (y : Int) := by rw [IntKind.wrap_u64]; omega
                have hsx := dash_fits x (by omega)
                have hsy := sack_fits x y (by omega) (by omega)
                have hS0 : ({ W1 with drawn := W1.drawn + 1 } : World).heap[sb]? = some (.cells #[.int .u32 (x : Int), .int .u32 (y : Int)] 59 (0, 0)) := sn
                refine wp_region_hand (fun W' => W'.heap[sb]? = some (.cells #[.int .u32 (x : Int), .int .u32 (y : Int)] 59 (0, 0))) (by kernel_rfl) hS0 ?_
                intro hS
                replace D4 : Bld ({ W1 with drawn := W1.drawn + 1 } : World) B b cur := below_drewB D4
                replace B4 : Below B w ({ W1 with drawn := W1.drawn + 1 } : World) := below_drewN B4 1
                replace K4 : KeepT b w1 ({ W1 with drawn := W1.drawn + 1 } : World) := keep_drew K4
                clear hS0 sn
                generalize ({ W1 with drawn := W1.drawn + 1 } : World) = u at hS D4 B4 K4 ⊢
                refine wpAnyH_take (i := 0) (oi := ⟨some 52, _, _, _, _, _⟩) (v := ?_) rfl (by kernel_rfl) (by kernel_rfl) (by kernel_rfl) (fun _ _ _ h => h) (Or.inl ⟨by rfl, ?_⟩) hS ?_
                rotate_left 1
                focus ((intro W' hS'; go_simp) <;> with_reducible rfl)
                try simp only [Act.put, List.setIfInBounds_toArray, List.set_cons_zero, List.set_cons_succ]
                refine wpAnyH_take (i := 1) (oi := ⟨some 53, _, _, _, _, _⟩) (v := ?_) rfl (by kernel_rfl) (by kernel_rfl) (by kernel_rfl) (fun _ _ _ h => h) (Or.inl ⟨by rfl, ?_⟩) hS ?_
                rotate_left 1
                focus ((intro W' hS'; go_simp) <;> with_reducible rfl)
                try simp only [Act.put, List.setIfInBounds_toArray, List.set_cons_zero, List.set_cons_succ]
                refine wpAnyH_take (i := 2) (oi := ⟨some 54, _, _, _, _, _⟩) (v := ?_) rfl (by kernel_rfl) (by kernel_rfl) (by kernel_rfl) (fun _ _ _ h => h) (Or.inl ⟨by rfl, ?_⟩) hS ?_
                rotate_left 1
                focus ((intro W' hS'; have q1 := cellRow hS' 0; simp only [List.getElem?_toArray, List.getElem?_cons_succ, List.getElem?_cons_zero] at q1; go_simp) <;> with_reducible rfl)
                try simp only [Act.put, List.setIfInBounds_toArray, List.set_cons_zero, List.set_cons_succ]
                refine wpAnyH_take (i := 3) (oi := ⟨some 55, _, _, _, _, _⟩) (v := ?_) rfl (by kernel_rfl) (by kernel_rfl) (by kernel_rfl) (fun _ _ _ h => h) (Or.inl ⟨by rfl, ?_⟩) hS ?_
                rotate_left 1
                focus ((intro W' hS'; have q1 := hx64; go_simp) <;> with_reducible rfl)
                try simp only [Act.put, List.setIfInBounds_toArray, List.set_cons_zero, List.set_cons_succ]
                refine wpAnyH_take (i := 6) (oi := ⟨some 58, _, _, _, _, _⟩) (v := ?_) rfl (by kernel_rfl) (by kernel_rfl) (by kernel_rfl) (fun _ _ _ h => h) (Or.inl ⟨by rfl, ?_⟩) hS ?_
                rotate_left 1
                focus ((intro W' hS'; go_simp) <;> with_reducible rfl)
                try simp only [Act.put, List.setIfInBounds_toArray, List.set_cons_zero, List.set_cons_succ]
                refine wpAnyH_take (i := 7) (oi := ⟨some 59, _, _, _, _, _⟩) (v := ?_) rfl (by kernel_rfl) (by kernel_rfl) (by kernel_rfl) (fun _ _ _ h => h) (Or.inl ⟨by rfl, ?_⟩) hS ?_
                rotate_left 1
                focus ((intro W' hS'; have q1 := cellRow hS' 1; simp only [List.getElem?_toArray, List.getElem?_cons_succ, List.getElem?_cons_zero] at q1; go_simp) <;> with_reducible rfl)
                try simp only [Act.put, List.setIfInBounds_toArray, List.set_cons_zero, List.set_cons_succ]
                refine wpAnyH_take (i := 8) (oi := ⟨some 60, _, _, _, _, _⟩) (v := ?_) rfl (by kernel_rfl) (by kernel_rfl) (by kernel_rfl) (fun _ _ _ h => h) (Or.inl ⟨by rfl, ?_⟩) hS ?_
                rotate_left 1
                focus ((intro W' hS'; have q1 := hy64; go_simp) <;> with_reducible rfl)
                try simp only [Act.put, List.setIfInBounds_toArray, List.set_cons_zero, List.set_cons_succ]
                refine anyH_one (i := 4) (by kernel_rfl) ⟨some 56, _, _, _, _, _⟩ rfl (by rfl) ?_
                go_simp
                with_reducible refine Calls.mono (digits_any x _ (by omega)) ?_
                rintro e w4 ⟨rfl, hb4⟩
                have hS2 := (hb4.block _ (Array.getElem?_eq_some_iff.1 hS).1).trans hS
                have D5 := D4.below hb4
                have B5 := B4.trans (hb4.mono (by have := B4.size; have := HBw.out; omega))
                have K5 := K4.trans (KeepT.of_below (b := b) hb4)
                refine ⟨hS2, ?_⟩
                clear hS D4 B4 K4 hb4
                have hS := hS2
                have D4 := D5
                have B4 := B5
                have K4 := K5
                clear hS2 D5 B5 K5
                try simp only [Act.put, List.setIfInBounds_toArray, List.set_cons_zero, List.set_cons_succ]
                refine wpAnyH_take (i := 5) (oi := ⟨some 57, _, _, _, _, _⟩) (v := ?_) rfl (by kernel_rfl) (by kernel_rfl) (by kernel_rfl) (fun _ _ _ h => h) (Or.inl ⟨by rfl, ?_⟩) hS ?_
                rotate_left 1
                focus ((intro W' hS'; have q1 := hsx; go_simp) <;> with_reducible rfl)
                try simp only [Act.put, List.setIfInBounds_toArray, List.set_cons_zero, List.set_cons_succ]
                refine anyH_one (i := 9) (by kernel_rfl) ⟨some 61, _, _, _, _, _⟩ rfl (by rfl) ?_
                go_simp
                with_reducible refine Calls.mono (digits_any y _ (by omega)) ?_
                rintro e w4 ⟨rfl, hb4⟩
                have hS2 := (hb4.block _ (Array.getElem?_eq_some_iff.1 hS).1).trans hS
                have D5 := D4.below hb4
                have B5 := B4.trans (hb4.mono (by have := B4.size; have := HBw.out; omega))
                have K5 := K4.trans (KeepT.of_below (b := b) hb4)
                refine ⟨hS2, ?_⟩
                clear hS D4 B4 K4 hb4
                have hS := hS2
                have D4 := D5
                have B4 := B5
                have K4 := K5
                clear hS2 D5 B5 K5
                try simp only [Act.put, List.setIfInBounds_toArray, List.set_cons_zero, List.set_cons_succ]
                refine wpAnyH_take (i := 10) (oi := ⟨some 62, _, _, _, _, _⟩) (v := ?_) rfl (by kernel_rfl) (by kernel_rfl) (by kernel_rfl) (fun _ _ _ h => h) (Or.inl ⟨by rfl, ?_⟩) hS ?_
                rotate_left 1
                focus ((intro W' hS'; have q1 := hsy; go_simp) <;> with_reducible rfl)
                try simp only [Act.put, List.setIfInBounds_toArray, List.set_cons_zero, List.set_cons_succ]
                refine anyH_one (i := 11) (by kernel_rfl) ⟨some 63, _, _, _, _, _⟩ rfl (by rfl) ?_
                refine wp_yield (exec_lit 68 9 1 _ rfl #[(0, .string (strOf (tenS x) ++ ⟨#[45]⟩ ++ strOf (tenS y)))] (by simp [Act.eval, Act.put]) _ (lit_s1 _)) ?_
                have hS2 := (nw0 _ _ hS : (World.alloc _ (.cells #[.string (strOf (tenS x) ++ ⟨#[45]⟩ ++ strOf (tenS y))] 9)).heap[sb]? = _)
                refine ⟨hS2, ?_⟩
                clear hS2
                try simp only [Act.put, List.setIfInBounds_toArray, List.set_cons_zero, List.set_cons_succ]
                refine anyH_one (i := 12) (by kernel_rfl) ⟨some 64, _, _, _, _, _⟩ rfl (by rfl) ?_
                go_simp
                with_reducible refine Calls.mono (add2_any B b cur (sackT (x, y)) _ D4 (by have := sackT_len (x, y) ⟨by omega, by omega⟩; omega) (by have := B4.size; have := HBw.out; omega) _ (str_sack x y)) ?_
                rintro e w6 ⟨rfl, hd6, hb6, hk6⟩
                have hS6 := hk6 sb _ _ _ HSB.out (by decide) hS
                refine ⟨hS6, ?_⟩
                try simp only [Act.put, List.setIfInBounds_toArray, List.set_cons_zero, List.set_cons_succ]
                refine wpAnyH_done (by kernel_rfl) ?_ _
                have D7 := hid hd6
                have B7 := hid (B4.trans hb6)
                have K7 := hid (K4.trans hk6)
                clear hd6 hb6 hk6 B4 K4 D4 hS hS6
                go_wp2_with fail
                go_roundw
                case rel => exact ⟨k + 1, by omega, by go_num, by rw [HTK.out]; exact D7.out, B7.out, K7.out⟩
                case measure => simp [intOf]; omega
              · obtain rfl : k = o.sacks.length := by omega
                rw [List.take_length] at hbd
                have hlf := Hlf.out
                rw [hlf] at hbd
                clear hlf
                have BD := hid hbd
                have BB := hid hbb
                have KK := hid hkk
                clear hbd hbb hkk
                have hxc := KK.out xb _ _ _ HNE.out (by decide) HX.out
                obtain ⟨f0, f1, f2, f3, f4, f5, f6, f7, f8, f9, f10, f11⟩ := HOC.out _ xb hxc
                clear hxc
                clear f0 f1 f2 f3 f4 f5 f6 f7 f8
                have hsm := slice_mac xb
                cases hm : o.hasAO
                · have hn : lh = lf := by rw [← Hlh.out, ← Hlg.out, hm]; rfl
                  have HN := hid hn
                  rw [hm] at f9
                  clear hn hm hsm
                  go_wp2_with fail
                  go_end0
                  exact ⟨rfl, by rw [HN.out]; exact BD.out, BB.out, K1.out.trans KK.out⟩
                · have hn : lg = addN lf wAo [o.key, o.next] := by rw [← Hlg.out, hm]; rfl
                  have hn2 : lh = addS lg (hexOf o.mac) := by rw [← Hlh.out, hm]; rfl
                  have HN := hid hn
                  have HN2 := hid hn2
                  rw [hm] at f9
                  clear hn hn2 hm
                  go_wp2_with fail
                  (with_reducible refine Calls.mono (num2_any B b lf wAo [o.key, o.next] _ BD.out (by intro x hx; simp only [List.mem_cons, List.not_mem_nil, or_false] at hx; omega) (by have := HL.out; omega) (by decide) (by have := BB.out.size; have := HBw.out; omega) (by simp) ⟨#[97, 111]⟩ rfl #[.int .u64 (o.key : Int), .int .u64 (o.next : Int)] rfl 2 rfl) ?_)
                  rintro e w3 ⟨rfl, hd3, hb3, hk3⟩
                  have D3 := hid hd3
                  have B3 := hid (BB.out.trans hb3)
                  have K3 := hid (KK.out.trans hk3)
                  clear hd3 hb3 hk3
                  rw [← HN.out] at D3
                  clear f9 f10 f11
                  go_wp2_with fail
                  have hx3 := K3.out xb _ _ _ HNE.out (by decide) HX.out
                  (with_reducible refine Calls.mono (hex_any _ o.mac _ (HMC.out _ xb hx3) (by rw [hml.out]; decide)) ?_)
                  rintro e w5 ⟨rfl, hb5⟩
                  have D5 := hid (D3.out.below hb5)
                  have B5 := hid (B3.out.trans (hb5.mono (by have := B3.out.size; have := HBw.out; omega)))
                  have K5 := hid (K3.out.trans (KeepT.of_below (b := b) hb5))
                  clear hb5 D3 B3 K3 BD BB KK
                  have HHL := hid (hexOf_length o.mac)
                  generalize hexOf o.mac = hx at HN2 HHL ⊢
                  go_wp2_with fail
                  (with_reducible refine Calls.mono (add1_any B b lg hx _ D5.out (by have := HHL.out; have := hml.out; omega) (by have := B5.out.size; have := HBw.out; omega)) ?_)
                  rintro e w6 ⟨rfl, hd6, hb6, hk6⟩
                  go_wp2_with fail
                  go_end0
                  exact ⟨rfl, by rw [HN2.out]; exact hd6, B5.out.trans hb6, K1.out.trans (K5.out.trans hk6)⟩
end Go.Proofs.Ytfliddlcbnaoiaa
