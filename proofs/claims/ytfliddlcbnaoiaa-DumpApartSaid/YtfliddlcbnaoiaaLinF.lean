/- Walk: dump.Segment. -/
import Derived.Test.YtfliddlcbnaoiaaLinE
namespace Go.Proofs.Ytfliddlcbnaoiaa
set_option linter.unusedVariables false
set_option linter.unusedSimpArgs false
open Go.RowKit

theorem info_opts (o : OptM) (h : o.mac.length = 12) : (Try.prog.info? 27).map (·.size) = some o.cells.size := by rw [o.size h]; kernel_rfl
theorem info_seg (s : SegM) (h : s.o.mac.length = 12) : (Try.prog.info? 30).map (·.size) = some s.cells.size := by rw [s.size h]; kernel_rfl
theorem seg_opts {w : World} {b : Nat} {s : SegM} {T : TypeId} {fz : Nat × Nat} (h : w.heap[b]? = some (.cells s.cells T fz)) : ∀ (j : Nat) u, s.o.cells[j]? = some u → w.cell? ((⟨b, 7, none⟩ : Addr).add j) = some u :=
  cells_part h fun j u hu => by rw [s.opt_at j (Array.getElem?_eq_some_iff.1 hu).1]; exact hu
theorem optsN_len (l : List UInt8) (o : OptM) (w : World) (ho : OptOk w o) : (optsN l o).length ≤ l.length + 350 + 42 * o.sacks.length := by
  obtain ⟨k1, k2, k3, k4, k5, k6⟩ : o.mss < 65536 ∧ o.scale < 256 ∧ o.val < 4294967296 ∧ o.echo < 4294967296 ∧ o.key < 256 ∧ o.next < 256 := ⟨ho.mss, ho.scale, ho.val, ho.echo, ho.key, ho.next⟩
  unfold optsN
  generalize hla : optN o.hasMSS l wMss [o.mss] = la
  generalize hlb : optN o.hasScale la wScale [o.scale] = lb
  generalize hlc : optS o.sackOK lb wSackok = lc
  generalize hld : optN o.hasTime lc wTime [o.val, o.echo] = ld
  generalize hle : optS (decide (0 < o.sacks.length)) ld wSack = le
  generalize hlf : sacksN le o.sacks = lf
  generalize hlg : optN o.hasAO lf wAo [o.key, o.next] = lg
  have a := optN_len o.hasMSS l wMss [o.mss] (all_cons (by omega) all_nil)
  have b := optN_len o.hasScale la wScale [o.scale] (all_cons (by omega) all_nil)
  have c := optS_len o.sackOK lb wSackok
  have d := optN_len o.hasTime lc wTime [o.val, o.echo] (all_cons (by omega) (all_cons (by omega) all_nil))
  have e := optS_len (decide (0 < o.sacks.length)) ld wSack
  have f := sacksN_len o.sacks ho.ok le o.sacks.length (Nat.le_refl _)
  rw [List.take_length] at f
  have g := optN_len o.hasAO lf wAo [o.key, o.next] (all_cons (by omega) (all_cons (by omega) all_nil))
  have h := optS_len o.hasAO lg (hexOf o.mac)
  rw [hexOf_length, ho.mac] at h
  rw [hla] at a
  rw [hlb] at b
  rw [hlc] at c
  rw [hld] at d
  rw [hle] at e
  rw [hlf] at f
  rw [hlg] at g
  have e1 : wMss.length = 3 := rfl
  have e2 : wScale.length = 5 := rfl
  have e3 : wSackok.length = 6 := rfl
  have e4 : wTime.length = 4 := rfl
  have e5 : wSack.length = 4 := rfl
  have e6 : wAo.length = 2 := rfl
  simp only [List.length_cons, List.length_nil] at *
  omega
/-- A segment's line, part by part. -/
def segN (s : SegM) : List UInt8 :=
  dataN (optsN (addN (optN (decide (s.flags / 16 % 2 = 1)) (addN (addS (addN (addN [] wTcp [s.src]) wGt [s.dst]) (flagsS s.flags)) wSeq [s.seq]) wAck [s.ack]) wWin [s.win]) s.o) s.data.length
theorem flagsS_len (f : Nat) : (flagsS f).length ≤ 6 := by
  rw [flagsS_eq]
  split
  · simp
  · exact flagsT_len f 6 (by omega)
theorem addS_ne (l p : List UInt8) (h : p ≠ []) : addS l p ≠ [] := by
  unfold addS
  split
  · exact h
  · simp
theorem addS_ne2 (l p : List UInt8) (h : l ≠ []) : addS l p ≠ [] := by
  unfold addS
  rw [if_neg h]
  simp
theorem foldS_ne : ∀ (ps : List (List UInt8)) (l : List UInt8), l ≠ [] → ps.foldl addS l ≠ []
  | [], l, h => h
  | p :: ps, l, h => foldS_ne ps _ (addS_ne2 l p h)
theorem addN_ne (l wd : List UInt8) (ns : List Nat) (h : wd ≠ []) : addN l wd ns ≠ [] := foldS_ne (ns.map tenS) _ (addS_ne l wd h)
theorem optN_ne (t : Bool) (l wd : List UInt8) (ns : List Nat) (h : l ≠ []) : optN t l wd ns ≠ [] := by
  cases t
  · exact h
  · exact foldS_ne (ns.map tenS) _ (addS_ne2 l wd h)
theorem optS_ne (t : Bool) (l p : List UInt8) (h : l ≠ []) : optS t l p ≠ [] := by
  cases t
  · exact h
  · exact addS_ne2 l p h
theorem dataN_ne (l : List UInt8) (n : Nat) (h : l ≠ []) : dataN l n ≠ [] := by
  unfold dataN
  split
  · exact foldS_ne [tenS n] _ (addS_ne2 l _ h)
  · exact h
theorem optsN_ne (l : List UInt8) (o : OptM) (h : l ≠ []) : optsN l o ≠ [] := by
  unfold optsN
  exact optS_ne _ _ _ (optN_ne _ _ _ _ (foldS_ne _ _ (optS_ne _ _ _ (optN_ne _ _ _ _ (optS_ne _ _ _ (optN_ne _ _ _ _ (optN_ne _ _ _ _ h)))))))
set_option maxRecDepth 20000 in
set_option maxHeartbeats 8000000 in
theorem segment_any (s : SegM) (w : World) (hs : SegOk w s) (hsl : s.o.sacks.length ≤ 100) :
    Calls Try.prog 9 #[.agg s.cells] w fun e w' => e = .returned (.string (strOf (segN s))) ∧ Below w.heap.size w w' := by
  have HS := hid hs
  obtain ⟨k1, k2, k3, k4, k5, k6⟩ : s.src < 65536 ∧ s.dst < 65536 ∧ s.seq < 4294967296 ∧ s.ack < 4294967296 ∧ s.flags < 256 ∧ s.win < 65536 := ⟨hs.src, hs.dst, hs.seq, hs.ack, hs.flags, hs.win⟩
  have v1 : (s.src : Int) % 18446744073709551616 = (s.src : Int) := by omega
  have v2 : (s.dst : Int) % 18446744073709551616 = (s.dst : Int) := by omega
  have v3 : (s.seq : Int) % 18446744073709551616 = (s.seq : Int) := by omega
  have v4 : (s.ack : Int) % 18446744073709551616 = (s.ack : Int) := by omega
  have v6 : (s.win : Int) % 18446744073709551616 = (s.win : Int) := by omega
  have HSL := hid hsl
  have hdt := hs.data
  obtain ⟨A7, c7, hd7, hdr⟩ := hdt
  have hdl : s.data.length ≤ 9223372036854775807 := Nat.le_trans hdr.cap hdr.top
  have HDL := hid hdl
  have HML := hid hs.o.mac
  have HOC := hid (fun (W : World) (g : Nat) (h : W.heap[g]? = some (.cells s.cells 30 (0, 0))) => seg_cells h hs.o.mac)
  have HOO := hid (fun (W : World) (g : Nat) (h : W.heap[g]? = some (.cells s.cells 30 (0, 0))) => seg_opts h)
  have HIS := hid (info_seg s hs.o.mac)
  have HIO := hid (info_opts s.o hs.o.mac)
  have HHAS := hid (fun W => has16_any s W hs.flags)
  have HOP := hid (fun (W : World) (b : Nat) (l : List UInt8) (h : Bld W w.heap.size b l) (hb : Below w.heap.size w W) (hl : l.length ≤ 800000000) => options_any w.heap.size b l s.o W h (hs.o.below hb) (fun W' hb' => hs.o.row.below (hb.trans hb')) hl hsl hb.size)
  have HFL := hid (fun W => flags_any s.flags W hs.flags)
  clear hd7 hdr hdl
  unfold segN
  generalize hla : addN [] wTcp [s.src] = la
  generalize hlb : addN la wGt [s.dst] = lb
  generalize hlc : addS lb (flagsS s.flags) = lc
  generalize hld : addN lc wSeq [s.seq] = ld
  generalize hle : optN (decide (s.flags / 16 % 2 = 1)) ld wAck [s.ack] = le
  generalize hlf : addN le wWin [s.win] = lf
  generalize hlg : optsN lf s.o = lg
  generalize hlh : dataN lg s.data.length = lh
  have ba : la.length ≤ 100 := by rw [← hla]; have := addN_len [] wTcp [s.src] (all_cons (by omega) all_nil); have e : wTcp.length = 3 := rfl; simp only [List.length_cons, List.length_nil] at *; omega
  have bb : lb.length ≤ 150 := by rw [← hlb]; have := addN_len la wGt [s.dst] (all_cons (by omega) all_nil); have e : wGt.length = 1 := rfl; simp only [List.length_cons, List.length_nil] at *; omega
  have bc : lc.length ≤ 200 := by rw [← hlc]; have := addS_len lb (flagsS s.flags); have e := flagsS_len s.flags; omega
  have bd : ld.length ≤ 250 := by rw [← hld]; have := addN_len lc wSeq [s.seq] (all_cons (by omega) all_nil); have e : wSeq.length = 3 := rfl; simp only [List.length_cons, List.length_nil] at *; omega
  have be : le.length ≤ 300 := by rw [← hle]; have := optN_len (decide (s.flags / 16 % 2 = 1)) ld wAck [s.ack] (all_cons (by omega) all_nil); have e : wAck.length = 3 := rfl; simp only [List.length_cons, List.length_nil] at *; omega
  have bf : lf.length ≤ 350 := by rw [← hlf]; have := addN_len le wWin [s.win] (all_cons (by omega) all_nil); have e : wWin.length = 3 := rfl; simp only [List.length_cons, List.length_nil] at *; omega
  have bg : lg.length ≤ 10000 := by rw [← hlg]; have := optsN_len lf s.o w hs.o; omega
  have hne : lh ≠ [] := by
    rw [← hlh, ← hlg, ← hlf]
    exact dataN_ne _ _ (optsN_ne _ _ (addN_ne _ _ _ (by decide)))
  have Hla := hid hla
  have Hlb := hid hlb
  have Hlc := hid hlc
  have Hld := hid hld
  have Hle := hid hle
  have Hlf := hid hlf
  have Hlg := hid hlg
  have Hlh := hid hlh
  have HNE := hid hne
  clear hla hlb hlc hld hle hlf hlg hlh hs hsl hne
  have HDA := hid (show s.data.length = s.data.length from rfl)
  generalize s.o.cells = co at HOO HIO HOP
  generalize s.cells = cs at HOC HOO HIS HHAS ⊢
  have h0 := Below.refl w.heap.size w
  obtain ⟨B, hB⟩ : ∃ B, w.heap.size = B := ⟨_, rfl⟩
  rw [hB] at HOP h0
  have HB := hid hB
  clear hB
  go_enter Try.func9, Try.ntmps9
  go_wp2_with ((with_reducible refine at_slot 1 ?_); refine wpList_boxF rfl 30 (.tmp 0) rfl cs rfl ?_; intro w1 hx1 hb1 hz1; rw [HB.out] at hx1 hb1 hz1 ⊢; have hx2 := nw0 w1 (.cells #[.pointer none, .slice none 0 0] 48) hx1; obtain ⟨f0, f1, f2, f3, f4, f5, f6, f7⟩ := HOC.out _ _ hx2)
  have hn2 := nw1 w1 (.cells #[.pointer none, .slice none 0 0] 48)
  have hb2 := bl1 w1 (.cells #[.pointer none, .slice none 0 0] 48)
  rw [hz1] at hn2 hb2
  have HX := hid hx2
  have BD := hid (show Bld (w1.alloc (.cells #[.pointer none, .slice none 0 0] 48)) B (B + 1) [] from .inl ⟨by omega, .slice none 0 0, hn2, World.ownsRow_nil _ _ _ _, by simp [Value.ownBlock]⟩)
  have BB := hid (show Below B w (w1.alloc (.cells #[.pointer none, .slice none 0 0] 48)) from hb1.trans (hb2.mono (by omega)))
  have KK := hid (KeepT.refl (B + 1) (w1.alloc (.cells #[.pointer none, .slice none 0 0] 48)))
  have hz2 : (w1.alloc (.cells #[.pointer none, .slice none 0 0] 48)).heap.size = B + 1 + 1 := by rw [← hz1]; simp
  clear hx1 hb1 hz1 hn2 hb2 hx2
  generalize w1.alloc _ = w2 at *
  rw [← hz2]
  clear hz2
  (with_reducible refine Calls.mono (num2_any B (B + 1) [] wTcp [s.src] _ BD.out (by intro x hx; simp only [List.mem_cons, List.not_mem_nil, or_false] at hx; omega) (by first | omega | simp) (by decide) (by have := BB.out.size; have := h0.size; have := HB.out; omega) (by simp) ⟨#[116, 99, 112]⟩ rfl #[.int .u64 (s.src : Int)] rfl 1 rfl) ?_)
  rintro e w3 ⟨rfl, hd3, hb3, hk3⟩
  rw [Hla.out] at hd3
  have D3 := hid hd3
  have B3 := hid (BB.out.trans hb3)
  have K3 := hid (KK.out.trans hk3)
  clear hd3 hb3 hk3 BD BB KK f0 f1 f2 f3 f4 f5 f6 f7
  have BD := D3
  have BB := B3
  have KK := K3
  clear D3 B3 K3
  have hxc := KK.out B _ _ _ (by omega) (by decide) HX.out
  obtain ⟨f0, f1, f2, f3, f4, f5, f6, f7⟩ := HOC.out _ _ hxc
  clear hxc
  go_wp2_with fail
  (with_reducible refine Calls.mono (num2_any B (B + 1) la wGt [s.dst] _ BD.out (by intro x hx; simp only [List.mem_cons, List.not_mem_nil, or_false] at hx; omega) (by first | omega | simp) (by decide) (by have := BB.out.size; have := h0.size; have := HB.out; omega) (by simp) ⟨#[62]⟩ rfl #[.int .u64 (s.dst : Int)] rfl 1 rfl) ?_)
  rintro e w3 ⟨rfl, hd3, hb3, hk3⟩
  rw [Hlb.out] at hd3
  have D3 := hid hd3
  have B3 := hid (BB.out.trans hb3)
  have K3 := hid (KK.out.trans hk3)
  clear hd3 hb3 hk3 BD BB KK f0 f1 f2 f3 f4 f5 f6 f7
  have BD := D3
  have BB := B3
  have KK := K3
  clear D3 B3 K3
  have hxc := KK.out B _ _ _ (by omega) (by decide) HX.out
  obtain ⟨f0, f1, f2, f3, f4, f5, f6, f7⟩ := HOC.out _ _ hxc
  clear hxc
  go_wp2_with fail
  (with_reducible refine Calls.mono (HFL.out _) ?_)
  rintro e w3 ⟨rfl, hb3⟩
  have hd3 := BD.out.below hb3
  have hk3 := KeepT.of_below (b := B + 1) hb3
  replace hb3 : Below B _ _ := hb3.mono (by have := BB.out.size; have := h0.size; have := HB.out; omega)
  have D3 := hid hd3
  have B3 := hid (BB.out.trans hb3)
  have K3 := hid (KK.out.trans hk3)
  clear hd3 hb3 hk3 BD BB KK f0 f1 f2 f3 f4 f5 f6 f7
  have BD := D3
  have BB := B3
  have KK := K3
  clear D3 B3 K3
  have hxc := KK.out B _ _ _ (by omega) (by decide) HX.out
  obtain ⟨f0, f1, f2, f3, f4, f5, f6, f7⟩ := HOC.out _ _ hxc
  clear hxc
  have HFLL := hid (flagsS_len s.flags)
  generalize flagsS s.flags = fl at Hlc HFLL ⊢
  go_wp2_with fail
  (with_reducible refine Calls.mono (add1_any B (B + 1) lb fl _ BD.out (by have := HFLL.out; omega) (by have := BB.out.size; have := h0.size; have := HB.out; omega)) ?_)
  rintro e w3 ⟨rfl, hd3, hb3, hk3⟩
  rw [Hlc.out] at hd3
  have D3 := hid hd3
  have B3 := hid (BB.out.trans hb3)
  have K3 := hid (KK.out.trans hk3)
  clear hd3 hb3 hk3 BD BB KK f0 f1 f2 f3 f4 f5 f6 f7
  have BD := D3
  have BB := B3
  have KK := K3
  clear D3 B3 K3
  have hxc := KK.out B _ _ _ (by omega) (by decide) HX.out
  obtain ⟨f0, f1, f2, f3, f4, f5, f6, f7⟩ := HOC.out _ _ hxc
  clear hxc
  go_wp2_with fail
  (with_reducible refine Calls.mono (num2_any B (B + 1) lc wSeq [s.seq] _ BD.out (by intro x hx; simp only [List.mem_cons, List.not_mem_nil, or_false] at hx; omega) (by first | omega | simp) (by decide) (by have := BB.out.size; have := h0.size; have := HB.out; omega) (by simp) ⟨#[115, 101, 113]⟩ rfl #[.int .u64 (s.seq : Int)] rfl 1 rfl) ?_)
  rintro e w3 ⟨rfl, hd3, hb3, hk3⟩
  rw [Hld.out] at hd3
  have D3 := hid hd3
  have B3 := hid (BB.out.trans hb3)
  have K3 := hid (KK.out.trans hk3)
  clear hd3 hb3 hk3 BD BB KK f0 f1 f2 f3 f4 f5 f6 f7
  have BD := D3
  have BB := B3
  have KK := K3
  clear D3 B3 K3
  have hxc := KK.out B _ _ _ (by omega) (by decide) HX.out
  obtain ⟨f0, f1, f2, f3, f4, f5, f6, f7⟩ := HOC.out _ _ hxc
  go_wp2_with ((with_reducible refine at_slot 24 ?_); refine wpList_load_row rfl 30 (.tmp 1) rfl B rfl _ cs _ _ hxc Try.underlying30 rfl HIS.out ?_)
  (with_reducible refine Calls.mono (HHAS.out _) ?_)
  rintro e w3 ⟨rfl, hb3⟩
  have hd3 := BD.out.below hb3
  have hk3 := KeepT.of_below (b := B + 1) hb3
  replace hb3 : Below B _ _ := hb3.mono (by have := BB.out.size; have := h0.size; have := HB.out; omega)
  clear hxc
  have D3 := hid hd3
  have B3 := hid (BB.out.trans hb3)
  have K3 := hid (KK.out.trans hk3)
  clear hd3 hb3 hk3 BD BB KK f0 f1 f2 f3 f4 f5 f6 f7
  have BD := D3
  have BB := B3
  have KK := K3
  clear D3 B3 K3
  have hxc := KK.out B _ _ _ (by omega) (by decide) HX.out
  obtain ⟨f0, f1, f2, f3, f4, f5, f6, f7⟩ := HOC.out _ _ hxc
  clear hxc
  go_upto_if 25 with fail
  go_cut [] (fun wx => Bld wx B (B + 1) le ∧ Below B w wx ∧ KeepT (B + 1) w2 wx)
  case first =>
    cases hm : decide (s.flags / 16 % 2 = 1)
    · have hn : le = ld := by rw [← Hle.out, hm]; rfl
      have HN := hid hn
      clear hn hm
      go_wp2_with fail
      go_meet
      case rel => exact ⟨by rw [HN.out]; exact BD.out, BB.out, KK.out⟩
    · have hn : le = addN ld wAck [s.ack] := by rw [← Hle.out, hm]; rfl
      have HN := hid hn
      clear hn hm
      go_wp2_with fail
      (with_reducible refine Calls.mono (num2_any B (B + 1) ld wAck [s.ack] _ BD.out (by intro x hx; simp only [List.mem_cons, List.not_mem_nil, or_false] at hx; omega) (by first | omega | simp) (by decide) (by have := BB.out.size; have := h0.size; have := HB.out; omega) (by simp) ⟨#[97, 99, 107]⟩ rfl #[.int .u64 (s.ack : Int)] rfl 1 rfl) ?_)
      rintro e w3 ⟨rfl, hd3, hb3, hk3⟩
      have D3 := hid hd3
      have B3 := hid (BB.out.trans hb3)
      have K3 := hid (KK.out.trans hk3)
      clear hd3 hb3 hk3
      go_wp2_with fail
      go_meet
      case rel => exact ⟨by rw [HN.out]; exact D3.out, B3.out, K3.out⟩
  case rest =>
    obtain ⟨hd3, hb3, hk3⟩ := hcut
    clear BD BB KK f0 f1 f2 f3 f4 f5 f6 f7
    have BD := hid hd3
    have BB := hid hb3
    have KK := hid hk3
    clear hd3 hb3 hk3
    have hxc := KK.out B _ _ _ (by omega) (by decide) HX.out
    obtain ⟨f0, f1, f2, f3, f4, f5, f6, f7⟩ := HOC.out _ _ hxc
    clear hxc
    go_wp2_with fail
    (with_reducible refine Calls.mono (num2_any B (B + 1) le wWin [s.win] _ BD.out (by intro x hx; simp only [List.mem_cons, List.not_mem_nil, or_false] at hx; omega) (by first | omega | simp) (by decide) (by have := BB.out.size; have := h0.size; have := HB.out; omega) (by simp) ⟨#[119, 105, 110]⟩ rfl #[.int .u64 (s.win : Int)] rfl 1 rfl) ?_)
    rintro e w3 ⟨rfl, hd3, hb3, hk3⟩
    rw [Hlf.out] at hd3
    have D3 := hid hd3
    have B3 := hid (BB.out.trans hb3)
    have K3 := hid (KK.out.trans hk3)
    clear hd3 hb3 hk3 BD BB KK f0 f1 f2 f3 f4 f5 f6 f7
    have BD := D3
    have BB := B3
    have KK := K3
    clear D3 B3 K3
    have hxc := KK.out B _ _ _ (by omega) (by decide) HX.out
    obtain ⟨f0, f1, f2, f3, f4, f5, f6, f7⟩ := HOC.out _ _ hxc
    go_wp2_with ((with_reducible refine at_slot 37 ?_); refine wpList_load_at 27 (.tmp 36) rfl rfl ⟨B, 7, none⟩ rfl co _ (HOO.out _ _ hxc) Try.underlying27 rfl HIO.out ?_)
    (with_reducible refine Calls.mono (HOP.out _ (B + 1) lf BD.out BB.out (by omega)) ?_)
    rintro e w3 ⟨rfl, hd3, hb3, hk3⟩
    clear hxc
    rw [Hlg.out] at hd3
    have D3 := hid hd3
    have B3 := hid (BB.out.trans hb3)
    have K3 := hid (KK.out.trans hk3)
    clear hd3 hb3 hk3 BD BB KK f0 f1 f2 f3 f4 f5 f6 f7
    have BD := D3
    have BB := B3
    have KK := K3
    clear D3 B3 K3
    have hxc := KK.out B _ _ _ (by omega) (by decide) HX.out
    obtain ⟨f0, f1, f2, f3, f4, f5, f6, f7⟩ := HOC.out _ _ hxc
    clear hxc
    go_wp2_with fail
    (with_reducible refine Calls.mono (data_any B (B + 1) lg s.data.length _ BD.out (by omega) (by have := BB.out.size; have := h0.size; have := HB.out; omega) HDL.out) ?_)
    rintro e w3 ⟨rfl, hd3, hb3, hk3⟩
    rw [Hlh.out] at hd3
    have D3 := hid hd3
    have B3 := hid (BB.out.trans hb3)
    have K3 := hid (KK.out.trans hk3)
    clear hd3 hb3 hk3 BD BB KK f0 f1 f2 f3 f4 f5 f6 f7
    have BD := D3
    have BB := B3
    have KK := K3
    clear D3 B3 K3
    have hxc := KK.out B _ _ _ (by omega) (by decide) HX.out
    obtain ⟨f0, f1, f2, f3, f4, f5, f6, f7⟩ := HOC.out _ _ hxc
    clear hxc
    go_wp2_with fail
    (with_reducible refine Calls.mono (bstring_any B (B + 1) lh _ BD.out HNE.out) ?_)
    rintro e w9 ⟨rfl, hb9⟩
    go_wp2_with fail
    go_ret
    exact ⟨rfl, by rw [HB.out]; exact BB.out.trans hb9⟩
end Go.Proofs.Ytfliddlcbnaoiaa
