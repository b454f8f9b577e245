/- Walks: dump.Message, the document's Message. -/
import Derived.Test.YtfliddlcbnaoiaaDreC
import Derived.Deep.CutBlock
namespace Go.Proofs.Ytfliddlcbnaoiaa
set_option linter.unusedVariables false
set_option linter.unusedSimpArgs false
open Go.RowKit

def wIcmp : List UInt8 := [105, 99, 109, 112]
def wAsk : List UInt8 := [97, 115, 107]
def wAnswer : List UInt8 := [97, 110, 115, 119, 101, 114]
def wUnr : List UInt8 := [117, 110, 114, 101, 97, 99, 104, 97, 98, 108, 101]
def wOver : List UInt8 := [116, 105, 109, 101, 111, 118, 101, 114]
def wBig : List UInt8 := [116, 111, 111, 98, 105, 103]
def kindN (l : List UInt8) (kind : Int) (code id seq mtu : Nat) : List UInt8 :=
  if kind = 1 then addN l wAsk [id, seq] else if kind = 2 then addN l wAnswer [id, seq] else if kind = 3 then addN l wUnr [code] else if kind = 5 then addN l wOver [code] else if kind = 4 then addN l wBig [mtu] else l
/-- A message's line. -/
def msgN (kind : Int) (code id seq mtu n : Nat) : List UInt8 := dataN (kindN wIcmp kind code id seq mtu) n
theorem kindN_ne (l : List UInt8) (kind : Int) (code id seq mtu : Nat) (h : l ≠ []) : kindN l kind code id seq mtu ≠ [] := by
  have g : ∀ wd ns, addN l wd ns ≠ [] := fun wd ns => foldS_ne (ns.map tenS) _ (addS_ne2 l wd h)
  unfold kindN
  repeat' split
  all_goals first | exact g _ _ | exact h
theorem kindN_len (kind : Int) (code id seq mtu : Nat) (h1 : code < 256) (h2 : id < 65536) (h3 : seq < 65536) (h4 : mtu < 4294967296) : (kindN wIcmp kind code id seq mtu).length ≤ 100 := by
  have e0 : wIcmp.length = 4 := rfl
  have e1 : wAsk.length = 3 := rfl
  have e2 : wAnswer.length = 6 := rfl
  have e3 : wUnr.length = 11 := rfl
  have e4 : wOver.length = 8 := rfl
  have e5 : wBig.length = 6 := rfl
  have a1 := addN_len wIcmp wAsk [id, seq] (all_cons (by omega) (all_cons (by omega) all_nil))
  have a2 := addN_len wIcmp wAnswer [id, seq] (all_cons (by omega) (all_cons (by omega) all_nil))
  have a3 := addN_len wIcmp wUnr [code] (all_cons (by omega) all_nil)
  have a4 := addN_len wIcmp wOver [code] (all_cons (by omega) all_nil)
  have a5 := addN_len wIcmp wBig [mtu] (all_cons (by omega) all_nil)
  simp only [List.length_cons, List.length_nil] at *
  unfold kindN
  repeat' split
  all_goals omega
theorem msg_cells6 {w : World} {b : Nat} {kind code id seq mtu : Int} {dv : Value} {T : TypeId} {fz : Nat × Nat} (h : w.heap[b]? = some (.cells #[.int .i64 kind, .int .u8 code, .int .u16 id, .int .u16 seq, .int .u32 mtu, dv] T fz)) :
    w.cell? ⟨b, 0, none⟩ = some (.int .i64 kind) ∧ w.cell? ⟨b, 1, none⟩ = some (.int .u8 code) ∧ w.cell? ⟨b, 2, none⟩ = some (.int .u16 id) ∧ w.cell? ⟨b, 3, none⟩ = some (.int .u16 seq) ∧ w.cell? ⟨b, 4, none⟩ = some (.int .u32 mtu) ∧ w.cell? ⟨b, 5, none⟩ = some dv := by
  refine ⟨?_, ?_, ?_, ?_, ?_, ?_⟩ <;> simp [World.cell?, h]
set_option maxRecDepth 20000 in
set_option maxHeartbeats 8000000 in
theorem message_any (kind : Int) (code id seq mtu n c : Nat) (A : Option Addr) (w : World) (h1 : code < 256) (h2 : id < 65536) (h3 : seq < 65536) (h4 : mtu < 4294967296) (hn : n ≤ 9223372036854775807) :
    Calls Try.prog 12 #[.agg #[.int .i64 kind, .int .u8 (code : Int), .int .u16 (id : Int), .int .u16 (seq : Int), .int .u32 (mtu : Int), .slice A n c]] w fun e w' => e = .returned (.string (strOf (msgN kind code id seq mtu n))) ∧ Below w.heap.size w w' := by
  have HDL := hid hn
  have v1 : (code : Int) % 18446744073709551616 = (code : Int) := by omega
  have v2 : (id : Int) % 18446744073709551616 = (id : Int) := by omega
  have v3 : (seq : Int) % 18446744073709551616 = (seq : Int) := by omega
  have v4 : (mtu : Int) % 18446744073709551616 = (mtu : Int) := by omega
  have HOC := hid (fun (W : World) (g : Nat) (h : W.heap[g]? = some (.cells #[.int .i64 kind, .int .u8 (code : Int), .int .u16 (id : Int), .int .u16 (seq : Int), .int .u32 (mtu : Int), .slice A n c] 38 (0, 0))) => msg_cells6 h)
  unfold msgN
  generalize hlk : kindN wIcmp kind code id seq mtu = lk
  have blk : lk.length ≤ 100 := by rw [← hlk]; exact kindN_len kind code id seq mtu h1 h2 h3 h4
  have nlk : lk ≠ [] := by rw [← hlk]; exact kindN_ne _ _ _ _ _ _ (by decide)
  generalize hlz : dataN lk n = lz
  have nlz : lz ≠ [] := by rw [← hlz]; exact dataN_ne _ _ nlk
  have Hlk := hid hlk
  have Hlz := hid hlz
  have NLK := hid nlk
  have NLZ := hid nlz
  have T1 := hid (tenS_20 code (by omega))
  have T2 := hid (tenS_20 id (by omega))
  have T3 := hid (tenS_20 seq (by omega))
  have T4 := hid (tenS_20 mtu (by omega))
  clear hlk hlz nlk nlz hn
  generalize hcs : (#[.int .i64 kind, .int .u8 (code : Int), .int .u16 (id : Int), .int .u16 (seq : Int), .int .u32 (mtu : Int), .slice A n c] : Array Value) = cs at HOC ⊢
  clear hcs
  obtain ⟨B, hB⟩ : ∃ B, w.heap.size = B := ⟨_, rfl⟩
  have HB := hid hB
  clear hB
  go_enter Try.func12, Try.ntmps12
  go_wp2_with ((with_reducible refine at_slot 1 ?_); refine wpList_boxF rfl 38 (.tmp 0) rfl cs rfl ?_; intro w1 hx1 hb1 hz1; rw [HB.out] at hx1 hb1 hz1 ⊢)
  have hx2 := nw0 w1 (.cells #[.pointer none, .slice none 0 0] 48) hx1
  have hn2 := nw1 w1 (.cells #[.pointer none, .slice none 0 0] 48)
  have hb2 := bl1 w1 (.cells #[.pointer none, .slice none 0 0] 48)
  rw [hz1] at hn2 hb2
  have HX := hid hx2
  have BD := hid (show Bld (w1.alloc (.cells #[.pointer none, .slice none 0 0] 48)) B (B + 1) [] from .inl ⟨by omega, .slice none 0 0, hn2, World.ownsRow_nil _ _ _ _, by simp [Value.ownBlock]⟩)
  have BB := hid (show Below B w (w1.alloc (.cells #[.pointer none, .slice none 0 0] 48)) from hb1.trans (hb2.mono (by omega)))
  have KK := hid (KeepT.refl (B + 1) (w1.alloc (.cells #[.pointer none, .slice none 0 0] 48)))
  have hz2 : (w1.alloc (.cells #[.pointer none, .slice none 0 0] 48)).heap.size = B + 1 + 1 := by rw [← hz1]; simp
  clear hx1 hb1 hz1 hn2 hb2 hx2
  generalize w1.alloc _ = w2 at *
  rw [← hz2]
  clear hz2
  (with_reducible refine Calls.mono (add2_any B (B + 1) [] wIcmp _ BD.out (by decide) (by have := BB.out.size; have := HB.out; omega) ⟨#[105, 99, 109, 112]⟩ rfl) ?_)
  rintro e w3 ⟨rfl, hd3, hb3, hk3⟩
  replace hd3 : Bld w3 B (B + 1) wIcmp := hd3
  have D3 := hid hd3
  have B3 := hid (BB.out.trans hb3)
  have K3 := hid (KK.out.trans hk3)
  clear hd3 hb3 hk3 BD BB KK
  have BD := D3
  have BB := B3
  have KK := K3
  clear D3 B3 K3
  obtain ⟨f0, f1, f2, f3, f4, f5⟩ := HOC.out _ _ (KK.out B _ _ _ (by omega) (by decide) HX.out)
  have h0 := hid (show kind = kind from rfl)
  go_upto_block 0 with fail
  go_cut [] (fun wx => Bld wx B (B + 1) lk ∧ Below B w wx ∧ KeepT (B + 1) w2 wx)
  case first =>
    by_cases hk1 : kind = 1
    · subst hk1
      have hn : lk = addN wIcmp wAsk [id, seq] := by rw [← Hlk.out]; rfl
      have HN := hid hn
      clear hn
      go_wp2_with fail
      (with_reducible refine Calls.mono (num2_any B (B + 1) wIcmp wAsk [id, seq] _ BD.out (by intro x hx; simp only [List.mem_cons, List.not_mem_nil, or_false] at hx; omega) (by decide) (by decide) (by have := BB.out.size; have := HB.out; omega) (by simp) ⟨#[97, 115, 107]⟩ rfl #[.int .u64 (id : Int), .int .u64 (seq : Int)] rfl 2 rfl) ?_)
      rintro e w4 ⟨rfl, hd4, hb4, hk4⟩
      have D4 := hid hd4
      have B4 := hid (BB.out.trans hb4)
      have K4 := hid (KK.out.trans hk4)
      clear hd4 hb4 hk4
      go_wp2_with fail
      go_meet
      case rel => exact ⟨by rw [HN.out]; exact D4.out, B4.out, K4.out⟩
    by_cases hk2 : kind = 2
    · subst hk2
      have hn : lk = addN wIcmp wAnswer [id, seq] := by rw [← Hlk.out]; rfl
      have HN := hid hn
      clear hn
      go_wp2_with fail
      (with_reducible refine Calls.mono (num2_any B (B + 1) wIcmp wAnswer [id, seq] _ BD.out (by intro x hx; simp only [List.mem_cons, List.not_mem_nil, or_false] at hx; omega) (by decide) (by decide) (by have := BB.out.size; have := HB.out; omega) (by simp) ⟨#[97, 110, 115, 119, 101, 114]⟩ rfl #[.int .u64 (id : Int), .int .u64 (seq : Int)] rfl 2 rfl) ?_)
      rintro e w4 ⟨rfl, hd4, hb4, hk4⟩
      have D4 := hid hd4
      have B4 := hid (BB.out.trans hb4)
      have K4 := hid (KK.out.trans hk4)
      clear hd4 hb4 hk4
      go_wp2_with fail
      go_meet
      case rel => exact ⟨by rw [HN.out]; exact D4.out, B4.out, K4.out⟩
    by_cases hk3 : kind = 3
    · subst hk3
      have hn : lk = addN wIcmp wUnr [code] := by rw [← Hlk.out]; rfl
      have HN := hid hn
      clear hn
      go_wp2_with fail
      (with_reducible refine Calls.mono (num2_any B (B + 1) wIcmp wUnr [code] _ BD.out (by intro x hx; simp only [List.mem_cons, List.not_mem_nil, or_false] at hx; omega) (by decide) (by decide) (by have := BB.out.size; have := HB.out; omega) (by simp) ⟨#[117, 110, 114, 101, 97, 99, 104, 97, 98, 108, 101]⟩ rfl #[.int .u64 (code : Int)] rfl 1 rfl) ?_)
      rintro e w4 ⟨rfl, hd4, hb4, hk4⟩
      have D4 := hid hd4
      have B4 := hid (BB.out.trans hb4)
      have K4 := hid (KK.out.trans hk4)
      clear hd4 hb4 hk4
      go_wp2_with fail
      go_meet
      case rel => exact ⟨by rw [HN.out]; exact D4.out, B4.out, K4.out⟩
    by_cases hk5 : kind = 5
    · subst hk5
      have hn : lk = addN wIcmp wOver [code] := by rw [← Hlk.out]; rfl
      have HN := hid hn
      clear hn
      go_wp2_with fail
      (with_reducible refine Calls.mono (num2_any B (B + 1) wIcmp wOver [code] _ BD.out (by intro x hx; simp only [List.mem_cons, List.not_mem_nil, or_false] at hx; omega) (by decide) (by decide) (by have := BB.out.size; have := HB.out; omega) (by simp) ⟨#[116, 105, 109, 101, 111, 118, 101, 114]⟩ rfl #[.int .u64 (code : Int)] rfl 1 rfl) ?_)
      rintro e w4 ⟨rfl, hd4, hb4, hk4⟩
      have D4 := hid hd4
      have B4 := hid (BB.out.trans hb4)
      have K4 := hid (KK.out.trans hk4)
      clear hd4 hb4 hk4
      go_wp2_with fail
      go_meet
      case rel => exact ⟨by rw [HN.out]; exact D4.out, B4.out, K4.out⟩
    by_cases hk4 : kind = 4
    · subst hk4
      have hn : lk = addN wIcmp wBig [mtu] := by rw [← Hlk.out]; rfl
      have HN := hid hn
      clear hn
      go_wp2_with fail
      (with_reducible refine Calls.mono (num2_any B (B + 1) wIcmp wBig [mtu] _ BD.out (by intro x hx; simp only [List.mem_cons, List.not_mem_nil, or_false] at hx; omega) (by decide) (by decide) (by have := BB.out.size; have := HB.out; omega) (by simp) ⟨#[116, 111, 111, 98, 105, 103]⟩ rfl #[.int .u64 (mtu : Int)] rfl 1 rfl) ?_)
      rintro e w4 ⟨rfl, hd4, hb4, hk4⟩
      have D4 := hid hd4
      have B4 := hid (BB.out.trans hb4)
      have K4 := hid (KK.out.trans hk4)
      clear hd4 hb4 hk4
      go_wp2_with fail
      go_meet
      case rel => exact ⟨by rw [HN.out]; exact D4.out, B4.out, K4.out⟩
    have hn : lk = wIcmp := by rw [← Hlk.out]; unfold kindN; rw [if_neg hk1, if_neg hk2, if_neg hk3, if_neg hk5, if_neg hk4]
    have HN := hid hn
    have u1 : (kind == 1) = false := by simpa using hk1
    have u2 : (kind == 2) = false := by simpa using hk2
    have u3 : (kind == 3) = false := by simpa using hk3
    have u5 : (kind == 5) = false := by simpa using hk5
    have u4 : (kind == 4) = false := by simpa using hk4
    clear hn hk1 hk2 hk3 hk4 hk5
    go_wp2_with fail
    go_meet
    case rel => exact ⟨by rw [HN.out]; exact BD.out, BB.out, KK.out⟩
  case rest =>
    obtain ⟨hd3, hb3, hk3⟩ := hcut
    clear BD BB KK f0 f1 f2 f3 f4 f5
    have BD := hid hd3
    have BB := hid hb3
    have KK := hid hk3
    clear hd3 hb3 hk3
    obtain ⟨f0, f1, f2, f3, f4, f5⟩ := HOC.out _ _ (KK.out B _ _ _ (by omega) (by decide) HX.out)
    go_wp2_with fail
    (with_reducible refine Calls.mono (data_any B (B + 1) lk n _ BD.out (by omega) (by have := BB.out.size; have := HB.out; omega) HDL.out) ?_)
    rintro e w3 ⟨rfl, hd3, hb3, hk3⟩
    rw [Hlz.out] at hd3
    have D3 := hid hd3
    have B3 := hid (BB.out.trans hb3)
    have K3 := hid (KK.out.trans hk3)
    clear hd3 hb3 hk3 BD BB KK
    have BD := D3
    have BB := B3
    have KK := K3
    clear D3 B3 K3
    clear f0 f1 f2 f3 f4 f5
    go_wp2_with fail
    (with_reducible refine Calls.mono (bstring_any B (B + 1) lz _ BD.out NLZ.out) ?_)
    rintro e w9 ⟨rfl, hb9⟩
    go_wp2_with fail
    go_ret
    exact ⟨rfl, by rw [HB.out]; exact BB.out.trans hb9⟩
set_option maxRecDepth 20000 in
set_option maxHeartbeats 8000000 in
theorem rmessage_any (kind : Int) (code id seq mtu n c : Nat) (A : Option Addr) (w : World) (h1 : code < 256) (h2 : id < 65536) (h3 : seq < 65536) (h4 : mtu < 4294967296) (hn : n ≤ 9223372036854775807) :
    Calls Try.prog 13 #[.agg #[.int .i64 kind, .int .u8 (code : Int), .int .u16 (id : Int), .int .u16 (seq : Int), .int .u32 (mtu : Int), .slice A n c]] w fun e w' => e = .returned (.string (strOf (msgN kind code id seq mtu n))) ∧ Below w.heap.size w w' := by
  have HT := hid rten_any
  have HDL := hid hn
  have v1 : (code : Int) % 18446744073709551616 = (code : Int) := by omega
  have v2 : (id : Int) % 18446744073709551616 = (id : Int) := by omega
  have v3 : (seq : Int) % 18446744073709551616 = (seq : Int) := by omega
  have v4 : (mtu : Int) % 18446744073709551616 = (mtu : Int) := by omega
  have HOC := hid (fun (W : World) (g : Nat) (h : W.heap[g]? = some (.cells #[.int .i64 kind, .int .u8 (code : Int), .int .u16 (id : Int), .int .u16 (seq : Int), .int .u32 (mtu : Int), .slice A n c] 37 (0, 0))) => msg_cells6 h)
  unfold msgN
  generalize hlk : kindN wIcmp kind code id seq mtu = lk
  have blk : lk.length ≤ 100 := by rw [← hlk]; exact kindN_len kind code id seq mtu h1 h2 h3 h4
  have nlk : lk ≠ [] := by rw [← hlk]; exact kindN_ne _ _ _ _ _ _ (by decide)
  generalize hlz : dataN lk n = lz
  have nlz : lz ≠ [] := by rw [← hlz]; exact dataN_ne _ _ nlk
  have Hlk := hid hlk
  have Hlz := hid hlz
  have NLK := hid nlk
  have NLZ := hid nlz
  have T1 := hid (tenS_20 code (by omega))
  have T2 := hid (tenS_20 id (by omega))
  have T3 := hid (tenS_20 seq (by omega))
  have T4 := hid (tenS_20 mtu (by omega))
  clear hlk hlz nlk nlz hn
  generalize hcs : (#[.int .i64 kind, .int .u8 (code : Int), .int .u16 (id : Int), .int .u16 (seq : Int), .int .u32 (mtu : Int), .slice A n c] : Array Value) = cs at HOC ⊢
  clear hcs
  obtain ⟨B, hB⟩ : ∃ B, w.heap.size = B := ⟨_, rfl⟩
  have HB := hid hB
  clear hB
  go_enter Try.func13, Try.ntmps13
  go_upto_block 0 with ((with_reducible refine at_slot 1 ?_); refine wpList_boxF rfl 37 (.tmp 0) rfl cs rfl ?_; intro w1 hx1 hb1 hz1; rw [HB.out] at hx1 hb1 hz1 ⊢; obtain ⟨f0, f1, f2, f3, f4, f5⟩ := HOC.out _ _ hx1)
  have HX := hid hx1
  have BB := hid hb1
  clear hx1 hb1 hz1
  go_cut [3] (fun s3 wx => s3 = .string (strOf lk) ∧ wx.heap[B]? = some (.cells cs 37 (0, 0)) ∧ Below B w wx)
  case first =>
    by_cases hk1 : kind = 1
    · subst hk1
      have hn : lk = addN wIcmp wAsk [id, seq] := by rw [← Hlk.out]; rfl
      have HN := hid hn
      clear hn
      have z1 := fit_1 5 (tenS id) (by decide) (Nat.le_trans T2.out (by decide))
      go_wp2_with fail
      have hol := (Array.getElem?_eq_some_iff.1 HX.out).1
      refine wp_region_later w1.heap.size (Nat.le_refl _) (by kernel_rfl) (by kernel_rfl) ?_
      have q2 := fun x : Later w1.heap.size w1 => x.cell f2 hol
      have q3 := fun x : Later w1.heap.size w1 => x.cell f3 hol
      clear f0 f1 f2 f3 f4 f5
      have x1 : IntKind.u64.wrap (id : Int) = (id : Int) := by rw [IntKind.wrap_u64]; omega
      have x2 : IntKind.u64.wrap (seq : Int) = (seq : Int) := by rw [IntKind.wrap_u64]; omega
      have y2 := fit_3 5 1 (tenS id) (by decide) (by decide) (Nat.le_trans T2.out (by decide))
      have y3 := fit_4 5 1 (tenS id) (tenS seq) (by decide) (by decide) (Nat.le_trans T2.out (by decide)) (Nat.le_trans T3.out (by decide))
      have y4 : (9223372036854775807 < 4 + (5 + (strOf (tenS id)).size + 1 + (strOf (tenS seq)).size)) = False := fit_5 5 1 wIcmp (tenS id) (tenS seq) (by decide) (by decide) (by decide) (Nat.le_trans T2.out (by decide)) (Nat.le_trans T3.out (by decide))
      repeat (go_big_quiet_step (first
        | (go_at_call 24; with_reducible exact quiet_later _ (Nat.le_refl _) (HT.out id _ (by omega)))
        | (go_at_call 24; with_reducible exact quiet_later _ (Nat.le_refl _) (HT.out seq _ (by omega)))))
      refine wpQuiet_nil ?_
      rintro _ ⟨lx, rfl⟩
      have hxo := lx.ok
      have HX4 := hid ((hxo.block _ (Array.getElem?_eq_some_iff.1 HX.out).1).trans HX.out)
      have BB4 := hid (BB.out.trans (hxo.mono (by have := BB.out.size; have := HB.out; omega)))
      clear HX BB hxo
      have HX := HX4
      have BB := BB4
      clear HX4 BB4
      clear hol q2 q3
      go_wp2_with fail
      go_meet
      case rel => exact ⟨by rw [HN.out, ← str_addN2 wIcmp wAsk id seq (by decide) ⟨#[32, 97, 115, 107, 32]⟩ rfl]; rfl, HX.out, BB.out⟩
    by_cases hk2 : kind = 2
    · subst hk2
      have hn : lk = addN wIcmp wAnswer [id, seq] := by rw [← Hlk.out]; rfl
      have HN := hid hn
      clear hn
      have z1 := fit_1 8 (tenS id) (by decide) (Nat.le_trans T2.out (by decide))
      go_wp2_with fail
      have hol := (Array.getElem?_eq_some_iff.1 HX.out).1
      refine wp_region_later w1.heap.size (Nat.le_refl _) (by kernel_rfl) (by kernel_rfl) ?_
      have q2 := fun x : Later w1.heap.size w1 => x.cell f2 hol
      have q3 := fun x : Later w1.heap.size w1 => x.cell f3 hol
      clear f0 f1 f2 f3 f4 f5
      have x1 : IntKind.u64.wrap (id : Int) = (id : Int) := by rw [IntKind.wrap_u64]; omega
      have x2 : IntKind.u64.wrap (seq : Int) = (seq : Int) := by rw [IntKind.wrap_u64]; omega
      have y2 := fit_3 8 1 (tenS id) (by decide) (by decide) (Nat.le_trans T2.out (by decide))
      have y3 := fit_4 8 1 (tenS id) (tenS seq) (by decide) (by decide) (Nat.le_trans T2.out (by decide)) (Nat.le_trans T3.out (by decide))
      have y4 : (9223372036854775807 < 4 + (8 + (strOf (tenS id)).size + 1 + (strOf (tenS seq)).size)) = False := fit_5 8 1 wIcmp (tenS id) (tenS seq) (by decide) (by decide) (by decide) (Nat.le_trans T2.out (by decide)) (Nat.le_trans T3.out (by decide))
      repeat (go_big_quiet_step (first
        | (go_at_call 24; with_reducible exact quiet_later _ (Nat.le_refl _) (HT.out id _ (by omega)))
        | (go_at_call 24; with_reducible exact quiet_later _ (Nat.le_refl _) (HT.out seq _ (by omega)))))
      refine wpQuiet_nil ?_
      rintro _ ⟨lx, rfl⟩
      have hxo := lx.ok
      have HX4 := hid ((hxo.block _ (Array.getElem?_eq_some_iff.1 HX.out).1).trans HX.out)
      have BB4 := hid (BB.out.trans (hxo.mono (by have := BB.out.size; have := HB.out; omega)))
      clear HX BB hxo
      have HX := HX4
      have BB := BB4
      clear HX4 BB4
      clear hol q2 q3
      go_wp2_with fail
      go_meet
      case rel => exact ⟨by rw [HN.out, ← str_addN2 wIcmp wAnswer id seq (by decide) ⟨#[32, 97, 110, 115, 119, 101, 114, 32]⟩ rfl]; rfl, HX.out, BB.out⟩
    by_cases hk3 : kind = 3
    · subst hk3
      have hn : lk = addN wIcmp wUnr [code] := by rw [← Hlk.out]; rfl
      have HN := hid hn
      clear hn
      have z1 := fit_1 13 (tenS code) (by decide) (Nat.le_trans T1.out (by decide))
      go_wp2_with fail
      (with_reducible refine Calls.mono (HT.out code _ (by omega)) ?_)
      rintro e w4 ⟨rfl, hb4⟩
      have HX4 := hid ((hb4.block _ (Array.getElem?_eq_some_iff.1 HX.out).1).trans HX.out)
      have BB4 := hid (BB.out.trans (hb4.mono (by have := BB.out.size; have := HB.out; omega)))
      clear HX BB hb4
      have HX := HX4
      have BB := BB4
      clear HX4 BB4
      clear f0 f1 f2 f3 f4 f5
      have z2 : (9223372036854775807 < 4 + (13 + (strOf (tenS code)).size)) = False := fit_2 13 wIcmp (tenS code) (by decide) (by decide) (Nat.le_trans T1.out (by decide))
      go_wp2_with fail
      go_meet
      case rel => exact ⟨by rw [HN.out, ← str_addN wIcmp wUnr code (by decide) ⟨#[32, 117, 110, 114, 101, 97, 99, 104, 97, 98, 108, 101, 32]⟩ rfl]; rfl, HX.out, BB.out⟩
    by_cases hk5 : kind = 5
    · subst hk5
      have hn : lk = addN wIcmp wOver [code] := by rw [← Hlk.out]; rfl
      have HN := hid hn
      clear hn
      have z1 := fit_1 10 (tenS code) (by decide) (Nat.le_trans T1.out (by decide))
      go_wp2_with fail
      (with_reducible refine Calls.mono (HT.out code _ (by omega)) ?_)
      rintro e w4 ⟨rfl, hb4⟩
      have HX4 := hid ((hb4.block _ (Array.getElem?_eq_some_iff.1 HX.out).1).trans HX.out)
      have BB4 := hid (BB.out.trans (hb4.mono (by have := BB.out.size; have := HB.out; omega)))
      clear HX BB hb4
      have HX := HX4
      have BB := BB4
      clear HX4 BB4
      clear f0 f1 f2 f3 f4 f5
      have z2 : (9223372036854775807 < 4 + (10 + (strOf (tenS code)).size)) = False := fit_2 10 wIcmp (tenS code) (by decide) (by decide) (Nat.le_trans T1.out (by decide))
      go_wp2_with fail
      go_meet
      case rel => exact ⟨by rw [HN.out, ← str_addN wIcmp wOver code (by decide) ⟨#[32, 116, 105, 109, 101, 111, 118, 101, 114, 32]⟩ rfl]; rfl, HX.out, BB.out⟩
    by_cases hk4 : kind = 4
    · subst hk4
      have hn : lk = addN wIcmp wBig [mtu] := by rw [← Hlk.out]; rfl
      have HN := hid hn
      clear hn
      have z1 := fit_1 8 (tenS mtu) (by decide) (Nat.le_trans T4.out (by decide))
      go_wp2_with fail
      (with_reducible refine Calls.mono (HT.out mtu _ (by omega)) ?_)
      rintro e w4 ⟨rfl, hb4⟩
      have HX4 := hid ((hb4.block _ (Array.getElem?_eq_some_iff.1 HX.out).1).trans HX.out)
      have BB4 := hid (BB.out.trans (hb4.mono (by have := BB.out.size; have := HB.out; omega)))
      clear HX BB hb4
      have HX := HX4
      have BB := BB4
      clear HX4 BB4
      clear f0 f1 f2 f3 f4 f5
      have z2 : (9223372036854775807 < 4 + (8 + (strOf (tenS mtu)).size)) = False := fit_2 8 wIcmp (tenS mtu) (by decide) (by decide) (Nat.le_trans T4.out (by decide))
      go_wp2_with fail
      go_meet
      case rel => exact ⟨by rw [HN.out, ← str_addN wIcmp wBig mtu (by decide) ⟨#[32, 116, 111, 111, 98, 105, 103, 32]⟩ rfl]; rfl, HX.out, BB.out⟩
    have hn : lk = wIcmp := by rw [← Hlk.out]; unfold kindN; rw [if_neg hk1, if_neg hk2, if_neg hk3, if_neg hk5, if_neg hk4]
    have HN := hid hn
    have u1 : (kind == 1) = false := by simpa using hk1
    have u2 : (kind == 2) = false := by simpa using hk2
    have u3 : (kind == 3) = false := by simpa using hk3
    have u5 : (kind == 5) = false := by simpa using hk5
    have u4 : (kind == 4) = false := by simpa using hk4
    clear hn hk1 hk2 hk3 hk4 hk5
    go_wp2_with fail
    go_meet
    case rel => exact ⟨by rw [HN.out]; rfl, HX.out, BB.out⟩
  case rest =>
    obtain ⟨rfl, hx3, hb3⟩ := hcut
    clear HX BB f0 f1 f2 f3 f4 f5
    have HX := hid hx3
    have BB := hid hb3
    clear hx3 hb3
    obtain ⟨f0, f1, f2, f3, f4, f5⟩ := HOC.out _ _ HX.out
    go_wp2_with fail
    (with_reducible refine Calls.mono (rdata_any n _ HDL.out) ?_)
    rintro e w4 ⟨rfl, hb4⟩
    have hfd := fit_d lk (dataT n) (by omega) (Nat.le_trans (dataT_len _ HDL.out) (by decide))
    go_wp2_with fail
    go_ret
    exact ⟨by rw [← Hlz.out, ← str_data lk n NLK.out]; rfl, by rw [HB.out]; exact BB.out.trans (hb4.mono (by have := BB.out.size; have := HB.out; omega))⟩
end Go.Proofs.Ytfliddlcbnaoiaa
