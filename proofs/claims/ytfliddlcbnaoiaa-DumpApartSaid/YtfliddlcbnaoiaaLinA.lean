/- dump.digits; line.add, line.num, line.data. -/
import Derived.Test.YtfliddlcbnaoiaaBld
import Derived.Test.YtfliddlcbnaoiaaBlk
import Derived.Test.YtfliddlcbnaoiaaStr
import Derived.Test.YtfliddlcbnaoiaaOps
import Derived.Test.YtfliddlcbnaoiaaDumR
namespace Go.Proofs.Ytfliddlcbnaoiaa
set_option linter.unusedVariables false
set_option linter.unusedSimpArgs false
open Go.RowKit

theorem KeepT.of_below {b : Nat} {w w' : World} (h : Below w.heap.size w w') : KeepT b w w' := fun k cs T fr _ _ hc => by
  rw [h.block k (by rcases Nat.lt_or_ge k w.heap.size with h' | h'
                    · exact h'
                    · simp [Array.getElem?_eq_none h'] at hc)]
  exact hc
theorem alloc_20 : ∀ w, (Instr.alloc 77 true (.tuple #[])).run Try.prog w = .ok (.pointer (some ⟨w.heap.size, 0, none⟩)) (w.alloc (.cells (by8 (List.replicate 20 0)).toArray 77)) := by intro w; kernel_rfl
theorem slice_20 (xb q : Nat) (hq : q < 20) (W : World) : (Instr.sliceAt 77 (.pointer (some ⟨xb, 0, none⟩)) (some (.int .i64 (q : Int))) none none).run Try.prog W = .ok (.slice (some ⟨xb, q, none⟩) (20 - q) (20 - q)) W := by
  have hl : Try.prog.arrayLen 77 = 20 := by kernel_rfl
  have he : Try.prog.elem 77 = 5 := by kernel_rfl
  have hz : (Go.sizeOf 5).run Try.prog W = .ok 1 W := by kernel_rfl
  rw [run_sliceAt_array_l W 77 ⟨xb, 0, none⟩ (by rw [hl, he]; exact Try.underlying77) .i64 (q : Int) (by omega) (by rw [hl]; omega), hl, he, hz]
  simp only [Result.andThen_ok, slicedAt, Int.toNat_natCast]
  rw [if_neg (by omega), Nat.mul_one]
  congr 3
  unfold Addr.add
  split
  · subst_vars; rfl
  · simp
set_option maxHeartbeats 2000000 in
theorem digits_any (n : Nat) (w : World) (hn : n < 18446744073709551616) : Calls Try.prog 30 #[.int .u64 (n : Int)] w fun e w' => e = .returned (.string (strOf (tenS n))) ∧ Below w.heap.size w w' := by
  go_enter Try.func30, Try.ntmps30
  go_wp2_with fail
  have h0 := nw1 w (.cells (by8 (List.replicate 20 0)).toArray 77)
  have hb0 := bl1 w (.cells (by8 (List.replicate 20 0)).toArray 77)
  obtain ⟨xb, hxb⟩ : ∃ xb, w.heap.size = xb := ⟨_, rfl⟩
  have HX := hid hxb
  rw [hxb] at h0 ⊢
  clear hxb
  have HB0 := hid hb0
  clear hb0
  go_loopw [0, 4] (fun n' at' wr => ∃ (m p : Nat) (ys : List UInt8), m < 18446744073709551616 ∧ 1 ≤ p ∧ p ≤ 20 ∧ m < 10 ^ p ∧ ys.length = 20 ∧ n' = .int .u64 m ∧ at' = .int .i64 p ∧ tenS n = tenS m ++ ys.drop p ∧ wr.heap[xb]? = some (.cells (by8 ys).toArray 77 (0, 0)) ∧ Below xb w wr) (fun _ at' _ => (intOf at').toNat)
  case atStart => exact ⟨n, 20, List.replicate 20 0, hn, by decide, by decide, by omega, rfl, rfl, rfl, by simp, h0, by rw [← HX.out]; exact HB0.out⟩
  case round =>
    obtain ⟨m, p, ys, hm, hp1, hp2, hmp, hyl, rfl, rfl, ht, hblk, hb⟩ := hrel
    clear h0 HB0
    obtain ⟨q, hq⟩ : ∃ q, p = q + 1 := ⟨p - 1, by omega⟩
    obtain ⟨dg, hdg⟩ : ∃ dg, m % 10 = dg := ⟨_, rfl⟩
    obtain ⟨dv, hdv⟩ : ∃ dv, m / 10 = dv := ⟨_, rfl⟩
    have g1 : (m : Int) % 10 = (dg : Int) := by omega
    have g2 : (m : Int).tmod 10 = (dg : Int) := by rw [Int.tmod_eq_emod_of_nonneg (by omega)]; omega
    have g3 : (m : Int).tdiv 10 = (dv : Int) := by rw [Int.tdiv_eq_ediv_of_nonneg (by omega)]; omega
    have g4 : (m : Int) / 10 = (dv : Int) := by omega
    have hd9 : dg ≤ 9 := by omega
    have c1 : wr.cell? ⟨xb, q, none⟩ = some (.int .u8 ((ys.getD q 0).toNat : Int)) := by
      rw [Lib.cell_of_heap hblk]
      have := by8_get ys q (by omega)
      simpa using this
    have f1 : wr.frozen? ⟨xb, q, none⟩ = false := Lib.frozen_of_heap hblk q
    have HYL := hid hyl
    have HMP := hid hmp
    have HT := hid ht
    have HBK := hid hblk
    have HB := hid hb
    have HQ := hid hq
    have hvl : dv < 18446744073709551616 := by omega
    have HDG := hid hdg
    have HDV := hid hdv
    have hq2 : (p : Int) - 1 = (q : Int) := by omega
    obtain ⟨D, hD⟩ : ∃ D, UInt8.ofNat (48 + dg) = D := ⟨_, rfl⟩
    have hDn : (48 : Int) + (dg : Int) = (D.toNat : Int) := by rw [← hD, digit_val dg (by omega)]; omega
    have hbk2 := rowSetCell HBK.out q (.int .u8 (48 + (dg : Int)))
    have he2 : (by8 ys).toArray.setIfInBounds q (.int .u8 (48 + (dg : Int))) = (by8 (ys.set q D)).toArray := by
      rw [by8_set, hDn, List.setIfInBounds_toArray]
      rfl
    rw [he2] at hbk2
    have hb2 : Below xb w (wr.setCell ⟨xb, q, none⟩ (.int .u8 (48 + (dg : Int)))) := HB.out.setCell (p := ⟨xb, q, none⟩) (Nat.le_refl _) _
    have hdr : (ys.set q D).drop q = D :: ys.drop p := by
      rw [HQ.out, List.drop_eq_getElem_cons (by rw [List.length_set, HYL.out]; have := HQ.out; omega), List.getElem_set_self, List.drop_set_of_lt (by omega)]
    have hrb : RB (wr.setCell ⟨xb, q, none⟩ (.int .u8 (48 + (dg : Int)))) (.slice (some ⟨xb, q, none⟩) (20 - q) (20 - q)) (D :: ys.drop p) := by
      refine RB.inBlock hbk2 ?_ (Nat.le_refl _) (by omega) fun j v hv => ?_
      · rw [← hdr, List.length_drop, List.length_set, HYL.out]
      · rw [← hdr] at hv
        rw [List.getElem?_toArray]
        rw [show by8 ((ys.set q D).drop q) = (by8 (ys.set q D)).drop q by simp [by8], List.getElem?_drop] at hv
        exact hv
    have hsl := slice_20 xb q (by have := HQ.out; omega) (wr.setCell ⟨xb, q, none⟩ (.int .u8 (48 + (dg : Int))))
    have hcv := conv_str hrb
    have HB2 := hid hb2
    have HBK2 := hid hbk2
    have HDR := hid hdr
    have HDD := hid hD
    clear hb2 hbk2 hdr hD hDn he2 hrb HBK HB
    clear hyl hmp ht hblk hb hq hdg hdv
    by_cases hz : dv = 0
    · have hz2 : ((dv : Int) == 0) = true := by simp [hz]
      have HZ := hid hz
      clear hz
      go_wp2_with fail
      go_ret
      refine ⟨?_, by rw [HX.out]; exact HB2.out⟩
      have h10 : m < 10 := by have := HDV.out; have := HZ.out; omega
      rw [HT.out, tenS_small m h10, ← HDD.out, ← HDG.out, Nat.mod_eq_of_lt h10]
      rfl
    · have hz2 : ((dv : Int) == 0) = false := by simpa using hz
      have HZ := hid hz
      clear hz
      go_wp2_with fail
      go_roundw
      case rel =>
        have h10 : ¬ m < 10 := by have := HDV.out; have := HZ.out; omega
        refine ⟨dv, q, ys.set q D, hvl, ?_, by have := HQ.out; omega, ?_, by rw [List.length_set]; exact HYL.out, rfl, rfl, ?_, HBK2.out, HB2.out⟩
        · rcases Nat.eq_zero_or_pos q with h | h
          · exfalso
            have := HMP.out
            rw [HQ.out, h] at this
            omega
          · exact h
        · have := HMP.out
          rw [HQ.out, Nat.pow_succ] at this
          rw [← HDV.out]
          omega
        · rw [HT.out, tenS_big m h10, HDV.out, HDR.out, ← HDD.out, ← HDG.out]
          simp
      case measure => have := HQ.out; simp [intOf]; omega
theorem bstr_of (B b : Nat) (l s : List UInt8) (w : World) (h : Bld w B b l) (hlen : l.length + s.length ≤ 140737488355328) (hBw : B ≤ w.heap.size) :
    Calls Try.prog 33 #[.pointer (some ⟨b, 0, none⟩), .string (strOf s)] w fun e w' => (∃ x, e = .returned x) ∧ Bld w' B b (l ++ s) ∧ Below B w w' ∧ KeepT b w w' := bstr_any B b l s w h hlen hBw
theorem bblank_any (B b : Nat) (l : List UInt8) (w : World) (h : Bld w B b l) (hlen : l.length + 1 ≤ 140737488355328) (hBw : B ≤ w.heap.size) :
    Calls Try.prog 32 #[.pointer (some ⟨b, 0, none⟩), .int .u8 32] w fun e w' => e = .returned .nilIface ∧ Bld w' B b (l ++ [32]) ∧ Below B w w' ∧ KeepT b w w' := bbyte_any B b l 32 w h hlen hBw
/-- A part more. -/
def addS (cur p : List UInt8) : List UInt8 := if cur = [] then p else cur ++ 32 :: p
def lenS (ps : List (List UInt8)) : Nat := ps.foldr (fun p n => p.length + 1 + n) 0
theorem addS_len (cur p : List UInt8) : (addS cur p).length ≤ cur.length + p.length + 1 := by
  unfold addS
  split
  · subst_vars; simp
  · simp; omega
theorem foldS_len (ps : List (List UInt8)) : ∀ (l : List UInt8) (k : Nat), k ≤ ps.length → ((ps.take k).foldl addS l).length + lenS (ps.drop k) ≤ l.length + lenS ps := by
  induction ps with
  | nil => intro l k h; simp at h; subst h; simp [lenS]
  | cons p ps ih =>
    intro l k h
    cases k with
    | zero => simp
    | succ k =>
      have := ih (addS l p) k (by simpa using h)
      have h2 := addS_len l p
      simp only [List.take_succ_cons, List.foldl_cons, List.drop_succ_cons, lenS, List.foldr_cons] at *
      omega
theorem foldS_take (ps : List (List UInt8)) (l : List UInt8) (k : Nat) (h : k < ps.length) : (ps.take (k + 1)).foldl addS l = addS ((ps.take k).foldl addS l) (ps.getD k []) := by
  rw [List.take_add_one, List.foldl_append]
  simp [List.getD_eq_getElem?_getD, List.getElem?_eq_getElem h]
theorem lenS_drop (ps : List (List UInt8)) (k : Nat) (h : k < ps.length) : lenS (ps.drop k) = (ps.getD k []).length + 1 + lenS (ps.drop (k + 1)) := by
  rw [List.drop_eq_getElem_cons h, show ps.getD k [] = ps[k] by simp [List.getD_eq_getElem?_getD, List.getElem?_eq_getElem h]]
  rfl
def strVs (ps : List (List UInt8)) : List Value := ps.map fun p => .string (strOf p)
theorem strVs_at (ps : List (List UInt8)) (k : Nat) (h : k < ps.length) : (strVs ps)[k]? = some (.string (strOf (ps.getD k []))) := by
  simp [strVs, List.getD_eq_getElem?_getD, List.getElem?_eq_getElem h]
set_option maxHeartbeats 2000000 in
theorem add_any (B b pb : Nat) (l : List UInt8) (ps : List (List UInt8)) (w : World) (h : Bld w B b l) (hp : w.heap[pb]? = some (.cells (strVs ps).toArray 9 (0, 0))) (hne : pb ≠ b) (hl : l.length + lenS ps ≤ 1000000000) (hBw : B ≤ w.heap.size) (hpl : ps.length ≤ 1000) :
    Calls Try.prog 18 #[.pointer (some ⟨b, 0, none⟩), .slice (some ⟨pb, 0, none⟩) ps.length ps.length] w fun e w' => e = .returned (.tuple #[]) ∧ Bld w' B b (ps.foldl addS l) ∧ Below B w w' ∧ KeepT b w w' := by
  have H := hid h
  have HP := hid hp
  have HBw := hid hBw
  have HL := hid hl
  clear h hp hBw hl
  go_enter Try.func18, Try.ntmps18
  go_wp2_with fail
  go_loopw [8] (fun i wr => ∃ k : Nat, k ≤ ps.length ∧ i = .int .i64 k ∧ Bld wr B b ((ps.take k).foldl addS l) ∧ Below B w wr ∧ KeepT b w wr) (fun i _ => ps.length - (intOf i).toNat)
  case atStart => exact ⟨0, Nat.zero_le _, rfl, H.out, Below.refl _ _, KeepT.refl _ _⟩
  case round =>
    obtain ⟨k, hk, rfl, hbd, hb, hkt⟩ := hrel
    by_cases hlt : k < ps.length
    · have hpk := hkt pb _ _ _ hne (by decide) HP.out
      have hc : wr.cell? ⟨pb, k, none⟩ = some (.string (strOf (ps.getD k []))) := by
        rw [Lib.cell_of_heap hpk, List.getElem?_toArray]
        exact strVs_at ps k hlt
      have hfl := foldS_len ps l k (by omega)
      have hft := foldS_take ps l k hlt
      rw [lenS_drop ps k hlt] at hfl
      generalize ps.getD k [] = p at hc hfl hft
      generalize (ps.take k).foldl addS l = cur at hbd hfl hft
      have HC := hid hc
      have HBD := hid hbd
      have HB := hid hb
      have HKT := hid hkt
      have HFL := hid hfl
      have HFT := hid hft
      have hki : (k : Int) < (ps.length : Int) := by omega
      clear hbd hb hkt hfl hft hpk HC
      go_wp2_with fail
      (with_reducible refine Calls.mono (blen_any B b cur wr HBD.out) ?_)
      rintro e w1 ⟨rfl, rfl⟩
      cases cur with
      | nil =>
        go_wp2_with fail
        (with_reducible refine Calls.mono (bstr_of B b [] p wr HBD.out (by have := HFL.out; have := HL.out; simp at *; omega) (by have := HB.out.size; have := HBw.out; omega)) ?_)
        rintro e w2 ⟨⟨x, rfl⟩, hbd2, hb2, hk2⟩
        have HBD2 := hid hbd2
        have HB2 := hid (HB.out.trans hb2)
        have HK2 := hid (HKT.out.trans hk2)
        clear hbd2 hb2 hk2
        go_wp2_with fail
        go_roundw
        case rel => exact ⟨k + 1, by omega, by go_num, by rw [HFT.out]; exact HBD2.out, HB2.out, HK2.out⟩
        case measure => simp [intOf]; omega
      | cons c0 cs0 =>
        obtain ⟨cur, hcur⟩ : ∃ cur, c0 :: cs0 = cur := ⟨_, rfl⟩
        rw [hcur] at HBD HFL HFT ⊢
        have hcl : 0 < cur.length := by rw [← hcur]; simp
        have hcn : cur ≠ [] := by rw [← hcur]; simp
        have hci : decide ((0 : Int) < (cur.length : Int)) = true := decide_eq_true (by omega)
        have hci2 : decide (0 < cur.length) = true := decide_eq_true (by omega)
        clear hcur hcl
        have HCN := hid hcn
        clear hcn
        go_wp2_with fail
        (with_reducible refine Calls.mono (bblank_any B b cur wr HBD.out (by have := HFL.out; have := HL.out; omega) (by have := HB.out.size; have := HBw.out; omega)) ?_)
        rintro e w2 ⟨rfl, hbd2, hb2, hk2⟩
        have HBD2 := hid hbd2
        have HB2 := hid (HB.out.trans hb2)
        have HK2 := hid (HKT.out.trans hk2)
        clear hbd2 hb2 hk2
        go_wp2_with fail
        (with_reducible refine Calls.mono (bstr_of B b (cur ++ [32]) p w2 HBD2.out (by have := HFL.out; have := HL.out; simp; omega) (by have := HB2.out.size; have := HBw.out; omega)) ?_)
        rintro e w3 ⟨⟨x, rfl⟩, hbd3, hb3, hk3⟩
        have HBD3 := hid hbd3
        have HB3 := hid (HB2.out.trans hb3)
        have HK3 := hid (HK2.out.trans hk3)
        clear hbd3 hb3 hk3
        go_wp2_with fail
        go_roundw
        case rel => exact ⟨k + 1, by omega, by go_num, by rw [HFT.out, addS, if_neg HCN.out, show cur ++ 32 :: p = cur ++ [32] ++ p by simp]; exact HBD3.out, HB3.out, HK3.out⟩
        case measure => simp [intOf]; omega
    · obtain rfl : k = ps.length := by omega
      rw [List.take_length] at hbd
      clear H HP
      go_wp2_with fail
      go_end0
      exact ⟨rfl, hbd, hb, hkt⟩
end Go.Proofs.Ytfliddlcbnaoiaa
