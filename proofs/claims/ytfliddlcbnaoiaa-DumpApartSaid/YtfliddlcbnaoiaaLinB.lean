/- line.num, line.data. -/
import Derived.Test.YtfliddlcbnaoiaaLinA
namespace Go.Proofs.Ytfliddlcbnaoiaa
set_option linter.unusedVariables false
set_option linter.unusedSimpArgs false
open Go.RowKit

def numVs (ns : List Nat) : List Value := ns.map fun (n : Nat) => Value.int .u64 (n : Int)
theorem numVs_at (ns : List Nat) (k : Nat) (h : k < ns.length) : (numVs ns)[k]? = some (.int .u64 ((ns.getD k 0 : Nat) : Int)) := by
  simp [numVs, List.getD_eq_getElem?_getD, List.getElem?_eq_getElem h]
theorem foldT_take (ns : List Nat) (l : List UInt8) (k : Nat) (h : k < ns.length) : ((ns.take (k + 1)).map tenS).foldl addS l = addS (((ns.take k).map tenS).foldl addS l) (tenS (ns.getD k 0)) := by
  rw [List.take_add_one, List.map_append, List.foldl_append]
  simp [List.getD_eq_getElem?_getD, List.getElem?_eq_getElem h]
theorem tenS_20 (n : Nat) (h : n < 18446744073709551616) : (tenS n).length ≤ 20 := tenS_len 19 n (by omega)
theorem foldT_len (ns : List Nat) (hn : ∀ n ∈ ns, n < 18446744073709551616) (l : List UInt8) : ∀ k, k ≤ ns.length → (((ns.take k).map tenS).foldl addS l).length ≤ l.length + 21 * k := by
  intro k
  induction k with
  | zero => intro _; simp
  | succ k ih =>
    intro h
    rw [foldT_take ns l k (by omega)]
    have h1 := ih (by omega)
    have h2 := addS_len (((ns.take k).map tenS).foldl addS l) (tenS (ns.getD k 0))
    have h3 := tenS_20 (ns.getD k 0) (by
      have e : ns.getD k 0 = ns[k] := by simp [List.getD_eq_getElem?_getD, List.getElem?_eq_getElem (show k < ns.length by omega)]
      rw [e]
      exact hn _ (List.getElem_mem _))
    omega
theorem Bld.below {w w' : World} {B b : Nat} {l : List UInt8} (h : Bld w B b l) (hb : Below w.heap.size w w') : Bld w' B b l := by
  have go : ∀ p, Lib.BuilderAt 48 5 B b p (Lib.byteCells l) w → Lib.BuilderAt 48 5 B b p (Lib.byteCells l) w' := fun p h => by
    have hlt := h.lt
    obtain ⟨hB, v, hbk, hown, hne⟩ := h
    exact ⟨hB, v, (hb.block b hlt).trans hbk, own_below hown hb, hne⟩
  rcases h with h | h
  · exact .inl (go _ h)
  · exact .inr (go _ h)
theorem Bld.lt {w : World} {B b : Nat} {l : List UInt8} (h : Bld w B b l) : b < w.heap.size := by
  rcases h with h | h <;> exact Lib.BuilderAt.lt h
theorem Bld.base {w : World} {B b : Nat} {l : List UInt8} (h : Bld w B b l) : B ≤ b := by
  rcases h with h | h <;> exact h.1
/-- One part, in a list that is made for it. -/
theorem add1_any (B b : Nat) (l p : List UInt8) (w : World) (h : Bld w B b l) (hl : l.length + p.length ≤ 999999000) (hBw : B ≤ w.heap.size) :
    Calls Try.prog 18 #[.pointer (some ⟨b, 0, none⟩), .slice (some ⟨w.heap.size, 0, none⟩) 1 1] (w.alloc (.cells #[.string (strOf p)] 9)) fun e w' => e = .returned (.tuple #[]) ∧ Bld w' B b (addS l p) ∧ Below B w w' ∧ KeepT b w w' := by
  have hb1 := bl1 w (.cells #[.string (strOf p)] 9)
  have hn1 : (w.alloc (.cells #[.string (strOf p)] 9)).heap[w.heap.size]? = some (.cells (strVs [p]).toArray 9 (0, 0)) := nw1 w (.cells #[.string (strOf p)] 9)
  refine Calls.mono (add_any B b w.heap.size l [p] _ (h.below hb1) hn1 (by have := h.lt; omega) (by simp [lenS]; omega) (by have := hb1.size; omega) (by simp)) ?_
  rintro e w' ⟨rfl, h1, h2, h3⟩
  exact ⟨rfl, h1, (hb1.mono hBw).trans h2, (KeepT.of_below hb1).trans h3⟩
set_option maxHeartbeats 2000000 in
theorem num_any (B b nb : Nat) (l wd : List UInt8) (ns : List Nat) (w : World) (h : Bld w B b l) (hp : w.heap[nb]? = some (.cells (numVs ns).toArray 50 (0, 0))) (hne : nb ≠ b) (hn : ∀ n ∈ ns, n < 18446744073709551616)
    (hl : l.length ≤ 900000000) (hw : wd.length ≤ 1000) (hBw : B ≤ w.heap.size) (hnl : ns.length ≤ 1000) :
    Calls Try.prog 17 #[.pointer (some ⟨b, 0, none⟩), .string (strOf wd), .slice (some ⟨nb, 0, none⟩) ns.length ns.length] w fun e w' => e = .returned (.tuple #[]) ∧ Bld w' B b ((wd :: ns.map tenS).foldl addS l) ∧ Below B w w' ∧ KeepT b w w' := by
  have hbl : b < w.heap.size := h.lt
  have hnb : nb < w.heap.size := (Array.getElem?_eq_some_iff.1 hp).1
  have H := hid h
  have HP := hid hp
  have HBw := hid hBw
  have HL := hid hl
  have HW := hid hw
  have HN := hid hn
  clear h hp hBw hl hw hn
  go_enter Try.func17, Try.ntmps17
  go_wp2_with fail
  (with_reducible refine Calls.mono (add1_any B b l wd w H.out (by have := HL.out; have := HW.out; omega) HBw.out) ?_)
  rintro e w2 ⟨rfl, hbd2, hb2, hk2⟩
  have HBD2 := hid hbd2
  have HB2 := hid hb2
  have HK2 := hid hk2
  clear hbd2 hb2 hk2 H
  have hl1 : (addS l wd).length ≤ 900002000 := by
    have := addS_len l wd
    have := HL.out
    have := HW.out
    omega
  generalize hl2 : addS l wd = l2 at HBD2 hl1
  have HL2 := hid hl2
  have HLB := hid hl1
  clear hl2 hl1
  go_wp2_with fail
  go_loopw [14] (fun i wr => ∃ k : Nat, k ≤ ns.length ∧ i = .int .i64 k ∧ Bld wr B b (((ns.take k).map tenS).foldl addS l2) ∧ Below B w wr ∧ KeepT b w wr) (fun i _ => ns.length - (intOf i).toNat)
  case atStart => exact ⟨0, Nat.zero_le _, rfl, HBD2.out, HB2.out, HK2.out⟩
  case round =>
    obtain ⟨k, hk, rfl, hbd, hb, hkt⟩ := hrel
    clear HBD2 HB2 HK2
    by_cases hlt : k < ns.length
    · have hpk := hkt nb _ _ _ hne (by decide) HP.out
      have hc : wr.cell? ⟨nb, k, none⟩ = some (.int .u64 ((ns.getD k 0 : Nat) : Int)) := by
        rw [Lib.cell_of_heap hpk, List.getElem?_toArray]
        exact numVs_at ns k hlt
      have hnk : ns.getD k 0 < 18446744073709551616 := by
        have e : ns.getD k 0 = ns[k] := by simp [List.getD_eq_getElem?_getD, List.getElem?_eq_getElem hlt]
        rw [e]
        exact HN.out _ (List.getElem_mem hlt)
      have hfl := foldT_len ns HN.out l2 k (by omega)
      have hft := foldT_take ns l2 k hlt
      generalize ns.getD k 0 = n at hc hnk hft
      generalize ((ns.take k).map tenS).foldl addS l2 = cur at hbd hfl hft
      have HBD := hid hbd
      have HB := hid hb
      have HKT := hid hkt
      have HFL := hid hfl
      have HFT := hid hft
      have HD := hid fun W => digits_any n W hnk
      have HT20 := hid (tenS_20 n hnk)
      have hki : (k : Int) < (ns.length : Int) := by omega
      clear hbd hb hkt hfl hft hpk
      go_wp2_with fail
      (with_reducible refine Calls.mono (HD.out wr) ?_)
      rintro e w3 ⟨rfl, hb3⟩
      have hbd3 := HBD.out.below hb3
      have hB3 := HB.out.trans (hb3.mono (by have := HB.out.size; have := HBw.out; omega))
      have hk3 := HKT.out.trans (KeepT.of_below (b := b) hb3)
      clear HBD HB HKT hb3 hc HD
      generalize tenS n = tn at hbd3 hB3 hk3 HFT HT20
      go_wp2_with fail
      (with_reducible refine Calls.mono (add1_any B b cur tn w3 hbd3 (by have := HFL.out; have := HLB.out; have := HT20.out; omega) (by have := hB3.size; have := HBw.out; omega)) ?_)
      rintro e w4 ⟨rfl, hbd4, hb4, hk4⟩
      have HBD4 := hid hbd4
      have HB4 := hid (hB3.trans hb4)
      have HK4 := hid (hk3.trans hk4)
      clear hbd4 hb4 hk4 hB3 hk3 hbd3
      go_wp2_with fail
      go_roundw
      case rel => exact ⟨k + 1, by omega, by go_num, by rw [HFT.out]; exact HBD4.out, HB4.out, HK4.out⟩
      case measure => simp [intOf]; omega
    · obtain rfl : k = ns.length := by omega
      rw [List.take_length] at hbd
      clear HP
      go_wp2_with fail
      go_end0
      rw [← HL2.out] at hbd
      exact ⟨rfl, hbd, hb, hkt⟩
/-- Numbers in a list that is made for them. -/
theorem num1_any (B b : Nat) (l wd : List UInt8) (ns : List Nat) (w : World) (h : Bld w B b l) (hn : ∀ n ∈ ns, n < 18446744073709551616)
    (hl : l.length ≤ 900000000) (hw : wd.length ≤ 1000) (hBw : B ≤ w.heap.size) (hnl : ns.length ≤ 1000) (cs : Array Value) (hcs : cs = (numVs ns).toArray) (k : Nat) (hk : k = ns.length) :
    Calls Try.prog 17 #[.pointer (some ⟨b, 0, none⟩), .string (strOf wd), .slice (some ⟨w.heap.size, 0, none⟩) k k] (w.alloc (.cells cs 50)) fun e w' => e = .returned (.tuple #[]) ∧ Bld w' B b ((wd :: ns.map tenS).foldl addS l) ∧ Below B w w' ∧ KeepT b w w' := by
  subst hcs hk
  have hb1 := bl1 w (.cells (numVs ns).toArray 50)
  refine Calls.mono (num_any B b w.heap.size l wd ns _ (h.below hb1) (nw1 w _) (by have := h.lt; omega) hn hl hw (by have := hb1.size; omega) hnl) ?_
  rintro e w' ⟨rfl, h1, h2, h3⟩
  exact ⟨rfl, h1, (hb1.mono hBw).trans h2, (KeepT.of_below hb1).trans h3⟩
end Go.Proofs.Ytfliddlcbnaoiaa
