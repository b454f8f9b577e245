/- The steps of layer 26 in memory. -/
import Derived.Test.YtblkfpipmdfmkaaRbE
namespace Go.Proofs.Ytblkfpipmdfmkaa
set_option linter.unusedVariables false
set_option linter.unusedSimpArgs false
open Go.RowKit

structure StpB where
  rd : Bool
  N : Int
  ah : Int
  A : Option Addr
  c : Nat
  p : List UInt8
instance : Inhabited StpB := ⟨⟨false, 0, 0, none, 0, []⟩⟩
def StpB.cells (s : StpB) : List Value := [.bool s.rd, .int .i64 s.N, .int .i32 s.ah, .slice s.A s.p.length s.c]
def sbs (ss : List StpB) : List Value := ss.flatMap StpB.cells
theorem sbs_length (ss : List StpB) : (sbs ss).length = 4 * ss.length := by
  induction ss with
  | nil => rfl
  | cons r rs ih => simp only [sbs, StpB.cells, List.flatMap_cons, List.length_append, List.length_cons, List.length_nil] at *; omega
theorem sbs_at (ss : List StpB) : ∀ (k j : Nat), k < ss.length → j < 4 → (sbs ss)[4 * k + j]? = (ss.getD k default).cells[j]? := by
  induction ss with
  | nil => intro k j h; simp at h
  | cons r rs ih =>
    intro k j h hj
    have e : sbs (r :: rs) = r.cells ++ sbs rs := rfl
    have l4 : r.cells.length = 4 := rfl
    rw [e]
    cases k with
    | zero => rw [show 4 * 0 + j = j by omega, List.getElem?_append_left (by omega)]; rfl
    | succ k =>
      have := ih k j (by simpa using h) hj
      rw [List.getElem?_append_right (by omega), l4, show 4 * (k + 1) + j - 4 = 4 * k + j by omega, this]
      rfl
theorem sbs_take (ss : List StpB) (m : Nat) : sbs (ss.take m) = (sbs ss).take (m * 4) := by
  induction ss generalizing m with
  | nil => simp [sbs]
  | cons r rs ih =>
    have l4 : r.cells.length = 4 := rfl
    cases m with
    | zero => simp [sbs]
    | succ m =>
      have e : sbs (r :: rs) = r.cells ++ sbs rs := rfl
      have e2 : sbs ((r :: rs).take (m + 1)) = r.cells ++ sbs (rs.take m) := rfl
      rw [e, e2, ih m, List.take_append, l4, show (m + 1) * 4 - 4 = m * 4 by omega, List.take_of_length_le (l := r.cells) (by rw [l4]; omega)]
structure BRow (w : World) (A : Option Addr) (c : Nat) (ss : List StpB) : Prop where
  row : Row w 4 A ss.length c (sbs ss)
  ok : ∀ s ∈ ss, -9223372036854775808 ≤ s.N ∧ s.N ≤ 9223372036854775807 ∧ -2147483648 ≤ s.ah ∧ s.ah ≤ 2147483647 ∧ RB w (.slice s.A s.p.length s.c) s.p
theorem BRow.below {w w' : World} {A : Option Addr} {c : Nat} {ss : List StpB} (h : BRow w A c ss) (hb : Below w.heap.size w w') : BRow w' A c ss :=
  ⟨h.row.below hb, fun s hs => ⟨(h.ok s hs).1, (h.ok s hs).2.1, (h.ok s hs).2.2.1, (h.ok s hs).2.2.2.1, (h.ok s hs).2.2.2.2.below hb⟩⟩
theorem BRow.take {w : World} {A : Option Addr} {c : Nat} {ss : List StpB} (h : BRow w A c ss) (m : Nat) : BRow w A c (ss.take m) := by
  refine ⟨?_, fun s hs => h.ok s (List.mem_of_mem_take hs)⟩
  rcases Nat.le_total m ss.length with hm | hm
  · rw [sbs_take, List.length_take, Nat.min_eq_left hm]
    exact h.row.take hm
  · rw [List.take_of_length_le hm]
    exact h.row
theorem BRow.get {w : World} {A : Option Addr} {c : Nat} {ss : List StpB} (h : BRow w A c ss) (k : Nat) (hk : k < ss.length) : -9223372036854775808 ≤ (ss.getD k default).N ∧ (ss.getD k default).N ≤ 9223372036854775807 ∧ -2147483648 ≤ (ss.getD k default).ah ∧ (ss.getD k default).ah ≤ 2147483647 ∧ RB w (.slice (ss.getD k default).A (ss.getD k default).p.length (ss.getD k default).c) (ss.getD k default).p := by
  have e : ss.getD k default = ss[k] := by simp [List.getD_eq_getElem?_getD, List.getElem?_eq_getElem hk]
  rw [e]
  exact h.ok _ (List.getElem_mem hk)
/-- A step's four cells. -/
theorem Row.stB {w : World} {a : Addr} {c : Nat} {ss : List StpB} (h : Row w 4 (some a) ss.length c (sbs ss)) (k : Nat) (hk : k < ss.length) (s : StpB) (hs : ss.getD k default = s) :
    w.cell? (a.add (k * 4)) = some (.bool s.rd) ∧ w.cell? ⟨(a.add (k * 4)).block, (a.add (k * 4)).off + 1, none⟩ = some (.int .i64 s.N) ∧ w.cell? ⟨(a.add (k * 4)).block, (a.add (k * 4)).off + 2, none⟩ = some (.int .i32 s.ah) ∧ w.cell? ⟨(a.add (k * 4)).block, (a.add (k * 4)).off + 3, none⟩ = some (.slice s.A s.p.length s.c) := by
  have e : ∀ j v, j < 4 → s.cells[j]? = some v → w.cell? (a.add (k * 4 + j)) = some v := fun j v hj hv => h.get _ _ (by rw [show k * 4 + j = 4 * k + j by omega, sbs_at ss k j hk hj, hs]; exact hv)
  have f : ∀ j v, 0 < j → j < 4 → s.cells[j]? = some v → w.cell? ⟨(a.add (k * 4)).block, (a.add (k * 4)).off + j, none⟩ = some v := fun j v h0 hj hv => by
    rw [← run_add_lit _ j h0, add_add]
    exact e j v hj hv
  exact ⟨e 0 _ (by omega) rfl, f 1 _ (by omega) (by omega) rfl, f 2 _ (by omega) (by omega) rfl, f 3 _ (by omega) (by omega) rfl⟩
theorem shortB_any (A : Option Addr) (n c : Nat) (w : World) (hn : n ≤ c) (hc : c ≤ 9223372036854775807) : Calls Try.prog 10 #[.slice A n c] w fun e w' => e = .returned (.slice A (min n 60) c) ∧ w = w' := by
  obtain ⟨m, hm⟩ : ∃ m, min n 60 = m := ⟨_, rfl⟩
  have h1 : (if (60 : Int) < (n : Int) then (60 : Int) else (n : Int)) = (m : Int) := by split <;> omega
  have h2 : (if (n : Int) < (60 : Int) then (n : Int) else (60 : Int)) = (m : Int) := by split <;> omega
  have h3 : (if n < 60 then (n : Int) else (60 : Int)) = (m : Int) := by split <;> omega
  have h4 : (if 60 < n then (60 : Int) else (n : Int)) = (m : Int) := by split <;> omega
  have h5 : m ≤ c := by omega
  have h6 : m ≤ 60 := by omega
  rw [hm]
  clear hm
  go_enter Try.func10, Try.ntmps10
  go_wp2_with fail
  go_ret
  exact ⟨rfl, rfl⟩
end Go.Proofs.Ytblkfpipmdfmkaa
