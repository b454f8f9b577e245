/- Steps in memory: short, far. -/
import Derived.Test.YtkflolbphiffbaaSackW
namespace Go.Proofs.Ytkflolbphiffbaa
set_option linter.unusedVariables false
set_option linter.unusedSimpArgs false
open Go.RowKit

structure StpD where
  k : Nat
  nx : Nat
  fr : Nat
  ms : Int
  A : Option Addr
  c : Nat
  bs : List (Nat × Nat)
instance : Inhabited StpD := ⟨⟨0, 0, 0, 0, none, 0, []⟩⟩
def StpD.cells (s : StpD) : List Value := [.int .u8 (s.k : Int), .int .u32 (s.nx : Int), .int .u32 (s.fr : Int), .int .i64 s.ms, .slice s.A s.bs.length s.c]
def scs (ss : List StpD) : List Value := ss.flatMap StpD.cells
theorem scs_length (ss : List StpD) : (scs ss).length = 5 * ss.length := by
  induction ss with
  | nil => rfl
  | cons r rs ih => simp only [scs, StpD.cells, List.flatMap_cons, List.length_append, List.length_cons, List.length_nil] at *; omega
theorem scs_at (ss : List StpD) : ∀ (k j : Nat), k < ss.length → j < 5 → (scs ss)[5 * k + j]? = (ss.getD k default).cells[j]? := by
  induction ss with
  | nil => intro k j h; simp at h
  | cons r rs ih =>
    intro k j h hj
    have e : scs (r :: rs) = r.cells ++ scs rs := rfl
    have l5 : r.cells.length = 5 := rfl
    rw [e]
    cases k with
    | zero => rw [show 5 * 0 + j = j by omega, List.getElem?_append_left (by omega)]; rfl
    | succ k =>
      have := ih k j (by simpa using h) hj
      rw [List.getElem?_append_right (by omega), l5, show 5 * (k + 1) + j - 5 = 5 * k + j by omega, this]
      rfl
theorem scs_take (ss : List StpD) (m : Nat) : scs (ss.take m) = (scs ss).take (m * 5) := by
  induction ss generalizing m with
  | nil => simp [scs]
  | cons r rs ih =>
    have l5 : r.cells.length = 5 := rfl
    cases m with
    | zero => simp [scs]
    | succ m =>
      have e : scs (r :: rs) = r.cells ++ scs rs := rfl
      have e2 : scs ((r :: rs).take (m + 1)) = r.cells ++ scs (rs.take m) := rfl
      rw [e, e2, ih m, List.take_append, l5, show (m + 1) * 5 - 5 = m * 5 by omega, List.take_of_length_le (l := r.cells) (by rw [l5]; omega)]
structure SRow (w : World) (A : Option Addr) (c : Nat) (ss : List StpD) : Prop where
  row : Row w 5 A ss.length c (scs ss)
  ok : ∀ s ∈ ss, s.k < 256 ∧ s.nx < 4294967296 ∧ s.fr < 4294967296 ∧ Row w 2 s.A s.bs.length s.c (bcs s.bs) ∧ OkB s.bs
theorem SRow.below {w w' : World} {A : Option Addr} {c : Nat} {ss : List StpD} (h : SRow w A c ss) (hb : Below w.heap.size w w') : SRow w' A c ss :=
  ⟨h.row.below hb, fun s hs => ⟨(h.ok s hs).1, (h.ok s hs).2.1, (h.ok s hs).2.2.1, (h.ok s hs).2.2.2.1.below hb, (h.ok s hs).2.2.2.2⟩⟩
theorem SRow.take {w : World} {A : Option Addr} {c : Nat} {ss : List StpD} (h : SRow w A c ss) (m : Nat) : SRow w A c (ss.take m) := by
  refine ⟨?_, fun s hs => h.ok s (List.mem_of_mem_take hs)⟩
  rcases Nat.le_total m ss.length with hm | hm
  · rw [scs_take, List.length_take, Nat.min_eq_left hm]
    exact h.row.take hm
  · rw [List.take_of_length_le hm]
    exact h.row
theorem SRow.get {w : World} {A : Option Addr} {c : Nat} {ss : List StpD} (h : SRow w A c ss) (k : Nat) (hk : k < ss.length) : (ss.getD k default).k < 256 ∧ (ss.getD k default).nx < 4294967296 ∧ (ss.getD k default).fr < 4294967296 ∧ Row w 2 (ss.getD k default).A (ss.getD k default).bs.length (ss.getD k default).c (bcs (ss.getD k default).bs) ∧ OkB (ss.getD k default).bs := by
  have e : ss.getD k default = ss[k] := by simp [List.getD_eq_getElem?_getD, List.getElem?_eq_getElem hk]
  rw [e]
  exact h.ok _ (List.getElem_mem hk)
/-- A step's five cells. -/
theorem Row.stp {w : World} {a : Addr} {c : Nat} {ss : List StpD} (h : Row w 5 (some a) ss.length c (scs ss)) (k : Nat) (hk : k < ss.length) (s : StpD) (hs : ss.getD k default = s) :
    w.cell? (a.add (k * 5)) = some (.int .u8 (s.k : Int)) ∧ w.cell? ⟨(a.add (k * 5)).block, (a.add (k * 5)).off + 1, none⟩ = some (.int .u32 (s.nx : Int)) ∧ w.cell? ⟨(a.add (k * 5)).block, (a.add (k * 5)).off + 2, none⟩ = some (.int .u32 (s.fr : Int)) ∧
    w.cell? ⟨(a.add (k * 5)).block, (a.add (k * 5)).off + 3, none⟩ = some (.int .i64 s.ms) ∧ w.cell? ⟨(a.add (k * 5)).block, (a.add (k * 5)).off + 4, none⟩ = some (.slice s.A s.bs.length s.c) := by
  have e : ∀ j v, j < 5 → s.cells[j]? = some v → w.cell? (a.add (k * 5 + j)) = some v := fun j v hj hv => h.get _ _ (by rw [show k * 5 + j = 5 * k + j by omega, scs_at ss k j hk hj, hs]; exact hv)
  have f : ∀ j v, 0 < j → j < 5 → s.cells[j]? = some v → w.cell? ⟨(a.add (k * 5)).block, (a.add (k * 5)).off + j, none⟩ = some v := fun j v h0 hj hv => by
    rw [← run_add_lit _ j h0, add_add]
    exact e j v hj hv
  exact ⟨e 0 _ (by omega) rfl, f 1 _ (by omega) (by omega) rfl, f 2 _ (by omega) (by omega) rfl, f 3 _ (by omega) (by omega) rfl, f 4 _ (by omega) (by omega) rfl⟩
theorem short_any (A : Option Addr) (n c : Nat) (w : World) (hn : n ≤ c) (hc : c ≤ 9223372036854775807) : Calls Try.prog 9 #[.slice A n c] w fun e w' => e = .returned (.slice A (min n 24) c) ∧ w = w' := by
  obtain ⟨m, hm⟩ : ∃ m, min n 24 = m := ⟨_, rfl⟩
  have h1 : (if (24 : Int) < (n : Int) then (24 : Int) else (n : Int)) = (m : Int) := by split <;> omega
  have h2 : (if (n : Int) < (24 : Int) then (n : Int) else (24 : Int)) = (m : Int) := by split <;> omega
  have h3 : (if n < 24 then (n : Int) else (24 : Int)) = (m : Int) := by split <;> omega
  have h4 : (if 24 < n then (24 : Int) else (n : Int)) = (m : Int) := by split <;> omega
  have h5 : m ≤ c := by omega
  have h6 : m ≤ 24 := by omega
  rw [hm]
  clear hm
  go_enter Try.func9, Try.ntmps9
  go_wp2_with fail
  go_ret
  exact ⟨rfl, rfl⟩
set_option maxHeartbeats 1000000 in
theorem far_any (A : Option Addr) (c : Nat) (ss : List StpD) (w : World) (h : SRow w A c ss) :
    Calls Try.prog 7 #[.slice A ss.length c] w fun e w' => ∃ t, e = .returned (.bool t) ∧ Below w.heap.size w w' := by
  have HS := hid (short_any A ss.length c w h.row.cap h.row.top)
  have h2 := h.take 24
  have hl : min ss.length 24 = (ss.take 24).length := by rw [List.length_take]; omega
  have hl2 : (ss.take 24).length ≤ 24 := by rw [List.length_take]; omega
  rw [hl] at HS
  clear h hl
  go_enter Try.func7, Try.ntmps7
  go_wp2_with fail
  (with_reducible refine Calls.mono HS.out ?_)
  rintro e w' ⟨rfl, rfl⟩
  generalize ss.take 24 = ts at h2 hl2 ⊢
  have HR := hid h2
  clear HS h2
  go_wp2_with fail
  go_loopw [8] (fun i wr => ∃ k : Nat, k ≤ ts.length ∧ i = .int .i64 k ∧ Below w.heap.size w wr) (fun i _ => ts.length - (intOf i).toNat)
  case atStart => exact ⟨0, Nat.zero_le _, rfl, Below.refl _ _⟩
  case round =>
    obtain ⟨k, hk, rfl, hb⟩ := hrel
    by_cases hlt : k < ts.length
    · have hrow := HR.out.row.below hb
      obtain ⟨a, rfl⟩ := hrow.addr (by rw [scs_length]; omega)
      obtain ⟨l0, l1, l2, l3, l4⟩ := hrow.stp k hlt _ rfl
      generalize ts.getD k default = s at l0 l1 l2 l3 l4
      have HB := hid hb
      clear hrow hb
      obtain ⟨t, ht⟩ : ∃ t, decide (20 < s.bs.length) = t := ⟨_, rfl⟩
      have ht2 : decide ((20 : Int) < (s.bs.length : Int)) = t := by rw [← ht, decide_eq_decide]; omega
      cases t
      · go_wp2_with fail
        go_roundw
        case rel => exact ⟨k + 1, by omega, by go_num, HB.out.alloc (by have := HB.out.size; omega) _⟩
        case measure => simp [intOf]; omega
      · go_wp2_with fail
        go_ret
        exact ⟨_, rfl, HB.out.alloc (by have := HB.out.size; omega) _⟩
    · obtain rfl : k = ts.length := by omega
      go_wp2_with fail
      go_ret
      exact ⟨_, rfl, hb⟩
end Go.Proofs.Ytkflolbphiffbaa
