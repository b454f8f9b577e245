/- How structs, and slices of structs, that come in are opened. -/
import Derived.Test.YthnidgiogjehkaaRow
namespace Go.Proofs.Ythnidgiogjehkaa
set_option linter.unusedVariables false
set_option linter.unusedSimpArgs false
open Go.ChangeShapes Go.WideShapes Go.ChangeAt Go.RowKit

theorem list_choose {α : Type} (p : Nat → α → Prop) : ∀ n : Nat, (∀ k, k < n → ∃ s, p k s) → ∃ ss : List α, ss.length = n ∧ ∀ k s, ss[k]? = some s → p k s
  | 0, _ => ⟨[], rfl, fun k s h => by simp at h⟩
  | n + 1, h => by
    obtain ⟨ss, hl, hs⟩ := list_choose p n (fun k hk => h k (by omega))
    obtain ⟨s, hp⟩ := h n (by omega)
    refine ⟨ss ++ [s], by simp [hl], fun k u hu => ?_⟩
    rcases Nat.lt_or_ge k n with hk | hk
    · rw [List.getElem?_append_left (by omega)] at hu; exact hs k u hu
    · rw [List.getElem?_append_right (by omega), hl] at hu
      obtain rfl : k = n := by
        have := (List.getElem?_eq_some_iff.1 hu).1
        simp at this; omega
      simp at hu; subst hu; exact hp
section
variable {H : Type} {enc : TypeId × Value → H} {P : Program} {w : World} {base : Nat} {spare : Nat → Bool} {held : Bool} {m : Nat} {cs : List Value} {o : Nat} {t : TypeId}
theorem trod_fld {fs : Array Field} {fuel : Nat} {x : DataW H × List MemPlace} (ht : P.underlying t = some (.struct fs)) (h : DataW.trod enc P w base spare held fuel t cs = some x) :
    cs.length = P.cellsOf t ∧ ∃ m, ∀ (i : Nat) (f : Field), fs[i]? = some f → ∃ y, DataW.trod enc P w base spare held m f.type ((cs.drop f.offset).take (P.cellsOf f.type)) = some y := by
  obtain ⟨xs, m, _, _, hl, hxl, hg⟩ := DataW.trod_struct ht h
  refine ⟨hl, m, fun i f hf => ?_⟩
  have hi : i < xs.length := by rw [hxl]; exact (Array.getElem?_eq_some_iff.1 hf).1
  exact ⟨xs[i], by rw [hg i f hf]; exact List.getElem?_eq_getElem hi⟩
theorem fld_one {v : Value} (h : (cs.drop o).take 1 = [v]) : cs[o]? = some v := by
  have h2 : ((cs.drop o).take 1)[0]? = some v := by rw [h]; rfl
  rw [List.getElem?_take, if_pos (by omega), List.getElem?_drop] at h2
  simpa using h2
theorem fld_int {k : IntKind} (he : P.underlying t = some (.int k)) (hc : P.cellsOf t = 1) (h : ∃ y, DataW.trod enc P w base spare held m t ((cs.drop o).take (P.cellsOf t)) = some y) :
    ∃ n, cs[o]? = some (.int k n) ∧ (Lit.int k n).wf = true := by
  obtain ⟨y, h⟩ := h
  rw [hc] at h
  obtain ⟨n, hn, _, hw⟩ := DataW.trod_int he h
  exact ⟨n, fld_one hn, hw⟩
theorem fld_bool (he : P.underlying t = some .bool) (hc : P.cellsOf t = 1) (h : ∃ y, DataW.trod enc P w base spare held m t ((cs.drop o).take (P.cellsOf t)) = some y) :
    ∃ b, cs[o]? = some (.bool b) := by
  obtain ⟨y, h⟩ := h
  rw [hc] at h
  obtain ⟨b, hb, _⟩ := DataW.trod_bool he h
  exact ⟨b, fld_one hb⟩
theorem fld_rb {e : TypeId} (ht : P.underlying t = some (.slice e)) (he : P.underlying e = some (.int .u8)) (hce : P.cellsOf e = 1) (hc : P.cellsOf t = 1) (ho : o < cs.length)
    (h : ∃ y, DataW.trod enc P w base spare held m t ((cs.drop o).take (P.cellsOf t)) = some y) : ∃ u xs, cs[o]? = some u ∧ RB w u xs := by
  obtain ⟨y, h⟩ := h
  rw [hc] at h
  have e1 : (cs.drop o).take 1 = [cs[o]] := by rw [List.drop_eq_getElem_cons ho]; rfl
  rw [e1] at h
  obtain ⟨xs, hx⟩ := open_rb ht he hce h
  exact ⟨_, xs, List.getElem?_eq_getElem ho, hx⟩
/-- A slice of structs: each element's cells. -/
theorem open_rows {e : TypeId} {fuel : Nat} {u : Value} {x : DataW H × List MemPlace} (ht : P.underlying t = some (.slice e)) (h : DataW.trod enc P w base spare held fuel t [u] = some x) :
    ∃ A n c, u = .slice A n c ∧ n ≤ c ∧ c ≤ 9223372036854775807 ∧ (A = none → c = 0) ∧ ∀ k, k < n → ∃ a, A = some a ∧ ∃ ds : List Value, ds.length = P.cellsOf e ∧ (∀ (j : Nat) v, ds[j]? = some v → w.cell? ((a.add (k * P.cellsOf e)).add j) = some v) ∧
      ∃ m y, DataW.trod enc P w base spare held m e ds = some y := by
  rcases Go.Deep.open_slice ht h with ⟨h1, _⟩ | ⟨a, len, cap, m, n, D, Pl, h1, hb, hl, hm, hmm, _, hx⟩
  · injection h1 with h1; exact ⟨none, 0, 0, h1, Nat.le_refl _, by omega, fun _ => rfl, fun k hk => by omega⟩
  · injection h1 with h1
    refine ⟨some a, len, cap, h1, hl, hm, (fun h => by cases h), fun k hk => ⟨a, rfl, ?_⟩⟩
    have hlm : len ≤ m := by rw [hmm]; split <;> omega
    obtain ⟨ds, h2, h3⟩ := hx k (by omega)
    obtain ⟨_, h4, h5⟩ := World.cells?_some h2
    refine ⟨ds, h4, fun j v hv => ?_, n, _, h3⟩
    rw [h5 j (by rw [← h4]; exact (List.getElem?_eq_some_iff.1 hv).1)]
    exact hv
theorem arg_rows {r : Reach} {b0 : Nat} {e : TypeId} {v : Value} {d : DataW H} {ps : List MemPlace} (ht : P.underlying t = some (.slice e)) (hv : Value.okWide P w r b0 t v) (h : DataW.Trod enc P w base spare held t v d ps) :
    ∃ A n c, v = .slice A n c ∧ n ≤ c ∧ c ≤ 9223372036854775807 ∧ (A = none → c = 0) ∧ ∀ k, k < n → ∃ a, A = some a ∧ ∃ ds : List Value, ds.length = P.cellsOf e ∧ (∀ (j : Nat) v, ds[j]? = some v → w.cell? ((a.add (k * P.cellsOf e)).add j) = some v) ∧
      ∃ m y, DataW.trod enc P w base spare held m e ds = some y := by
  obtain ⟨a0, len, cap, rfl⟩ := okWide_slice ht hv
  obtain ⟨fuel, hf⟩ := h
  exact open_rows ht hf
theorem arg_struct {r : Reach} {b0 : Nat} {fs : Array Field} {v : Value} {d : DataW H} {ps : List MemPlace} (ht : P.underlying t = some (.struct fs)) (hv : Value.okWide P w r b0 t v) (h : DataW.Trod enc P w base spare held t v d ps) :
    ∃ cs, v = .agg cs ∧ ∃ m y, DataW.trod enc P w base spare held m t cs.toList = some y := by
  obtain ⟨cs, rfl, _⟩ := okWide_struct ht hv
  obtain ⟨fuel, hf⟩ := h
  exact ⟨cs, rfl, fuel, _, hf⟩
end
theorem list4 {α : Type} {cs : List α} {a b c d : α} (h : cs.length = 4) (h0 : cs[0]? = some a) (h1 : cs[1]? = some b) (h2 : cs[2]? = some c) (h3 : cs[3]? = some d) : cs = [a, b, c, d] := by
  match cs, h with
  | [x0, x1, x2, x3], _ => simp at h0 h1 h2 h3; rw [h0, h1, h2, h3]
theorem list6 {α : Type} {cs : List α} {a b c d e f : α} (h : cs.length = 6) (h0 : cs[0]? = some a) (h1 : cs[1]? = some b) (h2 : cs[2]? = some c) (h3 : cs[3]? = some d) (h4 : cs[4]? = some e) (h5 : cs[5]? = some f) : cs = [a, b, c, d, e, f] := by
  match cs, h with
  | [x0, x1, x2, x3, x4, x5], _ => simp at h0 h1 h2 h3 h4 h5; rw [h0, h1, h2, h3, h4, h5]
end Go.Proofs.Ythnidgiogjehkaa
