/- Walks: far, alive of layer 12. Walks: the laws Back and Again of layer 12. -/
import Derived.Test.YthnidgiogjehkaaOptB
import Derived.Test.YthnidgiogjehkaaOptC
import Derived.Test.YthnidgiogjehkaaEqual
import Derived.Test.YthnidgiogjehkaaQRow
namespace Go.Proofs.Ythnidgiogjehkaa
set_option linter.unusedVariables false
set_option linter.unusedSimpArgs false
set_option maxRecDepth 20000
open Go.RowKit

/-- Lay, of options that may be. -/
theorem lay_ok (o : OptM) (w : World) (ho : OptOk w o) (hsl : o.sacks.length ≤ 1000) (h : mayO o = true) : Calls Try.prog 29 #[.agg o.cells] w fun e w' => ∃ A c, e = .returned (.tuple #[.slice A (bytesO o).length c, .int .i64 0]) ∧ OB w' w.heap.size (.slice A (bytesO o).length c) (bytesO o) ∧ Below w.heap.size w w' := by
  refine (lay_any o w ho hsl).mono ?_
  rintro e w' hr
  unfold LayRes layO layE at hr
  rw [if_pos h, if_pos h] at hr
  exact hr
/-- Lay, of options that may not be. -/
theorem lay_bad (o : OptM) (w : World) (ho : OptOk w o) (hsl : o.sacks.length ≤ 1000) (h : mayO o = false) : Calls Try.prog 29 #[.agg o.cells] w fun e w' => ∃ A c, e = .returned (.tuple #[.slice A 0 c, .int .i64 1]) ∧ Below w.heap.size w w' := by
  refine (lay_any o w ho hsl).mono ?_
  rintro e w' hr
  unfold LayRes layO layE at hr
  rw [h] at hr
  obtain ⟨A, c, h1, _, h2⟩ := hr
  exact ⟨A, c, h1, h2⟩
/-- Parse, where what it gives is known. -/
theorem parse_is (v : Value) (b : List UInt8) (er : Nat) (o : OptM) (h : parseO b = (er, o)) (w : World) (hb : RB w v b) :
    Calls Try.prog 40 #[v] w fun e w' => ∃ A c, e = .returned (.tuple #[.agg ({ o with A := A, c := c } : OptM).cells, .int .i64 (er : Int)]) ∧ OptOk w' { o with A := A, c := c } ∧ Below w.heap.size w w' := by
  refine (parse12_any v b w hb).mono ?_
  rintro e w' hr
  unfold ParseRes at hr
  rw [h] at hr
  exact hr
theorem RB.modO {w w' : World} {v : Value} {xs : List UInt8} {g : Nat} (h : RB w v xs) (hl : ∀ A m c, v = .slice (some A) m c → 0 < m → A.block < g) (hm : Mod [g] w w') : RB w' v xs := by
  obtain ⟨A, c, rfl, r⟩ := h
  refine ⟨A, c, rfl, r.len, r.cap, r.top, fun k u hu => ?_⟩
  obtain ⟨ad, rfl, hc⟩ := r.at_ k u hu
  refine ⟨ad, rfl, hm.cell hc ?_⟩
  have hbk : (ad.add k).block = ad.block := by unfold Addr.add; split <;> rfl
  rw [hbk]
  have h1 := (List.getElem?_eq_some_iff.1 hu).1
  rw [by8_length] at h1
  have := hl ad _ _ rfl (by omega)
  simp
  omega
def aO12 : OptM := ⟨true, 1460, false, 0, false, none, 0, [], false, 0, 0, false, 0, 0, [0, 0, 0, 0, 0, 0, 0, 0, 0, 0, 0, 0]⟩
theorem aO12_ok (w : World) : OptOk w aO12 := ⟨by decide, by decide, by decide, by decide, by decide, by decide, rfl, Row.nil w 2, fun b h => by cases h⟩
theorem aO12_may : mayO aO12 = true := by decide +kernel
theorem aO12_bytes : bytesO aO12 = [2, 4, 5, 180] := by decide +kernel
theorem aO12_parse : parseO [2, 4, 5, 180] = (0, aO12) := by rw [← aO12_bytes]; exact lay_parse (aO12_ok default) aO12_may
theorem build_aO12 : ∀ w, (Instr.build 31 #[(0, .bool true), (1, .int .u16 1460)]).run Try.prog w = .ok (.agg aO12.cells) w := by intro w; kernel_rfl
end Go.Proofs.Ythnidgiogjehkaa
namespace Go.Proofs.Ythnidgiogjehkaa
set_option linter.unusedVariables false
set_option linter.unusedSimpArgs false
open Go.RowKit

theorem Row.lt {w : World} {sz n c : Nat} {A : Option Addr} {vs : List Value} (h : Row w sz A n c vs) (ad : Addr) (hA : A = some ad) (hl : 0 < vs.length) : ad.block < w.heap.size := by
  obtain ⟨ad2, e, hc⟩ := h.at_ 0 _ (List.getElem?_eq_getElem hl)
  rw [hA] at e
  injection e with e
  subst e
  have := World.block_lt_of_cell? w _ hc
  simpa [Addr.add] using this
theorem Row.mod1 {w w' : World} {sz n c g : Nat} {A : Option Addr} {vs : List Value} (h : Row w sz A n c vs) (hm : Mod [g] w w') (hne : ∀ ad, A = some ad → 0 < vs.length → ad.block ≠ g) : Row w' sz A n c vs := by
  refine ⟨h.len, h.cap, h.top, fun k u hu => ?_⟩
  obtain ⟨ad, rfl, hc⟩ := h.at_ k u hu
  have hbk : (ad.add k).block = ad.block := by unfold Addr.add; split <;> rfl
  exact ⟨ad, rfl, hm.cell hc (by rw [hbk]; simpa using hne ad rfl (by have := (List.getElem?_eq_some_iff.1 hu).1; omega))⟩
theorem OptOk.mod1 {w w' : World} {o : OptM} {g : Nat} (h : OptOk w o) (hm : Mod [g] w w') (hne : ∀ ad, o.A = some ad → 0 < (bcs o.sacks).length → ad.block ≠ g) : OptOk w' o := ⟨h.mss, h.scale, h.val, h.echo, h.key, h.next, h.mac, h.row.mod1 hm hne, h.ok⟩
theorem bytesO_four (o : OptM) (hm : o.mac.length = 12) : (bytesO o).length % 4 = 0 := by rw [bytesO_len o hm, sizeO]; omega
theorem parseO_bad (b : List UInt8) (h : (parseO b).1 ≠ 0) : (parseO b).2 = noOpt := by
  unfold parseO at *
  split
  · rfl
  · rename_i hl
    rw [if_neg hl] at h
    unfold endO at *
    cases hx : parseX noOpt met0 b with
    | none => rfl
    | some r =>
      obtain ⟨e, o⟩ := r
      rw [hx] at h
      simp only at h ⊢
      split
      · rename_i he
        rw [if_pos he] at h
        exact absurd rfl h
      · rfl
end Go.Proofs.Ythnidgiogjehkaa
