/- How slices of uint64 that come in are opened. -/
import Derived.Test.YtechpojcbhnfgaaRow
import Derived.Test.YtechpojcbhnfgaaOctP
namespace Go.Proofs.Ytechpojcbhnfgaa
set_option linter.unusedVariables false
set_option linter.unusedSimpArgs false
open Go.ChangeShapes Go.WideShapes Go.ChangeAt Go.RowKit
section
variable {H : Type} {enc : TypeId × Value → H} {P : Program} {w : World} {base : Nat} {spare : Nat → Bool} {held : Bool}
theorem open_rn {t e : TypeId} {fuel : Nat} {u : Value} {x : DataW H × List MemPlace} (ht : P.underlying t = some (.slice e)) (he : P.underlying e = some (.int .u64)) (hc : P.cellsOf e = 1)
    (h : DataW.trod enc P w base spare held fuel t [u] = some x) : ∃ xs, RN w u xs := by
  rcases open_ints ht he hc h with ⟨h1, _⟩ | ⟨a, len, cap, zs, h1, _, hl, hm, hz, _, hcell, hwf⟩
  · injection h1 with h1; subst h1; exact ⟨[], RN.nil w⟩
  · injection h1 with h1
    subst h1
    have hzl : len ≤ zs.length := by rw [hz]; split <;> omega
    have hln : ((zs.take len).map fun n => UInt64.ofNat n.toNat).length = len := by simp; omega
    refine ⟨(zs.take len).map fun n => UInt64.ofNat n.toNat, some a, cap, by rw [hln], ?_⟩
    rw [hln]
    refine ⟨by simp [by64]; omega, hl, hm, fun k v hk => ⟨a, rfl, ?_⟩⟩
    have hk' : k < len := by have := (List.getElem?_eq_some_iff.1 hk).1; simp [by64] at this; omega
    have hkz : k < zs.length := by omega
    rw [hcell k hkz]
    have hzk : zs[k]? = some zs[k] := List.getElem?_eq_getElem hkz
    have hw : (Lit.int .u64 zs[k]).wf = true := hwf _ (List.getElem_mem hkz)
    have hr := wf_u64 hw
    have hgd : zs.getD k 0 = zs[k] := by rw [List.getD_eq_getElem?_getD, hzk]; rfl
    rw [hgd]
    simp only [by64, List.getElem?_map, List.getElem?_take, hk', if_true, hzk, Option.map_some, Option.some.injEq] at hk
    subst hk
    have : (UInt64.ofNat zs[k].toNat).toNat = zs[k].toNat := by simp; omega
    simp only [v64, this, Int.toNat_of_nonneg hr.1]
theorem arg_rn {r : Reach} {b0 : Nat} {t e : TypeId} {v : Value} {d : DataW H} {ps : List MemPlace} (ht : P.underlying t = some (.slice e)) (he : P.underlying e = some (.int .u64)) (hc : P.cellsOf e = 1)
    (hv : Value.okWide P w r b0 t v) (h : DataW.Trod enc P w base spare held t v d ps) : ∃ xs, RN w v xs := by
  obtain ⟨a0, len, cap, rfl⟩ := okWide_slice ht hv
  obtain ⟨fuel, hf⟩ := h
  exact open_rn ht he hc hf
end
end Go.Proofs.Ytechpojcbhnfgaa
