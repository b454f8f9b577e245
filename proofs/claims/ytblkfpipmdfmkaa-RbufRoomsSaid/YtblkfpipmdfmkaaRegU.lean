/- Regions that draw their order, taken by hand, whose last operation comes behind all others. -/
import Derived.Test.YtblkfpipmdfmkaaRegM
namespace Go.Proofs.Ytblkfpipmdfmkaa
set_option linter.unusedVariables false
set_option linter.unusedSimpArgs false
open Go.RowKit

section
variable {P : Program} {ops : Array Oper} {hd : List Oper} {o : Oper} {L : Array Bool} {Q : Exit → Act → World → Prop} {S : World → Prop}
/-- How the head of a region ends: then its last operation comes. -/
def tailQ (P : Program) (ops : Array Oper) (o : Oper) (Q : Exit → Act → World → Prop) : Exit → Act → World → Prop
  | .normal, a, w => wpList P ops Q [o] a w
  | x, a, w => Q x a w
theorem letsOut_tail (h : LetsOut (tailQ P ops o Q)) : LetsOut Q := h
theorem upon_exit {ops' : Array Oper} {o o' : Oper} {K : Act → World → Prop} {a : Act} {w : World} (h : Oper.wp P o' a w K (tailQ P ops' o Q)) : Oper.wp P o' a w K Q := by
  unfold Oper.wp at *
  generalize (execOp a.eval o').run P w = r at *
  cases r with
  | ok n w' =>
    cases n <;> simp only [Oper.upon] at h ⊢
    case value u => exact h
    case skip => exact h
    case defer d => exact h
    case enter f args =>
      refine Calls.mono h fun e w'' he => ?_
      cases e with
      | returned u => exact he
      | panicked c => exact he
      | outgrown => exact letsOut_tail he
    case row row args => exact h
  | halt x w' =>
    cases x <;> simp only [Oper.upon] at h ⊢
    case panic u => exact h
theorem wpOp_exit {ops' : Array Oper} {i : Nat} {K : Act → World → Prop} {a : Act} {w : World} (h : wpOp P ops (tailQ P ops' o Q) i K a w) : wpOp P ops Q i K a w := by
  unfold wpOp at *
  split
  · simpa [*] using h
  · rename_i o' ho
    simp only [ho] at h
    split
    · rename_i hw
      simp only [hw, if_true] at h
      exact h.imp upon_exit fun ⟨h1, h2⟩ => ⟨h1, letsOut_tail h2⟩
    · rename_i hw
      simp only [hw] at h
      exact h
theorem any_tailH (hb : backB (hd ++ [o]) = true) (hg : guardsB hd = true) (hw : awaitedB (hd ++ [o]) hd.length = true) :
    ∀ (f : Nat) (L : Array Bool) (a : Act) (w : World), Shut hd L → wpAny P .any hd.toArray (tailQ P (hd ++ [o]).toArray o Q) f L a w → wpAny P .any (hd ++ [o]).toArray Q (f + 1) (L.push false) a w
  | 0, L, a, w, hs, h => any_last hs.size (all_of_none hb hs.size h.1) hb h.2 0
  | f + 1, L, a, w, hs, h => by
    by_cases hr : Region.ready .any hd.toArray L = []
    · exact any_last hs.size (all_of_none hb hs.size hr) hb (h.1 hr) (f + 1)
    · refine ⟨fun h0 => ?_, fun i hi => ?_⟩
      · obtain ⟨i, hi⟩ := List.exists_mem_of_ne_nil _ hr
        have hlt := in_ready hi
        have := (ready_hd hb hs.size i (by simpa using hlt)).2 hi
        rw [h0] at this; cases this
      · have hlt := in_ready hi
        simp at hlt
        by_cases hil : i = hd.length
        · subst hil
          have hA := all_of_last hw hs hi
          exfalso
          apply hr
          apply List.eq_nil_iff_forall_not_mem.2
          intro j hj
          have hjl := in_ready hj
          obtain ⟨h1, _⟩ := mem_ready.1 hj
          have hj' : j < L.size := by rw [hs.size]; simpa using hjl
          have := hA j (by simpa using hjl)
          simp [hj'] at this h1
          rw [this] at h1; cases h1
        · have hi' : i < hd.length := by omega
          have hir := (ready_hd hb hs.size i hi').1 hi
          rw [push_set L i (by rw [hs.size]; exact hi')]
          exact wpOp_mono (fun a' w' h' => any_tailH hb hg hw f _ a' w' (hs.set hir) h') (wpOp_hd hg hi' (wpOp_exit (h.2 i hir)))
/-- A region taken by hand whose last operation (n stand ahead of it) comes behind all others: S is held up to there alone. -/
theorem wp_region_handT {id : Nat} {a : Act} {w : World} {l : List Oper} (n : Nat) (S : World → Prop) (hd : List Oper) (o : Oper) (hl : l = hd ++ [o]) (hn : hd.length = n) (hm : P.follows .mixedOrders = true) (hb : backB (hd ++ [o]) = true) (hg : guardsB hd = true) (hw : awaitedB (hd ++ [o]) hd.length = true) (hS : S { w with drawn := w.drawn + 1 })
    (h : S { w with drawn := w.drawn + 1 } → wpAnyH P .any hd.toArray (tailQ P (hd ++ [o]).toArray o Q) S n (Array.replicate n false) a { w with drawn := w.drawn + 1 }) : (Code.region id l.toArray true).wp P Q a w := by
  subst hl
  subst hn
  refine wp_region_any hm ?_
  have h1 := wpAny_of_held (S := S) _ _ _ _ (h hS)
  have h2 := any_tailH (o := o) (Q := Q) hb hg hw hd.length (Array.replicate hd.length false) a { w with drawn := w.drawn + 1 } ⟨by simp, fun j oj _ hj => by rw [getD_replicate_f] at hj; cases hj⟩ h1
  have e : (Array.replicate hd.length false).push false = Array.replicate (hd ++ [o]).toArray.size false := by simp [Array.replicate_succ]
  rw [e] at h2
  simpa using h2
/-- The same of a list that is cut behind n operations. -/
theorem wp_region_cut {id : Nat} {a : Act} {w : World} {l : List Oper} (n : Nat) (S : World → Prop) {o : Oper} (ho : l.drop n = [o]) (hn : (l.take n).length = n) (hm : P.follows .mixedOrders = true) (hb : backB l = true) (hg : guardsB (l.take n) = true) (hw : awaitedB l n = true) (hS : S { w with drawn := w.drawn + 1 })
    (h : S { w with drawn := w.drawn + 1 } → wpAnyH P .any (l.take n).toArray (tailQ P l.toArray o Q) S n (Array.replicate n false) a { w with drawn := w.drawn + 1 }) : (Code.region id l.toArray true).wp P Q a w := by
  have hl : l = l.take n ++ [o] := by rw [← ho, List.take_append_drop]
  refine wp_region_handT (l := l) n S (l.take n) o hl hn hm (by rw [← hl]; exact hb) hg (by rw [← hl, hn]; exact hw) hS ?_
  rw [← hl]
  exact h
end
end Go.Proofs.Ytblkfpipmdfmkaa
