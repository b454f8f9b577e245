/- Laws for single operations, taken without the walk's simp: for long guarded chains. -/
import Derived.Test.YthnidgiogjehkaaOps
namespace Go.Proofs.Ythnidgiogjehkaa
set_option linter.unusedVariables false
set_option linter.unusedSimpArgs false
open Go.RowKit

section
variable {P : Program} {ops : Array Oper} {rest : List Oper} {o : Oper} {a : Act} {w : World} {Q : Exit → Act → World → Prop}
theorem exec_ld1 {ty : TypeId} (x : Operand) (ho : o.op = .load ty x) (ad : Addr) (v : Value) (hx : a.eval x = .pointer (some ad)) (hc : w.cell? ad = some v) (ha : ∀ w, (isAgg ty).run P w = .ok false w) :
    (execOp a.eval o).run P w = .ok (.value v) w := by
  unfold execOp
  simp only [ho, hx, Sem.run_bind]
  go_simp
theorem exec_eqlB {ty : TypeId} (x y : Operand) (ho : o.op = .binOp .eql ty x y ty) (p q t : Bool) (h : (p == q) = t) (hu : P.underlying ty = some .bool) (hx : a.eval x = .bool p) (hy : a.eval y = .bool q) :
    (execOp a.eval o).run P w = .ok (.value (.bool t)) w := by
  subst h
  unfold execOp
  simp only [ho, hx, hy, Sem.run_bind]
  go_simp
theorem exec_eqlI {ty : TypeId} (x y : Operand) (ho : o.op = .binOp .eql ty x y ty) (k : IntKind) (p q : Int) (t : Bool) (h : (p == q) = t) (hx : a.eval x = .int k p) (hy : a.eval y = .int k q) :
    (execOp a.eval o).run P w = .ok (.value (.bool t)) w := by
  subst h
  unfold execOp
  simp only [ho, hx, hy, Sem.run_bind]
  go_simp
theorem wpList_pureG (hw : Region.wanted o (yielded ops a.tmps) = true) {v : Value} (hr : (execOp a.eval o).run P w = .ok (.value v) w) (h : wpList P ops Q rest (a.put o.dst v) w) : wpList P ops Q (o :: rest) a w := wpList_yieldG hw hr h
/-- What a move, an assignment, a choice yields. -/
def pureV (a : Act) (o : Oper) : Option Value :=
  match o.op with
  | .move x => some (a.eval x)
  | .assign x => some (a.eval x)
  | .pick c x y => match a.eval c with
    | .bool true => some (a.eval x)
    | .bool false => some (a.eval y)
    | _ => none
  | _ => none
/-- The rest of a region of these alone, and of operations that no guard wants. -/
def runPure (ops : Array Oper) : List Oper → Act → Option Act
  | [], a => some a
  | o :: rest, a => if Region.wanted o (yielded ops a.tmps) then (pureV a o).bind fun v => runPure ops rest (a.put o.dst v) else runPure ops rest (a.put o.dst undef)
theorem exec_pureV {v : Value} (h : pureV a o = some v) : (execOp a.eval o).run P w = .ok (.value v) w := by
  unfold pureV at h
  unfold execOp
  split at h
  · rename_i x ho
    injection h with h
    subst h
    simp only [ho]
    go_simp
  · rename_i x ho
    injection h with h
    subst h
    simp only [ho]
    go_simp
  · rename_i c x y ho
    simp only [ho]
    split at h
    · rename_i hc
      injection h with h
      subst h
      simp only [hc]
      go_simp
    · rename_i hc
      injection h with h
      subst h
      simp only [hc]
      go_simp
    · cases h
  · cases h
theorem wpList_runPure (ops : Array Oper) : ∀ (rest : List Oper) (a a' : Act), runPure ops rest a = some a' → Q .normal a' w → wpList P ops Q rest a w
  | [], a, a', h, hq => by
    injection h with h
    subst h
    exact hq
  | o :: rest, a, a', h, hq => by
    unfold runPure at h
    by_cases hw : Region.wanted o (yielded ops a.tmps) = true
    · rw [if_pos hw] at h
      obtain ⟨v, hv, h⟩ := Option.bind_eq_some_iff.1 h
      exact wpList_yieldG hw (exec_pureV hv) (wpList_runPure ops rest _ a' h hq)
    · rw [if_neg hw] at h
      exact wpList_skip (by simpa using hw) (wpList_runPure ops rest _ a' h hq)
/-- .. by the kernel: what its result's slot holds behind it. -/
theorem wpList_tail (s : Tmp) (v : Value) (ds : List Deferred) (h : ((runPure ops rest a).map fun a' => (a'.tmps.getD s undef, a'.defers)) = some (v, ds)) (hq : ∀ a' : Act, a'.tmps.getD s undef = v → a'.defers = ds → Q .normal a' w) : wpList P ops Q rest a w := by
  obtain ⟨a', ha, hv⟩ := Option.map_eq_some_iff.1 h
  injection hv with h1 h2
  exact wpList_runPure ops rest a a' ha (hq a' h1 h2)
theorem wpList_nilK (h : Q .normal a w) : wpList P ops Q [] a w := h
end
end Go.Proofs.Ythnidgiogjehkaa
