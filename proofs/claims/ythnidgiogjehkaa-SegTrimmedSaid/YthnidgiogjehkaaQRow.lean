/- A struct read whole in a quiet region. -/
import Derived.Test.YthnidgiogjehkaaRegM
import Derived.Test.YthnidgiogjehkaaOps
namespace Go.Proofs.Ythnidgiogjehkaa
set_option linter.unusedVariables false
set_option linter.unusedSimpArgs false
open Go.RowKit

section
variable {P : Program} {ops : Array Oper} {rest : List Oper} {o : Oper} {a : Act} {C : World → Prop} {Q : Act → Prop}
theorem atq_slot (n : Nat) {op : Op} {ty : TypeId} {pos : String} {af : Array Edge} {g : Option (Nat × Bool)} (h : wpQuiet P ops C Q (⟨some n, op, ty, pos, af, g⟩ :: rest) a) : wpQuiet P ops C Q (⟨some n, op, ty, pos, af, g⟩ :: rest) a := h
theorem wpQuiet_row (hw : Region.wanted o (yielded ops a.tmps) = true) (ty : TypeId) (x : Operand) (ho : o.op = .load ty x) (ad : Addr) (hx : a.eval x = .pointer (some ad)) (cs : Array Value) (d : TypeDesc)
    (hc : ∀ w, C w → ∀ (j : Nat) u, cs[j]? = some u → w.cell? (ad.add j) = some u)
    (hu : P.underlying ty = some d) (hd : (match d with | .struct _ | .array _ _ => true | _ => false) = true) (hi : (P.info? ty).map (·.size) = some cs.size)
    (h : wpQuiet P ops C Q rest (a.put o.dst (.agg cs))) : wpQuiet P ops C Q (o :: rest) a :=
  BigFrame.wpQuiet_want hw fun K hK => ⟨.agg cs, fun w hC => by
    unfold Oper.quietAt execOp
    simp only [ho, hx, Instr.loadAt, Instr.sureAddr, Sem.run_bind, Sem.run_pure, Result.andThen_ok, run_loadVar_at w ad ty cs d (hc w hC) hu hd hi]
    exact ⟨rfl, rfl⟩, hK _ h⟩
end
/-- A whole block's cells, in every world of the class. -/
theorem row_later {B : Nat} {w : World} {b : Nat} {cs : Array Value} {T : TypeId} (h : ∀ x : Later B w, x.wd.heap[b]? = some (.cells cs T (0, 0))) :
    ∀ w', (∃ x : Later B w, w' = x.wd) → ∀ (j : Nat) u, cs[j]? = some u → w'.cell? ((⟨b, 0, none⟩ : Addr).add j) = some u := by
  rintro _ ⟨x, rfl⟩ j u hu
  exact cells_part (h x) (o := 0) (fun j u h => by rw [Nat.zero_add]; exact h) j u hu
/- A struct is read whole where a guard lets it. -/
section
variable {P : Program} {ops : Array Oper} {rest : List Oper} {o : Oper} {a : Act} {w : World} {Q : Exit → Act → World → Prop}
theorem wpList_rowG (hw : Region.wanted o (yielded ops a.tmps) = true) (ty : TypeId) (x : Operand) (ho : o.op = .load ty x) (g : Nat) (hx : a.eval x = .pointer (some ⟨g, 0, none⟩)) (t : TypeId) (cs : Array Value) (d : TypeDesc)
    (hg : w.heap[g]? = some (.cells cs t (0, 0))) (hu : P.underlying ty = some d) (hd : (match d with | .struct _ | .array _ _ => true | _ => false) = true) (hi : (P.info? ty).map (·.size) = some cs.size)
    (h : wpList P ops Q rest (a.put o.dst (.agg cs)) w) : wpList P ops Q (o :: rest) a w :=
  wpList_yieldG hw (exec_loadAt ty x ho ⟨g, 0, none⟩ hx cs d (cells_part hg (fun j u h => by rw [Nat.zero_add]; exact h)) hu hd hi) h
end
end Go.Proofs.Ythnidgiogjehkaa
