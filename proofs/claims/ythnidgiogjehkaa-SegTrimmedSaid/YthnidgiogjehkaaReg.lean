/- Regions that draw their order, whose calls may make memory: one walk of the text's order serves every order. -/
import Derived.Test.YthnidgiogjehkaaMem
import Derived.BigQuiet
namespace Go.Proofs.Ythnidgiogjehkaa
set_option linter.unusedVariables false
set_option linter.unusedSimpArgs false
open Go.RowKit

/-- The worlds in which nothing below B has turned since w. -/
structure Later (B : Nat) (w : World) where
  wd : World
  ok : Below B w wd
instance laterNonempty (B : Nat) (w : World) : Nonempty (Later B w) := ⟨⟨w, Below.refl B w⟩⟩
section
variable {P : Program} {B : Nat} {w : World}
theorem Later.cell (x : Later B w) {p : Addr} {v : Value} (h : w.cell? p = some v) (hb : p.block < B) : x.wd.cell? p = some v := (x.ok.cell hb).trans h
theorem Later.blk (x : Later B w) {b : Nat} {o : Obj} (h : w.heap[b]? = some o) (hb : b < B) : x.wd.heap[b]? = some o := (x.ok.block b hb).trans h
/-- A call that makes memory, in a world of the class. -/
theorem quiet_later (x : Later B w) (hB : B ≤ w.heap.size) {f : FuncId} {args : Array Value} {v : Value}
    (h : Calls P f args x.wd fun e w' => e = .returned v ∧ Below x.wd.heap.size x.wd w') : Calls P f args x.wd fun e w' => e = .returned v ∧ ∃ y : Later B w, w' = y.wd :=
  h.mono fun _ w' ⟨he, hb⟩ => ⟨he, ⟨w', x.ok.trans (hb.mono (Nat.le_trans hB x.ok.size))⟩, rfl⟩
theorem quiet_same (x : Later B w) {f : FuncId} {args : Array Value} {v : Value}
    (h : Calls P f args x.wd fun e w' => e = .returned v ∧ x.wd = w') : Calls P f args x.wd fun e w' => e = .returned v ∧ ∃ y : Later B w, w' = y.wd :=
  h.mono fun _ w' ⟨he, hb⟩ => ⟨he, x, hb.symm⟩
theorem quiet_drawn (x : Later B w) {f : FuncId} {args : Array Value} {v : Value}
    (h : Calls P f args x.wd fun e w' => e = .returned v ∧ ∃ n, w' = x.wd.drewN n) : Calls P f args x.wd fun e w' => e = .returned v ∧ ∃ y : Later B w, w' = y.wd :=
  h.mono fun _ w' ⟨he, n, hb⟩ => ⟨he, ⟨w', by rw [hb]; exact below_drewN x.ok n⟩, rfl⟩
theorem wp_region_later {id : Nat} {Q : Exit → Act → World → Prop} {a : Act} {l : List Oper} (B : Nat) (hB : B ≤ w.heap.size) (hm : P.follows .mixedOrders = true) (hL : Region.lexB .any l.toArray = true)
    (h : wpQuiet P l.toArray (fun w' => ∃ x : Later B w, w' = x.wd) (fun a' => ∀ w', (∃ x : Later B w, w' = x.wd) → Q .normal a' w') l a) : (Code.region id l.toArray true).wp P Q a w :=
  wp_region_quiet (C := fun w' => ∃ x : Later B w, w' = x.wd) hm hL ⟨⟨_, below_drewN (Below.refl B w) 1⟩, rfl⟩ (by simpa using h)
end
end Go.Proofs.Ythnidgiogjehkaa
