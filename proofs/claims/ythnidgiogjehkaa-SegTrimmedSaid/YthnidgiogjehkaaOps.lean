/- Operations that write, each of which leaves a world of which only what is needed is told. -/
import Derived.Test.YthnidgiogjehkaaMod
namespace Go.Proofs.Ythnidgiogjehkaa
set_option linter.unusedVariables false
set_option linter.unusedSimpArgs false
open Go.RowKit

section
variable {P : Program} {ops : Array Oper} {rest : List Oper} {o : Oper} {a : Act} {w : World} {Q : Exit → Act → World → Prop} {K : Act → World → Prop}
/-- Which operation stands ahead: fails at once at any other. -/
theorem at_slot (n : Nat) {op : Op} {ty : TypeId} {pos : String} {af : Array Edge} {g : Option (Nat × Bool)} (h : wpList P ops Q (⟨some n, op, ty, pos, af, g⟩ :: rest) a w) : wpList P ops Q (⟨some n, op, ty, pos, af, g⟩ :: rest) a w := h
theorem at_build (t : TypeId) {d : Option Tmp} {ps : Array (Nat × Operand)} {ty : TypeId} {pos : String} {af : Array Edge} {g : Option (Nat × Bool)} (h : wpList P ops Q (⟨d, .build t ps, ty, pos, af, g⟩ :: rest) a w) : wpList P ops Q (⟨d, .build t ps, ty, pos, af, g⟩ :: rest) a w := h
theorem at_store (x y : Nat) {t ty : TypeId} {pos : String} {af : Array Edge} {g : Option (Nat × Bool)} (h : wpList P ops Q (⟨none, .store t (.tmp x) (.tmp y), ty, pos, af, g⟩ :: rest) a w) : wpList P ops Q (⟨none, .store t (.tmp x) (.tmp y), ty, pos, af, g⟩ :: rest) a w := h
theorem at_storeX (x : Nat) {t ty : TypeId} {y : Operand} {pos : String} {af : Array Edge} {g : Option (Nat × Bool)} (h : wpList P ops Q (⟨none, .store t (.tmp x) y, ty, pos, af, g⟩ :: rest) a w) : wpList P ops Q (⟨none, .store t (.tmp x) y, ty, pos, af, g⟩ :: rest) a w := h
theorem wp_yield {v : Value} {w' : World} (hr : (execOp a.eval o).run P w = .ok (.value v) w') (h : K (a.put o.dst v) w') : o.wp P a w K Q := by
  unfold Oper.wp; rw [hr]; exact h
theorem wpList_yield (hgd : o.guard = none) {v : Value} {w' : World} (hr : (execOp a.eval o).run P w = .ok (.value v) w') (h : wpList P ops Q rest (a.put o.dst v) w') : wpList P ops Q (o :: rest) a w :=
  wpList_plain hgd fun _ hK => wp_yield hr (hK _ _ h)
theorem wpList_yieldG (hw : Region.wanted o (yielded ops a.tmps) = true) {v : Value} {w' : World} (hr : (execOp a.eval o).run P w = .ok (.value v) w') (h : wpList P ops Q rest (a.put o.dst v) w') : wpList P ops Q (o :: rest) a w :=
  wpList_step fun K hK => by rw [if_pos hw]; exact wp_yield hr (hK _ _ h)
theorem exec_loadAt (ty : TypeId) (x : Operand) (ho : o.op = .load ty x) (ad : Addr) (hx : a.eval x = .pointer (some ad)) (cs : Array Value) (d : TypeDesc) (hc : ∀ (j : Nat) u, cs[j]? = some u → w.cell? (ad.add j) = some u)
    (hu : P.underlying ty = some d) (hd : (match d with | .struct _ | .array _ _ => true | _ => false) = true) (hi : (P.info? ty).map (·.size) = some cs.size) : (execOp a.eval o).run P w = .ok (.value (.agg cs)) w := by
  unfold execOp
  simp only [ho, hx, Instr.loadAt, Instr.sureAddr, Sem.run_bind, Sem.run_pure, Result.andThen_ok, run_loadVar_at w ad ty cs d hc hu hd hi]
theorem exec_alloc (e : TypeId) (ho : o.op = .alloc e) (cs : Array Value) (hz : ∀ w, (Instr.alloc e true (.tuple #[])).run P w = .ok (.pointer (some ⟨w.heap.size, 0, none⟩)) (w.alloc (.cells cs e))) :
    (execOp a.eval o).run P w = .ok (.value (.pointer (some ⟨w.heap.size, 0, none⟩))) (w.alloc (.cells cs e)) := by
  unfold execOp
  simp only [ho, Sem.run_bind, hz, Result.andThen_ok, Sem.run_pure]
theorem wpList_allocF (hgd : o.guard = none) (e : TypeId) (ho : o.op = .alloc e) (cs : Array Value) (hz : ∀ w, (Instr.alloc e true (.tuple #[])).run P w = .ok (.pointer (some ⟨w.heap.size, 0, none⟩)) (w.alloc (.cells cs e)))
    (h : ∀ w', w'.heap[w.heap.size]? = some (.cells cs e (0, 0)) → Below w.heap.size w w' → w'.heap.size = w.heap.size + 1 → wpList P ops Q rest (a.put o.dst (.pointer (some ⟨w.heap.size, 0, none⟩))) w') : wpList P ops Q (o :: rest) a w :=
  wpList_yield hgd (exec_alloc e ho cs hz) (h _ (nw1 w _) (bl1 w _) (by simp))
theorem exec_box (e : TypeId) (x : Operand) (ho : o.op = .box e x) (cs : Array Value) (hx : (a.eval x).cells = cs) :
    (execOp a.eval o).run P w = .ok (.value (.pointer (some ⟨w.heap.size, 0, none⟩))) (w.alloc (.cells cs e)) := by
  subst hx
  unfold execOp
  simp only [ho, Instr.box, newVar, Sem.run_bind]
  rfl
theorem wpList_boxF (hgd : o.guard = none) (e : TypeId) (x : Operand) (ho : o.op = .box e x) (cs : Array Value) (hx : (a.eval x).cells = cs)
    (h : ∀ w', w'.heap[w.heap.size]? = some (.cells cs e (0, 0)) → Below w.heap.size w w' → w'.heap.size = w.heap.size + 1 → wpList P ops Q rest (a.put o.dst (.pointer (some ⟨w.heap.size, 0, none⟩))) w') : wpList P ops Q (o :: rest) a w :=
  wpList_yield hgd (exec_box e x ho cs hx) (h _ (nw1 w _) (bl1 w _) (by simp))
theorem run_storePart (g k : Nat) (ty T : TypeId) (cs new : Array Value) (vs : List Value) (v : Value) (hv : v.cells = vs.toArray) (hg : w.heap[g]? = some (.cells cs T (0, 0))) (hfit : k + vs.length ≤ cs.size) (h1 : ∀ u ∈ vs, u.oneCell' = true)
    (hi : (P.info? ty).map (·.size) = some vs.length) (hnew : cs.toList.take k ++ vs ++ cs.toList.drop (k + vs.length) = new.toList) :
    (Instr.storeAt ty (.pointer (some ⟨g, k, none⟩)) v).run P w = .ok () (w.setRow g new) := by
  have h2 := run_storeCells_at (P := P) g k T vs 0 cs w hg (by omega) h1
  rw [Nat.add_zero, hnew, Array.toArray_toList] at h2
  cases hq : P.info? ty with
  | none => simp [hq] at hi
  | some i =>
    have hs : i.size = vs.length := by simpa [hq] using hi
    simp [Instr.storeAt, Instr.sureAddr, storeVar, Sem.run_bind, sizeOf, typeInfo, hq, hs, hv, h2]
theorem exec_storePart (ty : TypeId) (x y : Operand) (ho : o.op = .store ty x y) (g k : Nat) (T : TypeId) (cs new : Array Value) (vs : List Value) (hx : a.eval x = .pointer (some ⟨g, k, none⟩)) (hv : (a.eval y).cells = vs.toArray) (hg : w.heap[g]? = some (.cells cs T (0, 0)))
    (hfit : k + vs.length ≤ cs.size) (h1 : ∀ u ∈ vs, u.oneCell' = true) (hi : (P.info? ty).map (·.size) = some vs.length) (hnew : cs.toList.take k ++ vs ++ cs.toList.drop (k + vs.length) = new.toList) :
    (execOp a.eval o).run P w = .ok .skip (w.setRow g new) := by
  unfold execOp
  simp only [ho, hx, Sem.run_bind, run_storePart g k ty T cs new vs _ hv hg hfit h1 hi hnew, Result.andThen_ok, Sem.run_pure]
theorem wp_partF (ty : TypeId) (x y : Operand) (ho : o.op = .store ty x y) (g k : Nat) (T : TypeId) (cs new : Array Value) (vs : List Value) (hx : a.eval x = .pointer (some ⟨g, k, none⟩)) (hv : (a.eval y).cells = vs.toArray) (hg : w.heap[g]? = some (.cells cs T (0, 0)))
    (hfit : k + vs.length ≤ cs.size) (h1 : ∀ u ∈ vs, u.oneCell' = true) (hi : (P.info? ty).map (·.size) = some vs.length) (hnew : cs.toList.take k ++ vs ++ cs.toList.drop (k + vs.length) = new.toList)
    (h : ∀ w', w'.heap[g]? = some (.cells new T (0, 0)) → Mod [g] w w' → w'.heap.size = w.heap.size → K (a.put o.dst undef) w') : o.wp P a w K Q := by
  unfold Oper.wp
  rw [exec_storePart ty x y ho g k T cs new vs hx hv hg hfit h1 hi hnew]
  exact h _ (rowSetRow hg new) (Mod.setRow g new (by simp)) (sizeSetRow new)
/-- Some cells of a known block are written. -/
theorem wpList_partF (hgd : o.guard = none) (ty : TypeId) (x y : Operand) (ho : o.op = .store ty x y) (g k : Nat) (T : TypeId) (cs new : Array Value) (vs : List Value) (hx : a.eval x = .pointer (some ⟨g, k, none⟩)) (hv : (a.eval y).cells = vs.toArray) (hg : w.heap[g]? = some (.cells cs T (0, 0)))
    (hfit : k + vs.length ≤ cs.size) (h1 : ∀ u ∈ vs, u.oneCell' = true) (hi : (P.info? ty).map (·.size) = some vs.length) (hnew : cs.toList.take k ++ vs ++ cs.toList.drop (k + vs.length) = new.toList)
    (h : ∀ w', w'.heap[g]? = some (.cells new T (0, 0)) → Mod [g] w w' → w'.heap.size = w.heap.size → wpList P ops Q rest (a.put o.dst undef) w') : wpList P ops Q (o :: rest) a w :=
  wpList_plain hgd fun _ hK => by
    unfold Oper.wp
    rw [exec_storePart ty x y ho g k T cs new vs hx hv hg hfit h1 hi hnew]
    exact hK _ _ (h _ (rowSetRow hg new) (Mod.setRow g new (by simp)) (sizeSetRow new))
/-- The whole of a known block is written. -/
theorem wpList_rowF (hgd : o.guard = none) (ty : TypeId) (x y : Operand) (ho : o.op = .store ty x y) (g : Nat) (T : TypeId) (old cs : Array Value) (hx : a.eval x = .pointer (some ⟨g, 0, none⟩)) (hy : a.eval y = .agg cs) (hg : w.heap[g]? = some (.cells old T (0, 0)))
    (hi : (P.info? ty).map (·.size) = some cs.size) (hold : old.size = cs.size) (h1 : cs.all (·.oneCell') = true)
    (h : ∀ w', w'.heap[g]? = some (.cells cs T (0, 0)) → Mod [g] w w' → w'.heap.size = w.heap.size → wpList P ops Q rest (a.put o.dst undef) w') : wpList P ops Q (o :: rest) a w :=
  wpList_store_row hgd ty x y ho g cs hx hy T old hg hi hold h1 (h _ (rowSetRow hg cs) (Mod.setRow g cs (by simp)) (sizeSetRow cs))
/-- A value that is built: by one closed fact. -/
theorem wpList_buildF (hgd : o.guard = none) (t : TypeId) (parts : Array (Nat × Operand)) (ho : o.op = .build t parts) (vals : Array (Nat × Value)) (hp : parts.map (fun (i, x) => (i, a.eval x)) = vals) (v : Value) (hz : ∀ w, (Instr.build t vals).run P w = .ok v w)
    (h : wpList P ops Q rest (a.put o.dst v) w) : wpList P ops Q (o :: rest) a w :=
  wpList_yield hgd (v := v) (w' := w) (by unfold execOp; simp only [ho, hp, Sem.run_bind, hz, Result.andThen_ok, Sem.run_pure]) h
/-- How a function ends whose first result stands in a block, the second in a slot. -/
theorem ret_cell_tmp {fn : Func} {R : Ending → World → Prop} {tmps : Array Value} {p q : Tmp} {b : Nat} {cs : Array Value} {T : TypeId} {fz : Nat × Nat} {v : Value} {d : TypeDesc} (hf : fn.results = #[.cell p T, .tmp q]) (hp : tmps.getD p undef = .pointer (some ⟨b, 0, none⟩)) (hq : tmps.getD q undef = v)
    (hb : w.heap[b]? = some (.cells cs T fz)) (hu : P.underlying T = some d) (hd : (match d with | .struct _ | .array _ _ => true | _ => false) = true) (hi : (P.info? T).map (·.size) = some cs.size) (hR : R (.returned (.tuple #[.agg cs, v])) w) : bodyPost P fn R .ret ⟨tmps, []⟩ w := by
  have hp' : tmps[p]?.getD undef = .pointer (some ⟨b, 0, none⟩) := by simpa using hp
  have hq' : tmps[q]?.getD undef = v := by simpa using hq
  refine bodyPost_ret (v := .tuple #[.agg cs, v]) ?_ rfl hR
  simp [results, hf, hp', hq', asAddr, run_loadVar_row w b T T cs fz d hb hu hd hi]
end
end Go.Proofs.Ythnidgiogjehkaa
