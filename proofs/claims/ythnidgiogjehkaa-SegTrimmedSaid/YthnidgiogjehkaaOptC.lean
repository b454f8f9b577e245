/- Walk: how many bytes options have. Walk: whether options may be. Walk: whether two options are the same. Walk: the bytes of options. -/
import Derived.Test.YthnidgiogjehkaaOptB
import Derived.Test.YthnidgiogjehkaaBuf
import Derived.Test.YthnidgiogjehkaaSam12
import Derived.Test.YthnidgiogjehkaaOptA
import Derived.Test.YthnidgiogjehkaaChain
import Derived.Test.YthnidgiogjehkaaQRow
import Derived.Deep.DeepCutAuto
import Derived.Test.YthnidgiogjehkaaByt12
import Derived.Test.YthnidgiogjehkaaOctPut
import Derived.Test.YthnidgiogjehkaaZer
namespace Go.Proofs.Ythnidgiogjehkaa
set_option linter.unusedVariables false
set_option linter.unusedSimpArgs false
set_option maxRecDepth 20000
open Go.RowKit

theorem int_cell : ∀ w, (Instr.alloc 3 true (.tuple #[])).run Try.prog w = .ok (.pointer (some ⟨w.heap.size, 0, none⟩)) (w.alloc (.cells #[.int .i64 0] 3)) := by intro w; kernel_rfl
set_option maxHeartbeats 1000000 in
theorem addsize_any (nb : Nat) (n m : Nat) (t : Bool) (k : UInt8) (kv : Int) (hkv : (k.toNat : Int) = kv) (hk : sizesI k = (m : Int)) (hn : n ≤ 100000) (hm : m ≤ 100) (w : World) (h : w.heap[nb]? = some (.cells #[.int .i64 (n : Int)] 3 (0, 0))) :
    Calls Try.prog 72 #[.bool t, .int .u8 kv, .pointer (some ⟨nb, 0, none⟩)] w fun e w' => e = .returned (.tuple #[]) ∧ w'.heap[nb]? = some (.cells #[.int .i64 ((n + (if t then m else 0) : Nat) : Int)] 3 (0, 0)) ∧ Mod [nb] w w' ∧ w'.heap.size = w.heap.size := by
  subst hkv
  have H := hid h
  have hc := cellRow h 0
  have hz := Lib.frozen_of_heap h 0
  simp only [List.getElem?_toArray, List.getElem?_cons_zero] at hc
  have HS := hid (fun W => sizes_any k W)
  rw [hk] at HS
  have HW := hid (show IntKind.i64.wrap ((n : Int) + (m : Int)) = (n : Int) + (m : Int) by simp [IntKind.wrap, IntKind.bits, IntKind.signed]; omega)
  clear hk h
  go_enter Try.func72, Try.ntmps72
  cases t
  case false =>
    go_wp2_with fail
    go_end0
    exact ⟨rfl, by simpa using H.out, Mod.refl _ _, rfl⟩
  go_upto_region 1 with fail
  have hS0 : ({ w with drawn := w.drawn + 1 } : World).cell? ⟨nb, 0, none⟩ = some (.int .i64 (n : Int)) ∧ ({ w with drawn := w.drawn + 1 } : World) = w.drewN 1 := ⟨hc, rfl⟩
  refine wp_region_cut 4 (fun W' => W'.cell? ⟨nb, 0, none⟩ = some (.int .i64 (n : Int)) ∧ W' = w.drewN 1) rfl rfl (by kernel_rfl) (by kernel_rfl) (by kernel_rfl) (by kernel_rfl) hS0 ?_
  intro hS
  have hu : ({ w with drawn := w.drawn + 1 } : World) = w.drewN 1 := rfl
  rw [hu] at hS ⊢
  clear hS0 hu
  refine wpAnyH_take (i := 0) (oi := ⟨some 6, _, _, _, _, _⟩) (v := ?_) rfl (by kernel_rfl) (by kernel_rfl) (by kernel_rfl) (fun _ _ _ h => h) (Or.inl ⟨by rfl, ?_⟩) hS ?_
  rotate_left 1
  focus ((intro W' hS'; have q1 := hS'.1; go_simp) <;> with_reducible rfl)
  try simp only [Act.put, List.setIfInBounds_toArray, List.set_cons_zero, List.set_cons_succ]
  refine wpAnyH_take (i := 1) (oi := ⟨some 7, _, _, _, _, _⟩) (v := ?_) rfl (by kernel_rfl) (by kernel_rfl) (by kernel_rfl) (fun _ _ _ h => h) (Or.inl ⟨by rfl, ?_⟩) hS ?_
  rotate_left 1
  focus ((intro W' hS'; go_simp) <;> with_reducible rfl)
  try simp only [Act.put, List.setIfInBounds_toArray, List.set_cons_zero, List.set_cons_succ]
  refine anyH_one (i := 2) (by kernel_rfl) ⟨some 8, _, _, _, _, _⟩ rfl (by rfl) ?_
  go_simp
  with_reducible refine Calls.mono (HS.out _) ?_
  rintro e u3 ⟨rfl, rfl⟩
  refine ⟨hS, ?_⟩
  try simp only [Act.put, List.setIfInBounds_toArray, List.set_cons_zero, List.set_cons_succ]
  refine wpAnyH_take (i := 3) (oi := ⟨some 9, _, _, _, _, _⟩) (v := ?_) rfl (by kernel_rfl) (by kernel_rfl) (by kernel_rfl) (fun _ _ _ h => h) (Or.inl ⟨by rfl, ?_⟩) hS ?_
  rotate_left 1
  focus ((intro W' hS'; have q1 := HW.out; go_simp) <;> with_reducible rfl)
  try simp only [Act.put, List.setIfInBounds_toArray, List.set_cons_zero, List.set_cons_succ]
  refine wpAnyH_done (by kernel_rfl) ?_ _
  change wpList _ _ _ _ _ _
  have hc2 := hS.1
  have hz2 : (w.drewN 1).frozen? ⟨nb, 0, none⟩ = false := hz
  clear hS hc hz
  go_wp2_with fail
  go_end0
  refine ⟨rfl, ?_, (Mod.drewN 1).trans (Mod.setCell nb 0 _ (by simp)), by simp⟩
  have := rowSetCell (show (w.drewN 1).heap[nb]? = _ from H.out) 0 (.int .i64 ((n : Int) + (m : Int)))
  have e : ((n + (if true = true then m else 0) : Nat) : Int) = (n : Int) + (m : Int) := by simp
  first | rw [e] | skip
  simpa using this
set_option maxRecDepth 20000 in
set_option maxHeartbeats 4000000 in
theorem size_any (o : OptM) (w : World) (ho : OptOk w o) (hsl : o.sacks.length ≤ 1000) : Calls Try.prog 53 #[.agg o.cells] w fun e w' => e = .returned (.int .i64 (sizeO o : Int)) ∧ Below w.heap.size w w' := by
  have HPC := hid (fun (W : World) (g : Nat) (h : W.heap[g]? = some (.cells o.cells 31 (0, 0))) => opt_cells h)
  have hmf : ∀ (fn : Fn) (first cap : Array Value) (w : World), (Instr.makeFunc fn first cap).run Try.prog w = .ok (.func fn first cap) w := fun _ _ _ _ => rfl
  obtain ⟨n1, h1⟩ : ∃ n, 0 + (if o.hasMSS then 4 else 0) = n := ⟨_, rfl⟩
  obtain ⟨n2, h2⟩ : ∃ n, n1 + (if o.hasScale then 3 else 0) = n := ⟨_, rfl⟩
  obtain ⟨n3, h3⟩ : ∃ n, n2 + (if o.sackOK then 2 else 0) = n := ⟨_, rfl⟩
  obtain ⟨n4, h4⟩ : ∃ n, n3 + (if o.hasTime then 10 else 0) = n := ⟨_, rfl⟩
  obtain ⟨n5, h5⟩ : ∃ n, n4 + (if o.hasAO then 16 else 0) = n := ⟨_, rfl⟩
  have l1 : n1 ≤ 4 := by rw [← h1]; split <;> omega
  have l2 : n2 ≤ 7 := by rw [← h2]; split <;> omega
  have l3 : n3 ≤ 9 := by rw [← h3]; split <;> omega
  have l4 : n4 ≤ 19 := by rw [← h4]; split <;> omega
  have l5 : n5 ≤ 35 := by rw [← h5]; split <;> omega
  obtain ⟨t, ht⟩ : ∃ t, decide (0 < o.sacks.length) = t := ⟨_, rfl⟩
  have ht2 : decide ((0 : Int) < (o.sacks.length : Int)) = t := by rw [← ht, decide_eq_decide]; omega
  have HZ := hid (show sizeO o = (n5 + (if t then 2 + 8 * o.sacks.length else 0) + 3) / 4 * 4 by unfold sizeO lenO; rw [ht]; rw [← h5, ← h4, ← h3, ← h2, ← h1]; simp)
  have HA1 := hid (fun W nb h => addsize_any nb 0 4 o.hasMSS 2 2 rfl rfl (by decide) (by decide) W h)
  rw [h1] at HA1
  have HA2 := hid (fun W nb h => addsize_any nb n1 3 o.hasScale 3 3 rfl rfl (by omega) (by decide) W h)
  rw [h2] at HA2
  have HA3 := hid (fun W nb h => addsize_any nb n2 2 o.sackOK 4 4 rfl rfl (by omega) (by decide) W h)
  rw [h3] at HA3
  have HA4 := hid (fun W nb h => addsize_any nb n3 10 o.hasTime 8 8 rfl rfl (by omega) (by decide) W h)
  rw [h4] at HA4
  have HA5 := hid (fun W nb h => addsize_any nb n4 16 o.hasAO 29 29 rfl rfl (by omega) (by decide) W h)
  rw [h5] at HA5
  have HT := hid ht
  clear ht
  have HL5 := hid l5
  have HSL := hid hsl
  clear h1 h2 h3 h4 h5 l1 l2 l3 l4 l5 hsl ho
  obtain ⟨B, hB⟩ : ∃ B, w.heap.size = B := ⟨_, rfl⟩
  have HB := hid hB
  rw [hB]
  clear hB
  generalize hco : o.cells = co at HPC ⊢
  clear hco
  go_enter Try.func53, Try.ntmps53
  go_upto_region 2 with (first
    | ((with_reducible refine at_slot 1 ?_); refine wpList_boxF rfl 31 (.tmp 0) rfl co rfl ?_; intro w1 hx1 hb1 hz1; rw [HB.out] at hx1 hb1 hz1 ⊢)
    | ((with_reducible refine at_slot 3 ?_); refine wpList_allocF rfl 3 rfl _ int_cell ?_; intro w2 hx2 hb2 hz2; rw [hz1] at hx2 hb2 hz2 ⊢; have hy1 := (hb2.block _ (by omega)).trans hx1; have HB2 := hid (hb1.trans (hb2.mono (by omega))); have cn := cellRow hx2 0; have cz := Lib.frozen_of_heap hx2 0; simp only [List.getElem?_toArray, List.getElem?_cons_zero] at cn))
  have hm3 : Mod [B + 1] w2 (w2.setCell ⟨B + 1, 0, none⟩ (.int .i64 0)) := Mod.setCell _ _ _ (by simp)
  have hn3 := rowSetCell hx2 0 (.int .i64 0)
  have hn3 : (w2.setCell ⟨B + 1, 0, none⟩ (.int .i64 0)).heap[B + 1]? = some (.cells #[.int .i64 ((0 : Nat) : Int)] 3 (0, 0)) := by simpa using hn3
  have hy3 := hm3.keeps hy1 (by simp)
  have hb3 := Mod.below HB2.out hm3 (Nat.le_of_eq HB.out.symm) (by simp)
  clear hx1 hb1 hz1 hx2 hb2 hz2 hy1 HB2 cn cz hm3
  generalize w2.setCell ⟨B + 1, 0, none⟩ (.int .i64 0) = w3 at hn3 hy3 hb3 ⊢
  obtain ⟨e0, e1, e2, e3, e4, e5, e6, e7, e8, e9, e10, e11⟩ := HPC.out w3 B hy3
  clear e1 e3 e7 e8 e10 e11
  have HN3 := hid hn3
  have HY3 := hid hy3
  have HB3 := hid hb3
  clear hn3 hy3 hb3
  go_wp2_with fail
  (with_reducible refine Calls.mono (HA1.out _ _ HN3.out) ?_)
  rintro e w4 ⟨rfl, hn4, hm4, hs4⟩
  have HN4 := hid hn4
  have HY4 := hid (hm4.keeps HY3.out (by simp))
  have HB4 := hid (Mod.below HB3.out hm4 (Nat.le_of_eq HB.out.symm) (by simp))
  clear hn4 hm4 hs4 HN3 HY3 HB3 e0 e2 e4 e5 e6 e9
  obtain ⟨e0, e1, e2, e3, e4, e5, e6, e7, e8, e9, e10, e11⟩ := HPC.out w4 B HY4.out
  clear e1 e3 e7 e8 e10 e11
  go_wp2_with fail
  (with_reducible refine Calls.mono (HA2.out _ _ HN4.out) ?_)
  rintro e w5 ⟨rfl, hn5, hm5, hs5⟩
  have HN5 := hid hn5
  have HY5 := hid (hm5.keeps HY4.out (by simp))
  have HB5 := hid (Mod.below HB4.out hm5 (Nat.le_of_eq HB.out.symm) (by simp))
  clear hn5 hm5 hs5 HN4 HY4 HB4 e0 e2 e4 e5 e6 e9
  obtain ⟨e0, e1, e2, e3, e4, e5, e6, e7, e8, e9, e10, e11⟩ := HPC.out w5 B HY5.out
  clear e1 e3 e7 e8 e10 e11
  go_wp2_with fail
  (with_reducible refine Calls.mono (HA3.out _ _ HN5.out) ?_)
  rintro e w6 ⟨rfl, hn6, hm6, hs6⟩
  have HN6 := hid hn6
  have HY6 := hid (hm6.keeps HY5.out (by simp))
  have HB6 := hid (Mod.below HB5.out hm6 (Nat.le_of_eq HB.out.symm) (by simp))
  clear hn6 hm6 hs6 HN5 HY5 HB5 e0 e2 e4 e5 e6 e9
  obtain ⟨e0, e1, e2, e3, e4, e5, e6, e7, e8, e9, e10, e11⟩ := HPC.out w6 B HY6.out
  clear e1 e3 e7 e8 e10 e11
  go_wp2_with fail
  (with_reducible refine Calls.mono (HA4.out _ _ HN6.out) ?_)
  rintro e w7 ⟨rfl, hn7, hm7, hs7⟩
  have HN7 := hid hn7
  have HY7 := hid (hm7.keeps HY6.out (by simp))
  have HB7 := hid (Mod.below HB6.out hm7 (Nat.le_of_eq HB.out.symm) (by simp))
  clear hn7 hm7 hs7 HN6 HY6 HB6 e0 e2 e4 e5 e6 e9
  obtain ⟨e0, e1, e2, e3, e4, e5, e6, e7, e8, e9, e10, e11⟩ := HPC.out w7 B HY7.out
  clear e1 e3 e7 e8 e10 e11
  go_wp2_with fail
  (with_reducible refine Calls.mono (HA5.out _ _ HN7.out) ?_)
  rintro e w8 ⟨rfl, hn8, hm8, hs8⟩
  have HN8 := hid hn8
  have HY8 := hid (hm8.keeps HY7.out (by simp))
  have HB8 := hid (Mod.below HB7.out hm8 (Nat.le_of_eq HB.out.symm) (by simp))
  clear hn8 hm8 hs8 HN7 HY7 HB7 e0 e2 e4 e5 e6 e9
  obtain ⟨e0, e1, e2, e3, e4, e5, e6, e7, e8, e9, e10, e11⟩ := HPC.out w8 B HY8.out
  clear e1 e3 e7 e8 e10 e11
  have cn := cellRow HN8.out 0
  have cz := Lib.frozen_of_heap HN8.out 0
  simp only [List.getElem?_toArray, List.getElem?_cons_zero] at cn
  clear ht2
  obtain ⟨sl, hsl⟩ : ∃ n, o.sacks.length = n := ⟨_, rfl⟩
  rw [hsl] at HSL HZ e5
  have htt : decide (0 < sl) = t := by rw [← hsl]; exact HT.out
  clear hsl
  have hl5 := HL5.out
  have hsl := HSL.out
  rcases Nat.eq_zero_or_pos sl with h0 | h0
  · subst h0
    subst htt
    go_wp2_with fail
    go_ret
    exact ⟨by rw [HZ.out]; congr 2, HB8.out⟩
  have t1 : decide ((0 : Int) < (sl : Int)) = true := by rw [decide_eq_true_eq]; omega
  have t2 : decide (0 < sl) = true := decide_eq_true h0
  rw [t2] at htt
  subst htt
  go_wp2_with fail
  go_ret
  have hb9 := Mod.below HB8.out (Mod.setCell (B + 1) 0 (.int .i64 ((n5 : Int) + (2 + 8 * (sl : Int)))) (by simp : B + 1 ∈ [B + 1])) (Nat.le_of_eq HB.out.symm) (by simp)
  exact ⟨by rw [HZ.out]; congr 2, hb9⟩
end Go.Proofs.Ythnidgiogjehkaa
namespace Go.Proofs.Ythnidgiogjehkaa
set_option linter.unusedVariables false
set_option linter.unusedSimpArgs false
open Go.RowKit

section
variable {P : Program} {ops : Array Oper} {rest : List Oper} {o : Oper} {a : Act} {w : World} {Q : Exit → Act → World → Prop}
theorem exec_neqI {ty : TypeId} (x y : Operand) (ho : o.op = .binOp .neq ty x y ty) (k : IntKind) (p q : Int) (t : Bool) (h : (p != q) = t) (hx : a.eval x = .int k p) (hy : a.eval y = .int k q) :
    (execOp a.eval o).run P w = .ok (.value (.bool t)) w := by
  subst h
  unfold execOp
  simp only [ho, hx, hy, Sem.run_bind]
  go_simp
theorem exec_gtrI {ty : TypeId} (x y : Operand) (ho : o.op = .binOp .gtr ty x y ty) (k : IntKind) (p q : Int) (t : Bool) (h : decide (q < p) = t) (hx : a.eval x = .int k p) (hy : a.eval y = .int k q) :
    (execOp a.eval o).run P w = .ok (.value (.bool t)) w := by
  subst h
  unfold execOp
  simp only [ho, hx, hy, Sem.run_bind]
  go_simp
end
section
variable {P : Program} {ops : Array Oper} {rest : List Oper} {o : Oper} {a : Act} {w : World} {Q : Exit → Act → World → Prop}
/-- What operations leave that no guard wants. -/
def putU (l : List Oper) (a : Act) : Act := l.foldl (fun a o => a.put o.dst undef) a
theorem putU_nil (a : Act) : putU [] a = a := rfl
theorem putU_cons (o : Oper) (l : List Oper) (a : Act) : putU (o :: l) a = putU l (a.put o.dst undef) := rfl
def allSkip (ops : Array Oper) : List Oper → Act → Bool
  | [], _ => true
  | o :: l, a => !Region.wanted o (yielded ops a.tmps) && allSkip ops l (a.put o.dst undef)
theorem wpList_skips : ∀ (n : Nat) (rest : List Oper) (a : Act), allSkip ops (rest.take n) a = true → wpList P ops Q (rest.drop n) (putU (rest.take n) a) w → wpList P ops Q rest a w
  | 0, rest, a, _, h => h
  | n + 1, [], a, _, h => h
  | n + 1, o :: rest, a, hs, h => by
    have hs : (!Region.wanted o (yielded ops a.tmps) && allSkip ops (rest.take n) (a.put o.dst undef)) = true := hs
    rw [Bool.and_eq_true, Bool.not_eq_true'] at hs
    exact wpList_skip hs.1 (wpList_skips n rest _ hs.2 h)
/-- An operation that is wanted, and n behind it that are not. -/
theorem wpList_pureS (n : Nat) (hw : Region.wanted o (yielded ops a.tmps) = true) {v : Value} (hr : (execOp a.eval o).run P w = .ok (.value v) w) (hs : allSkip ops (rest.take n) (a.put o.dst v) = true) (h : wpList P ops Q (rest.drop n) (putU (rest.take n) (a.put o.dst v)) w) : wpList P ops Q (o :: rest) a w :=
  wpList_yieldG hw hr (wpList_skips n rest _ hs h)
end
theorem neq_12 (xs ys : List UInt8) (hx : xs.length = 12) (hy : ys.length = 12) (w : World) : (binOp .neq 29 (.agg (arr8 xs)) (.agg (arr8 ys))).run Try.prog w = .ok (.bool (!decide (xs = ys))) w := by
  have h := eql_12 xs ys hx hy w
  rw [run_eql_struct] at h
  rw [run_neq_struct, show (10000 : Nat) = 9998 + 2 by rfl]
  have hk : Try.prog.keyTypeAt 2 29 = true := by kernel_rfl
  obtain ⟨r, hr, hiff⟩ := run_equalIn_deep 9998 2 29 hk w 2 2 (.agg (arr8 xs)) (.agg (arr8 ys)) _ _ (formed12 xs hx) (formed12 ys hy) (bytes12_keyLits xs hx) (bytes12_keyLits ys hy)
  rw [show (10000 : Nat) = 9998 + 2 by rfl, hr] at h
  rw [hr]
  have h2 : Result.andThen (.ok r w) (fun a w => (pure (Value.bool a) : Sem Value).run Try.prog w) = .ok (.bool (decide (xs = ys))) w := h
  have h3 : r = decide (xs = ys) := by
    simp [Sem.run_pure] at h2
    exact h2
  rw [h3]
  rfl
theorem exec_neq12 {o : Oper} {c : Act} {w : World} (x y : Operand) (ho : o.op = .binOp .neq 29 x y 29) (xs ys : List UInt8) (h1 : xs.length = 12) (h2 : ys.length = 12) (t : Bool) (ht : (!decide (xs = ys)) = t) (hx : c.eval x = .agg (arr8 xs)) (hy : c.eval y = .agg (arr8 ys)) :
    (execOp c.eval o).run Try.prog w = .ok (.value (.bool t)) w := by
  subst ht
  unfold execOp
  simp only [ho, hx, hy, Sem.run_bind, guard_12, neq_12 xs ys h1 h2, Result.andThen_ok, Sem.run_pure]
theorem exec_buildY {P : Program} {o : Oper} {a : Act} {w : World} (t : TypeId) (parts : Array (Nat × Operand)) (ho : o.op = .build t parts) (vals : Array (Nat × Value)) (hp : parts.map (fun (i, x) => (i, a.eval x)) = vals) (v : Value) (hz : ∀ w, (Instr.build t vals).run P w = .ok v w) :
    (execOp a.eval o).run P w = .ok (.value v) w := by
  unfold execOp; simp only [ho, hp, Sem.run_bind, hz, Result.andThen_ok, Sem.run_pure]
def may1 (o : OptM) : Bool := (!o.hasMSS && o.mss != 0) || (!o.hasScale && o.scale != 0) || decide (14 < o.scale)
def may2 (o : OptM) : Bool := !o.hasTime && (o.val != 0 || o.echo != 0)
def may3 (o : OptM) : Bool := !o.hasAO && (o.key != 0 || o.next != 0 || !decide (o.mac = zeros12))
theorem may_parts (o : OptM) (hm : o.mac.length = 12) : mayO o = (!may1 o && !may2 o && !may3 o && (decide (o.sacks.length ≤ 4) && decide (sizeO o ≤ 40))) := by
  rw [Bool.eq_iff_iff, mayO_iff, bytesO_len o hm]
  unfold may1 may2 may3
  constructor
  · rintro ⟨⟨h1, h2, h3, h4⟩, h5, h6, h7⟩
    simp only [Bool.and_eq_true, Bool.not_eq_true', Bool.or_eq_false_iff, Bool.and_eq_false_iff, Bool.not_eq_false', bne_eq_false_iff_eq, decide_eq_true_eq, decide_eq_false_iff_not]
    refine ⟨⟨⟨⟨⟨?_, ?_⟩, by omega⟩, ?_⟩, ?_⟩, h6, h7⟩
    · cases hb : o.hasMSS
      · exact .inr (h1 hb)
      · exact .inl rfl
    · cases hb : o.hasScale
      · exact .inr (h2 hb)
      · exact .inl rfl
    · cases hb : o.hasTime
      · exact .inr (h3 hb)
      · exact .inl rfl
    · cases hb : o.hasAO
      · exact .inr ⟨⟨(h4 hb).1, (h4 hb).2.1⟩, (h4 hb).2.2⟩
      · exact .inl rfl
  · simp only [Bool.and_eq_true, Bool.not_eq_true', Bool.or_eq_false_iff, Bool.and_eq_false_iff, Bool.not_eq_false', bne_eq_false_iff_eq, decide_eq_true_eq, decide_eq_false_iff_not]
    rintro ⟨⟨⟨⟨⟨h1, h2⟩, h3⟩, h4⟩, h5⟩, h6, h7⟩
    refine ⟨⟨fun hb => ?_, fun hb => ?_, fun hb => ?_, fun hb => ?_⟩, by omega, h6, h7⟩
    · rw [hb] at h1; simpa using h1
    · rw [hb] at h2; simpa using h2
    · rw [hb] at h4; simpa using h4
    · rw [hb] at h5
      have : (o.key = 0 ∧ o.next = 0) ∧ o.mac = zeros12 := by simpa using h5
      exact ⟨this.1.1, this.1.2, this.2⟩
set_option maxRecDepth 20000 in
set_option maxHeartbeats 4000000 in
theorem may_any (o : OptM) (w : World) (ho : OptOk w o) (hsl : o.sacks.length ≤ 1000) : Calls Try.prog 34 #[.agg o.cells] w fun e w' => e = .returned (.bool (mayO o)) ∧ Below w.heap.size w w' := by
  have HPC := hid (fun (W : World) (g : Nat) (h : W.heap[g]? = some (.cells o.cells 31 (0, 0))) => opt_cells h)
  have HI := hid (info_optsX o ho.mac)
  have HSZ := hid (fun W (h : Below w.heap.size w W) => size_any o W (ho.below h) hsl)
  have HMP := hid (may_parts o ho.mac)
  have HMAC := hid ho.mac
  have M1 := hid (show ∀ (j : Nat) u, (arr8 o.mac)[j]? = some u → o.cells[12 + j]? = some u from fun j u h => o.mac_at j u (by simpa [arr8] using h))
  obtain ⟨m, hm⟩ : ∃ m, mayO o = m := ⟨_, rfl⟩
  rw [hm] at HMP ⊢
  clear hm
  obtain ⟨sz, hsz⟩ : ∃ z, sizeO o = z := ⟨_, rfl⟩
  rw [hsz] at HSZ HMP
  clear hsz
  generalize o.cells = co at HPC HI HSZ M1 ⊢
  obtain ⟨b0, hb0⟩ : ∃ t, o.hasMSS = t := ⟨_, rfl⟩
  obtain ⟨b2, hb2⟩ : ∃ t, o.hasScale = t := ⟨_, rfl⟩
  obtain ⟨b6, hb6⟩ : ∃ t, o.hasTime = t := ⟨_, rfl⟩
  obtain ⟨b9, hb9⟩ : ∃ t, o.hasAO = t := ⟨_, rfl⟩
  obtain ⟨t1, ht1⟩ : ∃ t, (o.mss != 0) = t := ⟨_, rfl⟩
  have Ht1 := hid (show ((o.mss : Int) != 0) = t1 by rw [← ht1, Bool.eq_iff_iff]; simp)
  obtain ⟨t3, ht3⟩ : ∃ t, (o.scale != 0) = t := ⟨_, rfl⟩
  have Ht3 := hid (show ((o.scale : Int) != 0) = t3 by rw [← ht3, Bool.eq_iff_iff]; simp)
  obtain ⟨t7, ht7⟩ : ∃ t, (o.val != 0) = t := ⟨_, rfl⟩
  have Ht7 := hid (show ((o.val : Int) != 0) = t7 by rw [← ht7, Bool.eq_iff_iff]; simp)
  obtain ⟨t8, ht8⟩ : ∃ t, (o.echo != 0) = t := ⟨_, rfl⟩
  have Ht8 := hid (show ((o.echo : Int) != 0) = t8 by rw [← ht8, Bool.eq_iff_iff]; simp)
  obtain ⟨t10, ht10⟩ : ∃ t, (o.key != 0) = t := ⟨_, rfl⟩
  have Ht10 := hid (show ((o.key : Int) != 0) = t10 by rw [← ht10, Bool.eq_iff_iff]; simp)
  obtain ⟨t11, ht11⟩ : ∃ t, (o.next != 0) = t := ⟨_, rfl⟩
  have Ht11 := hid (show ((o.next : Int) != 0) = t11 by rw [← ht11, Bool.eq_iff_iff]; simp)
  obtain ⟨t4, ht4⟩ : ∃ t, decide (14 < o.scale) = t := ⟨_, rfl⟩
  have Ht4 := hid (show decide ((14 : Int) < (o.scale : Int)) = t4 by rw [← ht4, decide_eq_decide]; omega)
  obtain ⟨t12, ht12⟩ : ∃ t, (!decide (o.mac = zeros12)) = t := ⟨_, rfl⟩
  have Ht12 := hid ht12
  obtain ⟨t5, ht5⟩ : ∃ t, decide (o.sacks.length ≤ 4) = t := ⟨_, rfl⟩
  have Ht5 : decide ((o.sacks.length : Int) ≤ 4) = t5 := by rw [← ht5, decide_eq_decide]; omega
  obtain ⟨t40, ht40⟩ : ∃ t, decide (sz ≤ 40) = t := ⟨_, rfl⟩
  have Ht40 : decide ((sz : Int) ≤ 40) = t40 := by rw [← ht40, decide_eq_decide]; omega
  have HM := hid (show m = (!((!b0 && t1) || (!b2 && t3) || t4) && !(!b6 && (t7 || t8)) && !(!b9 && (t10 || t11 || t12)) && (t5 && t40)) by rw [HMP.out]; unfold may1 may2 may3; rw [hb0, hb2, hb6, hb9, ht1, ht3, ht4, ht7, ht8, ht10, ht11, ht12, ht5, ht40])
  have HB0 := hid hb0
  have HB2 := hid hb2
  have HB6 := hid hb6
  have HB9 := hid hb9
  have H5 := hid Ht5
  have H40 := hid Ht40
  clear hb0 hb2 hb6 hb9 ht1 ht3 ht4 ht7 ht8 ht10 ht11 ht12 ht5 ht40 Ht5 Ht40 HMP ho hsl
  rw [HB0.out, HB2.out, HB6.out, HB9.out] at HPC
  obtain ⟨B, hB⟩ : ∃ B, w.heap.size = B := ⟨_, rfl⟩
  have HB := hid hB
  rw [hB] at HSZ ⊢
  clear hB
  go_enter Try.func34, Try.ntmps34
  go_upto_region 1 with ((with_reducible refine at_slot 1 ?_); refine wpList_boxF rfl 31 (.tmp 0) rfl co rfl ?_; intro w1 hx1 hb1 hz1; rw [HB.out] at hx1 hb1 hz1 ⊢; have HX := hid hx1; have HB1 := hid hb1; clear hx1 hb1 hz1)
  obtain ⟨e0, e1, e2, e3, e4, e5, e6, e7, e8, e9, e10, e11⟩ := HPC.out w1 B HX.out
  go_cut [3] (fun sx wx => sx = .bool ((!b0 && t1) || (!b2 && t3) || t4) ∧ wx = w1)
  case first =>
    refine wp_region_lit ?_
    refine wpList_pureG (v := .pointer (some ⟨B, 0, none⟩)) (by kernel_rfl) (by kernel_rfl) ?_
    simp only [Act.put, List.setIfInBounds_toArray, List.set_cons_zero, List.set_cons_succ]
    cases b0
    · refine wpList_pureG (by kernel_rfl) (exec_ld1 (.tmp 4) rfl ⟨B, 0, none⟩ _ (by kernel_rfl) e0 (by intro w; kernel_rfl)) ?_
      simp only [Act.put, List.setIfInBounds_toArray, List.set_cons_zero, List.set_cons_succ]
      refine wpList_pureG (v := .bool true) (by kernel_rfl) (by kernel_rfl) ?_
      simp only [Act.put, List.setIfInBounds_toArray, List.set_cons_zero, List.set_cons_succ]
      refine wpList_pureG (v := .bool true) (by kernel_rfl) (by kernel_rfl) ?_
      simp only [Act.put, List.setIfInBounds_toArray, List.set_cons_zero, List.set_cons_succ]
      refine wpList_pureG (v := .pointer (some ⟨B, 1, none⟩)) (by kernel_rfl) (by kernel_rfl) ?_
      simp only [Act.put, List.setIfInBounds_toArray, List.set_cons_zero, List.set_cons_succ]
      refine wpList_pureG (by kernel_rfl) (exec_ld1 (.tmp 8) rfl ⟨B, 1, none⟩ _ (by kernel_rfl) e1 (by intro w; kernel_rfl)) ?_
      simp only [Act.put, List.setIfInBounds_toArray, List.set_cons_zero, List.set_cons_succ]
      cases t1
      · refine wpList_pureG (by kernel_rfl) (exec_neqI (.tmp 9) (.const (.int .u16 0)) rfl .u16 (o.mss : Int) 0 _ Ht1.out (by kernel_rfl) (by kernel_rfl)) ?_
        simp only [Act.put, List.setIfInBounds_toArray, List.set_cons_zero, List.set_cons_succ]
        refine wpList_pureG (v := .bool false) (by kernel_rfl) (by kernel_rfl) ?_
        simp only [Act.put, List.setIfInBounds_toArray, List.set_cons_zero, List.set_cons_succ]
        refine wpList_pureG (v := .bool false) (by kernel_rfl) (by kernel_rfl) ?_
        simp only [Act.put, List.setIfInBounds_toArray, List.set_cons_zero, List.set_cons_succ]
        refine wpList_pureG (v := .pointer (some ⟨B, 2, none⟩)) (by kernel_rfl) (by kernel_rfl) ?_
        simp only [Act.put, List.setIfInBounds_toArray, List.set_cons_zero, List.set_cons_succ]
        cases b2
        · refine wpList_pureG (by kernel_rfl) (exec_ld1 (.tmp 13) rfl ⟨B, 2, none⟩ _ (by kernel_rfl) e2 (by intro w; kernel_rfl)) ?_
          simp only [Act.put, List.setIfInBounds_toArray, List.set_cons_zero, List.set_cons_succ]
          refine wpList_pureG (v := .bool true) (by kernel_rfl) (by kernel_rfl) ?_
          simp only [Act.put, List.setIfInBounds_toArray, List.set_cons_zero, List.set_cons_succ]
          refine wpList_pureG (v := .bool true) (by kernel_rfl) (by kernel_rfl) ?_
          simp only [Act.put, List.setIfInBounds_toArray, List.set_cons_zero, List.set_cons_succ]
          refine wpList_pureG (v := .pointer (some ⟨B, 3, none⟩)) (by kernel_rfl) (by kernel_rfl) ?_
          simp only [Act.put, List.setIfInBounds_toArray, List.set_cons_zero, List.set_cons_succ]
          refine wpList_pureG (by kernel_rfl) (exec_ld1 (.tmp 17) rfl ⟨B, 3, none⟩ _ (by kernel_rfl) e3 (by intro w; kernel_rfl)) ?_
          simp only [Act.put, List.setIfInBounds_toArray, List.set_cons_zero, List.set_cons_succ]
          cases t3
          · refine wpList_pureG (by kernel_rfl) (exec_neqI (.tmp 18) (.const (.int .u8 0)) rfl .u8 (o.scale : Int) 0 _ Ht3.out (by kernel_rfl) (by kernel_rfl)) ?_
            simp only [Act.put, List.setIfInBounds_toArray, List.set_cons_zero, List.set_cons_succ]
            refine wpList_pureG (v := .bool false) (by kernel_rfl) (by kernel_rfl) ?_
            simp only [Act.put, List.setIfInBounds_toArray, List.set_cons_zero, List.set_cons_succ]
            refine wpList_pureG (v := .bool false) (by kernel_rfl) (by kernel_rfl) ?_
            simp only [Act.put, List.setIfInBounds_toArray, List.set_cons_zero, List.set_cons_succ]
            refine wpList_pureG (v := .bool false) (by kernel_rfl) (by kernel_rfl) ?_
            simp only [Act.put, List.setIfInBounds_toArray, List.set_cons_zero, List.set_cons_succ]
            refine wpList_pureG (v := .pointer (some ⟨B, 3, none⟩)) (by kernel_rfl) (by kernel_rfl) ?_
            simp only [Act.put, List.setIfInBounds_toArray, List.set_cons_zero, List.set_cons_succ]
            refine wpList_pureG (by kernel_rfl) (exec_ld1 (.tmp 23) rfl ⟨B, 3, none⟩ _ (by kernel_rfl) e3 (by intro w; kernel_rfl)) ?_
            simp only [Act.put, List.setIfInBounds_toArray, List.set_cons_zero, List.set_cons_succ]
            cases t4
            · refine wpList_pureG (by kernel_rfl) (exec_gtrI (.tmp 24) (.const (.int .u8 14)) rfl .u8 (o.scale : Int) 14 _ Ht4.out (by kernel_rfl) (by kernel_rfl)) ?_
              simp only [Act.put, List.setIfInBounds_toArray, List.set_cons_zero, List.set_cons_succ]
              refine wpList_pureG (v := .bool false) (by kernel_rfl) (by kernel_rfl) ?_
              simp only [Act.put, List.setIfInBounds_toArray, List.set_cons_zero, List.set_cons_succ]
              refine wpList_pureG (v := .bool false) (by kernel_rfl) (by kernel_rfl) ?_
              simp only [Act.put, List.setIfInBounds_toArray, List.set_cons_zero, List.set_cons_succ]
              refine wpList_nilK ?_
              go_wp2_with fail
              go_meet
              case rel => exact ⟨rfl, rfl⟩
            · refine wpList_pureG (by kernel_rfl) (exec_gtrI (.tmp 24) (.const (.int .u8 14)) rfl .u8 (o.scale : Int) 14 _ Ht4.out (by kernel_rfl) (by kernel_rfl)) ?_
              simp only [Act.put, List.setIfInBounds_toArray, List.set_cons_zero, List.set_cons_succ]
              refine wpList_pureG (v := .bool true) (by kernel_rfl) (by kernel_rfl) ?_
              simp only [Act.put, List.setIfInBounds_toArray, List.set_cons_zero, List.set_cons_succ]
              refine wpList_pureG (v := .bool true) (by kernel_rfl) (by kernel_rfl) ?_
              simp only [Act.put, List.setIfInBounds_toArray, List.set_cons_zero, List.set_cons_succ]
              refine wpList_nilK ?_
              go_wp2_with fail
              go_meet
              case rel => exact ⟨rfl, rfl⟩
          · refine wpList_pureG (by kernel_rfl) (exec_neqI (.tmp 18) (.const (.int .u8 0)) rfl .u8 (o.scale : Int) 0 _ Ht3.out (by kernel_rfl) (by kernel_rfl)) ?_
            simp only [Act.put, List.setIfInBounds_toArray, List.set_cons_zero, List.set_cons_succ]
            refine wpList_pureG (v := .bool true) (by kernel_rfl) (by kernel_rfl) ?_
            simp only [Act.put, List.setIfInBounds_toArray, List.set_cons_zero, List.set_cons_succ]
            refine wpList_pureG (v := .bool true) (by kernel_rfl) (by kernel_rfl) ?_
            simp only [Act.put, List.setIfInBounds_toArray, List.set_cons_zero, List.set_cons_succ]
            refine wpList_pureS 3 (v := .bool true) (by kernel_rfl) (by kernel_rfl) (by kernel_rfl) ?_
            simp only [List.drop_succ_cons, List.drop_zero, List.take_succ_cons, List.take_zero, putU_cons, putU_nil, Act.put, List.setIfInBounds_toArray, List.set_cons_zero, List.set_cons_succ]
            refine wpList_pureG (v := .bool true) (by kernel_rfl) (by kernel_rfl) ?_
            simp only [Act.put, List.setIfInBounds_toArray, List.set_cons_zero, List.set_cons_succ]
            refine wpList_pureG (v := .bool true) (by kernel_rfl) (by kernel_rfl) ?_
            simp only [Act.put, List.setIfInBounds_toArray, List.set_cons_zero, List.set_cons_succ]
            refine wpList_nilK ?_
            go_wp2_with fail
            go_meet
            case rel => exact ⟨rfl, rfl⟩
        · refine wpList_pureG (by kernel_rfl) (exec_ld1 (.tmp 13) rfl ⟨B, 2, none⟩ _ (by kernel_rfl) e2 (by intro w; kernel_rfl)) ?_
          simp only [Act.put, List.setIfInBounds_toArray, List.set_cons_zero, List.set_cons_succ]
          refine wpList_pureG (v := .bool false) (by kernel_rfl) (by kernel_rfl) ?_
          simp only [Act.put, List.setIfInBounds_toArray, List.set_cons_zero, List.set_cons_succ]
          refine wpList_pureS 3 (v := .bool false) (by kernel_rfl) (by kernel_rfl) (by kernel_rfl) ?_
          simp only [List.drop_succ_cons, List.drop_zero, List.take_succ_cons, List.take_zero, putU_cons, putU_nil, Act.put, List.setIfInBounds_toArray, List.set_cons_zero, List.set_cons_succ]
          refine wpList_pureG (v := .bool false) (by kernel_rfl) (by kernel_rfl) ?_
          simp only [Act.put, List.setIfInBounds_toArray, List.set_cons_zero, List.set_cons_succ]
          refine wpList_pureG (v := .bool false) (by kernel_rfl) (by kernel_rfl) ?_
          simp only [Act.put, List.setIfInBounds_toArray, List.set_cons_zero, List.set_cons_succ]
          refine wpList_pureG (v := .bool false) (by kernel_rfl) (by kernel_rfl) ?_
          simp only [Act.put, List.setIfInBounds_toArray, List.set_cons_zero, List.set_cons_succ]
          refine wpList_pureG (v := .pointer (some ⟨B, 3, none⟩)) (by kernel_rfl) (by kernel_rfl) ?_
          simp only [Act.put, List.setIfInBounds_toArray, List.set_cons_zero, List.set_cons_succ]
          refine wpList_pureG (by kernel_rfl) (exec_ld1 (.tmp 23) rfl ⟨B, 3, none⟩ _ (by kernel_rfl) e3 (by intro w; kernel_rfl)) ?_
          simp only [Act.put, List.setIfInBounds_toArray, List.set_cons_zero, List.set_cons_succ]
          cases t4
          · refine wpList_pureG (by kernel_rfl) (exec_gtrI (.tmp 24) (.const (.int .u8 14)) rfl .u8 (o.scale : Int) 14 _ Ht4.out (by kernel_rfl) (by kernel_rfl)) ?_
            simp only [Act.put, List.setIfInBounds_toArray, List.set_cons_zero, List.set_cons_succ]
            refine wpList_pureG (v := .bool false) (by kernel_rfl) (by kernel_rfl) ?_
            simp only [Act.put, List.setIfInBounds_toArray, List.set_cons_zero, List.set_cons_succ]
            refine wpList_pureG (v := .bool false) (by kernel_rfl) (by kernel_rfl) ?_
            simp only [Act.put, List.setIfInBounds_toArray, List.set_cons_zero, List.set_cons_succ]
            refine wpList_nilK ?_
            go_wp2_with fail
            go_meet
            case rel => exact ⟨rfl, rfl⟩
          · refine wpList_pureG (by kernel_rfl) (exec_gtrI (.tmp 24) (.const (.int .u8 14)) rfl .u8 (o.scale : Int) 14 _ Ht4.out (by kernel_rfl) (by kernel_rfl)) ?_
            simp only [Act.put, List.setIfInBounds_toArray, List.set_cons_zero, List.set_cons_succ]
            refine wpList_pureG (v := .bool true) (by kernel_rfl) (by kernel_rfl) ?_
            simp only [Act.put, List.setIfInBounds_toArray, List.set_cons_zero, List.set_cons_succ]
            refine wpList_pureG (v := .bool true) (by kernel_rfl) (by kernel_rfl) ?_
            simp only [Act.put, List.setIfInBounds_toArray, List.set_cons_zero, List.set_cons_succ]
            refine wpList_nilK ?_
            go_wp2_with fail
            go_meet
            case rel => exact ⟨rfl, rfl⟩
      · refine wpList_pureG (by kernel_rfl) (exec_neqI (.tmp 9) (.const (.int .u16 0)) rfl .u16 (o.mss : Int) 0 _ Ht1.out (by kernel_rfl) (by kernel_rfl)) ?_
        simp only [Act.put, List.setIfInBounds_toArray, List.set_cons_zero, List.set_cons_succ]
        refine wpList_pureG (v := .bool true) (by kernel_rfl) (by kernel_rfl) ?_
        simp only [Act.put, List.setIfInBounds_toArray, List.set_cons_zero, List.set_cons_succ]
        refine wpList_pureS 8 (v := .bool true) (by kernel_rfl) (by kernel_rfl) (by kernel_rfl) ?_
        simp only [List.drop_succ_cons, List.drop_zero, List.take_succ_cons, List.take_zero, putU_cons, putU_nil, Act.put, List.setIfInBounds_toArray, List.set_cons_zero, List.set_cons_succ]
        refine wpList_pureG (v := .bool true) (by kernel_rfl) (by kernel_rfl) ?_
        simp only [Act.put, List.setIfInBounds_toArray, List.set_cons_zero, List.set_cons_succ]
        refine wpList_pureS 3 (v := .bool true) (by kernel_rfl) (by kernel_rfl) (by kernel_rfl) ?_
        simp only [List.drop_succ_cons, List.drop_zero, List.take_succ_cons, List.take_zero, putU_cons, putU_nil, Act.put, List.setIfInBounds_toArray, List.set_cons_zero, List.set_cons_succ]
        refine wpList_pureG (v := .bool true) (by kernel_rfl) (by kernel_rfl) ?_
        simp only [Act.put, List.setIfInBounds_toArray, List.set_cons_zero, List.set_cons_succ]
        refine wpList_pureG (v := .bool true) (by kernel_rfl) (by kernel_rfl) ?_
        simp only [Act.put, List.setIfInBounds_toArray, List.set_cons_zero, List.set_cons_succ]
        refine wpList_nilK ?_
        go_wp2_with fail
        go_meet
        case rel => exact ⟨rfl, rfl⟩
    · refine wpList_pureG (by kernel_rfl) (exec_ld1 (.tmp 4) rfl ⟨B, 0, none⟩ _ (by kernel_rfl) e0 (by intro w; kernel_rfl)) ?_
      simp only [Act.put, List.setIfInBounds_toArray, List.set_cons_zero, List.set_cons_succ]
      refine wpList_pureG (v := .bool false) (by kernel_rfl) (by kernel_rfl) ?_
      simp only [Act.put, List.setIfInBounds_toArray, List.set_cons_zero, List.set_cons_succ]
      refine wpList_pureS 3 (v := .bool false) (by kernel_rfl) (by kernel_rfl) (by kernel_rfl) ?_
      simp only [List.drop_succ_cons, List.drop_zero, List.take_succ_cons, List.take_zero, putU_cons, putU_nil, Act.put, List.setIfInBounds_toArray, List.set_cons_zero, List.set_cons_succ]
      refine wpList_pureG (v := .bool false) (by kernel_rfl) (by kernel_rfl) ?_
      simp only [Act.put, List.setIfInBounds_toArray, List.set_cons_zero, List.set_cons_succ]
      refine wpList_pureG (v := .bool false) (by kernel_rfl) (by kernel_rfl) ?_
      simp only [Act.put, List.setIfInBounds_toArray, List.set_cons_zero, List.set_cons_succ]
      refine wpList_pureG (v := .pointer (some ⟨B, 2, none⟩)) (by kernel_rfl) (by kernel_rfl) ?_
      simp only [Act.put, List.setIfInBounds_toArray, List.set_cons_zero, List.set_cons_succ]
      cases b2
      · refine wpList_pureG (by kernel_rfl) (exec_ld1 (.tmp 13) rfl ⟨B, 2, none⟩ _ (by kernel_rfl) e2 (by intro w; kernel_rfl)) ?_
        simp only [Act.put, List.setIfInBounds_toArray, List.set_cons_zero, List.set_cons_succ]
        refine wpList_pureG (v := .bool true) (by kernel_rfl) (by kernel_rfl) ?_
        simp only [Act.put, List.setIfInBounds_toArray, List.set_cons_zero, List.set_cons_succ]
        refine wpList_pureG (v := .bool true) (by kernel_rfl) (by kernel_rfl) ?_
        simp only [Act.put, List.setIfInBounds_toArray, List.set_cons_zero, List.set_cons_succ]
        refine wpList_pureG (v := .pointer (some ⟨B, 3, none⟩)) (by kernel_rfl) (by kernel_rfl) ?_
        simp only [Act.put, List.setIfInBounds_toArray, List.set_cons_zero, List.set_cons_succ]
        refine wpList_pureG (by kernel_rfl) (exec_ld1 (.tmp 17) rfl ⟨B, 3, none⟩ _ (by kernel_rfl) e3 (by intro w; kernel_rfl)) ?_
        simp only [Act.put, List.setIfInBounds_toArray, List.set_cons_zero, List.set_cons_succ]
        cases t3
        · refine wpList_pureG (by kernel_rfl) (exec_neqI (.tmp 18) (.const (.int .u8 0)) rfl .u8 (o.scale : Int) 0 _ Ht3.out (by kernel_rfl) (by kernel_rfl)) ?_
          simp only [Act.put, List.setIfInBounds_toArray, List.set_cons_zero, List.set_cons_succ]
          refine wpList_pureG (v := .bool false) (by kernel_rfl) (by kernel_rfl) ?_
          simp only [Act.put, List.setIfInBounds_toArray, List.set_cons_zero, List.set_cons_succ]
          refine wpList_pureG (v := .bool false) (by kernel_rfl) (by kernel_rfl) ?_
          simp only [Act.put, List.setIfInBounds_toArray, List.set_cons_zero, List.set_cons_succ]
          refine wpList_pureG (v := .bool false) (by kernel_rfl) (by kernel_rfl) ?_
          simp only [Act.put, List.setIfInBounds_toArray, List.set_cons_zero, List.set_cons_succ]
          refine wpList_pureG (v := .pointer (some ⟨B, 3, none⟩)) (by kernel_rfl) (by kernel_rfl) ?_
          simp only [Act.put, List.setIfInBounds_toArray, List.set_cons_zero, List.set_cons_succ]
          refine wpList_pureG (by kernel_rfl) (exec_ld1 (.tmp 23) rfl ⟨B, 3, none⟩ _ (by kernel_rfl) e3 (by intro w; kernel_rfl)) ?_
          simp only [Act.put, List.setIfInBounds_toArray, List.set_cons_zero, List.set_cons_succ]
          cases t4
          · refine wpList_pureG (by kernel_rfl) (exec_gtrI (.tmp 24) (.const (.int .u8 14)) rfl .u8 (o.scale : Int) 14 _ Ht4.out (by kernel_rfl) (by kernel_rfl)) ?_
            simp only [Act.put, List.setIfInBounds_toArray, List.set_cons_zero, List.set_cons_succ]
            refine wpList_pureG (v := .bool false) (by kernel_rfl) (by kernel_rfl) ?_
            simp only [Act.put, List.setIfInBounds_toArray, List.set_cons_zero, List.set_cons_succ]
            refine wpList_pureG (v := .bool false) (by kernel_rfl) (by kernel_rfl) ?_
            simp only [Act.put, List.setIfInBounds_toArray, List.set_cons_zero, List.set_cons_succ]
            refine wpList_nilK ?_
            go_wp2_with fail
            go_meet
            case rel => exact ⟨rfl, rfl⟩
          · refine wpList_pureG (by kernel_rfl) (exec_gtrI (.tmp 24) (.const (.int .u8 14)) rfl .u8 (o.scale : Int) 14 _ Ht4.out (by kernel_rfl) (by kernel_rfl)) ?_
            simp only [Act.put, List.setIfInBounds_toArray, List.set_cons_zero, List.set_cons_succ]
            refine wpList_pureG (v := .bool true) (by kernel_rfl) (by kernel_rfl) ?_
            simp only [Act.put, List.setIfInBounds_toArray, List.set_cons_zero, List.set_cons_succ]
            refine wpList_pureG (v := .bool true) (by kernel_rfl) (by kernel_rfl) ?_
            simp only [Act.put, List.setIfInBounds_toArray, List.set_cons_zero, List.set_cons_succ]
            refine wpList_nilK ?_
            go_wp2_with fail
            go_meet
            case rel => exact ⟨rfl, rfl⟩
        · refine wpList_pureG (by kernel_rfl) (exec_neqI (.tmp 18) (.const (.int .u8 0)) rfl .u8 (o.scale : Int) 0 _ Ht3.out (by kernel_rfl) (by kernel_rfl)) ?_
          simp only [Act.put, List.setIfInBounds_toArray, List.set_cons_zero, List.set_cons_succ]
          refine wpList_pureG (v := .bool true) (by kernel_rfl) (by kernel_rfl) ?_
          simp only [Act.put, List.setIfInBounds_toArray, List.set_cons_zero, List.set_cons_succ]
          refine wpList_pureG (v := .bool true) (by kernel_rfl) (by kernel_rfl) ?_
          simp only [Act.put, List.setIfInBounds_toArray, List.set_cons_zero, List.set_cons_succ]
          refine wpList_pureS 3 (v := .bool true) (by kernel_rfl) (by kernel_rfl) (by kernel_rfl) ?_
          simp only [List.drop_succ_cons, List.drop_zero, List.take_succ_cons, List.take_zero, putU_cons, putU_nil, Act.put, List.setIfInBounds_toArray, List.set_cons_zero, List.set_cons_succ]
          refine wpList_pureG (v := .bool true) (by kernel_rfl) (by kernel_rfl) ?_
          simp only [Act.put, List.setIfInBounds_toArray, List.set_cons_zero, List.set_cons_succ]
          refine wpList_pureG (v := .bool true) (by kernel_rfl) (by kernel_rfl) ?_
          simp only [Act.put, List.setIfInBounds_toArray, List.set_cons_zero, List.set_cons_succ]
          refine wpList_nilK ?_
          go_wp2_with fail
          go_meet
          case rel => exact ⟨rfl, rfl⟩
      · refine wpList_pureG (by kernel_rfl) (exec_ld1 (.tmp 13) rfl ⟨B, 2, none⟩ _ (by kernel_rfl) e2 (by intro w; kernel_rfl)) ?_
        simp only [Act.put, List.setIfInBounds_toArray, List.set_cons_zero, List.set_cons_succ]
        refine wpList_pureG (v := .bool false) (by kernel_rfl) (by kernel_rfl) ?_
        simp only [Act.put, List.setIfInBounds_toArray, List.set_cons_zero, List.set_cons_succ]
        refine wpList_pureS 3 (v := .bool false) (by kernel_rfl) (by kernel_rfl) (by kernel_rfl) ?_
        simp only [List.drop_succ_cons, List.drop_zero, List.take_succ_cons, List.take_zero, putU_cons, putU_nil, Act.put, List.setIfInBounds_toArray, List.set_cons_zero, List.set_cons_succ]
        refine wpList_pureG (v := .bool false) (by kernel_rfl) (by kernel_rfl) ?_
        simp only [Act.put, List.setIfInBounds_toArray, List.set_cons_zero, List.set_cons_succ]
        refine wpList_pureG (v := .bool false) (by kernel_rfl) (by kernel_rfl) ?_
        simp only [Act.put, List.setIfInBounds_toArray, List.set_cons_zero, List.set_cons_succ]
        refine wpList_pureG (v := .bool false) (by kernel_rfl) (by kernel_rfl) ?_
        simp only [Act.put, List.setIfInBounds_toArray, List.set_cons_zero, List.set_cons_succ]
        refine wpList_pureG (v := .pointer (some ⟨B, 3, none⟩)) (by kernel_rfl) (by kernel_rfl) ?_
        simp only [Act.put, List.setIfInBounds_toArray, List.set_cons_zero, List.set_cons_succ]
        refine wpList_pureG (by kernel_rfl) (exec_ld1 (.tmp 23) rfl ⟨B, 3, none⟩ _ (by kernel_rfl) e3 (by intro w; kernel_rfl)) ?_
        simp only [Act.put, List.setIfInBounds_toArray, List.set_cons_zero, List.set_cons_succ]
        cases t4
        · refine wpList_pureG (by kernel_rfl) (exec_gtrI (.tmp 24) (.const (.int .u8 14)) rfl .u8 (o.scale : Int) 14 _ Ht4.out (by kernel_rfl) (by kernel_rfl)) ?_
          simp only [Act.put, List.setIfInBounds_toArray, List.set_cons_zero, List.set_cons_succ]
          refine wpList_pureG (v := .bool false) (by kernel_rfl) (by kernel_rfl) ?_
          simp only [Act.put, List.setIfInBounds_toArray, List.set_cons_zero, List.set_cons_succ]
          refine wpList_pureG (v := .bool false) (by kernel_rfl) (by kernel_rfl) ?_
          simp only [Act.put, List.setIfInBounds_toArray, List.set_cons_zero, List.set_cons_succ]
          refine wpList_nilK ?_
          go_wp2_with fail
          go_meet
          case rel => exact ⟨rfl, rfl⟩
        · refine wpList_pureG (by kernel_rfl) (exec_gtrI (.tmp 24) (.const (.int .u8 14)) rfl .u8 (o.scale : Int) 14 _ Ht4.out (by kernel_rfl) (by kernel_rfl)) ?_
          simp only [Act.put, List.setIfInBounds_toArray, List.set_cons_zero, List.set_cons_succ]
          refine wpList_pureG (v := .bool true) (by kernel_rfl) (by kernel_rfl) ?_
          simp only [Act.put, List.setIfInBounds_toArray, List.set_cons_zero, List.set_cons_succ]
          refine wpList_pureG (v := .bool true) (by kernel_rfl) (by kernel_rfl) ?_
          simp only [Act.put, List.setIfInBounds_toArray, List.set_cons_zero, List.set_cons_succ]
          refine wpList_nilK ?_
          go_wp2_with fail
          go_meet
          case rel => exact ⟨rfl, rfl⟩
  case rest =>
    obtain ⟨rfl, hwc⟩ := hcut
    rw [hwc]
    clear hwc
    obtain ⟨m1, hm1⟩ : ∃ t, ((!b0 && t1) || (!b2 && t3) || t4) = t := ⟨_, rfl⟩
    rw [hm1] at HM ⊢
    clear hm1
    cases m1
    case true =>
      go_wp2_with fail
      go_ret
      exact ⟨by rw [HM.out]; simp, HB1.out⟩
    go_upto_region 3 with fail
    go_cut [27] (fun sx wx => sx = .bool (!b6 && (t7 || t8)) ∧ wx = w1)
    case first =>
      refine wp_region_lit ?_
      refine wpList_pureG (v := .pointer (some ⟨B, 6, none⟩)) (by kernel_rfl) (by kernel_rfl) ?_
      simp only [Act.put, List.setIfInBounds_toArray, List.set_cons_zero, List.set_cons_succ]
      cases b6
      · refine wpList_pureG (by kernel_rfl) (exec_ld1 (.tmp 28) rfl ⟨B, 6, none⟩ _ (by kernel_rfl) e6 (by intro w; kernel_rfl)) ?_
        simp only [Act.put, List.setIfInBounds_toArray, List.set_cons_zero, List.set_cons_succ]
        refine wpList_pureG (v := .bool true) (by kernel_rfl) (by kernel_rfl) ?_
        simp only [Act.put, List.setIfInBounds_toArray, List.set_cons_zero, List.set_cons_succ]
        refine wpList_pureG (v := .bool true) (by kernel_rfl) (by kernel_rfl) ?_
        simp only [Act.put, List.setIfInBounds_toArray, List.set_cons_zero, List.set_cons_succ]
        refine wpList_pureG (v := .pointer (some ⟨B, 7, none⟩)) (by kernel_rfl) (by kernel_rfl) ?_
        simp only [Act.put, List.setIfInBounds_toArray, List.set_cons_zero, List.set_cons_succ]
        refine wpList_pureG (by kernel_rfl) (exec_ld1 (.tmp 32) rfl ⟨B, 7, none⟩ _ (by kernel_rfl) e7 (by intro w; kernel_rfl)) ?_
        simp only [Act.put, List.setIfInBounds_toArray, List.set_cons_zero, List.set_cons_succ]
        cases t7
        · refine wpList_pureG (by kernel_rfl) (exec_neqI (.tmp 33) (.const (.int .u32 0)) rfl .u32 (o.val : Int) 0 _ Ht7.out (by kernel_rfl) (by kernel_rfl)) ?_
          simp only [Act.put, List.setIfInBounds_toArray, List.set_cons_zero, List.set_cons_succ]
          refine wpList_pureG (v := .bool false) (by kernel_rfl) (by kernel_rfl) ?_
          simp only [Act.put, List.setIfInBounds_toArray, List.set_cons_zero, List.set_cons_succ]
          refine wpList_pureG (v := .pointer (some ⟨B, 8, none⟩)) (by kernel_rfl) (by kernel_rfl) ?_
          simp only [Act.put, List.setIfInBounds_toArray, List.set_cons_zero, List.set_cons_succ]
          refine wpList_pureG (by kernel_rfl) (exec_ld1 (.tmp 36) rfl ⟨B, 8, none⟩ _ (by kernel_rfl) e8 (by intro w; kernel_rfl)) ?_
          simp only [Act.put, List.setIfInBounds_toArray, List.set_cons_zero, List.set_cons_succ]
          cases t8
          · refine wpList_pureG (by kernel_rfl) (exec_neqI (.tmp 37) (.const (.int .u32 0)) rfl .u32 (o.echo : Int) 0 _ Ht8.out (by kernel_rfl) (by kernel_rfl)) ?_
            simp only [Act.put, List.setIfInBounds_toArray, List.set_cons_zero, List.set_cons_succ]
            refine wpList_pureG (v := .bool false) (by kernel_rfl) (by kernel_rfl) ?_
            simp only [Act.put, List.setIfInBounds_toArray, List.set_cons_zero, List.set_cons_succ]
            refine wpList_pureG (v := .bool false) (by kernel_rfl) (by kernel_rfl) ?_
            simp only [Act.put, List.setIfInBounds_toArray, List.set_cons_zero, List.set_cons_succ]
            refine wpList_pureG (v := .bool false) (by kernel_rfl) (by kernel_rfl) ?_
            simp only [Act.put, List.setIfInBounds_toArray, List.set_cons_zero, List.set_cons_succ]
            refine wpList_nilK ?_
            go_wp2_with fail
            go_meet
            case rel => exact ⟨rfl, rfl⟩
          · refine wpList_pureG (by kernel_rfl) (exec_neqI (.tmp 37) (.const (.int .u32 0)) rfl .u32 (o.echo : Int) 0 _ Ht8.out (by kernel_rfl) (by kernel_rfl)) ?_
            simp only [Act.put, List.setIfInBounds_toArray, List.set_cons_zero, List.set_cons_succ]
            refine wpList_pureG (v := .bool true) (by kernel_rfl) (by kernel_rfl) ?_
            simp only [Act.put, List.setIfInBounds_toArray, List.set_cons_zero, List.set_cons_succ]
            refine wpList_pureG (v := .bool true) (by kernel_rfl) (by kernel_rfl) ?_
            simp only [Act.put, List.setIfInBounds_toArray, List.set_cons_zero, List.set_cons_succ]
            refine wpList_pureG (v := .bool true) (by kernel_rfl) (by kernel_rfl) ?_
            simp only [Act.put, List.setIfInBounds_toArray, List.set_cons_zero, List.set_cons_succ]
            refine wpList_nilK ?_
            go_wp2_with fail
            go_meet
            case rel => exact ⟨rfl, rfl⟩
        · refine wpList_pureG (by kernel_rfl) (exec_neqI (.tmp 33) (.const (.int .u32 0)) rfl .u32 (o.val : Int) 0 _ Ht7.out (by kernel_rfl) (by kernel_rfl)) ?_
          simp only [Act.put, List.setIfInBounds_toArray, List.set_cons_zero, List.set_cons_succ]
          refine wpList_pureS 3 (v := .bool true) (by kernel_rfl) (by kernel_rfl) (by kernel_rfl) ?_
          simp only [List.drop_succ_cons, List.drop_zero, List.take_succ_cons, List.take_zero, putU_cons, putU_nil, Act.put, List.setIfInBounds_toArray, List.set_cons_zero, List.set_cons_succ]
          refine wpList_pureG (v := .bool true) (by kernel_rfl) (by kernel_rfl) ?_
          simp only [Act.put, List.setIfInBounds_toArray, List.set_cons_zero, List.set_cons_succ]
          refine wpList_pureG (v := .bool true) (by kernel_rfl) (by kernel_rfl) ?_
          simp only [Act.put, List.setIfInBounds_toArray, List.set_cons_zero, List.set_cons_succ]
          refine wpList_pureG (v := .bool true) (by kernel_rfl) (by kernel_rfl) ?_
          simp only [Act.put, List.setIfInBounds_toArray, List.set_cons_zero, List.set_cons_succ]
          refine wpList_nilK ?_
          go_wp2_with fail
          go_meet
          case rel => exact ⟨rfl, rfl⟩
      · refine wpList_pureG (by kernel_rfl) (exec_ld1 (.tmp 28) rfl ⟨B, 6, none⟩ _ (by kernel_rfl) e6 (by intro w; kernel_rfl)) ?_
        simp only [Act.put, List.setIfInBounds_toArray, List.set_cons_zero, List.set_cons_succ]
        refine wpList_pureG (v := .bool false) (by kernel_rfl) (by kernel_rfl) ?_
        simp only [Act.put, List.setIfInBounds_toArray, List.set_cons_zero, List.set_cons_succ]
        refine wpList_pureS 8 (v := .bool false) (by kernel_rfl) (by kernel_rfl) (by kernel_rfl) ?_
        simp only [List.drop_succ_cons, List.drop_zero, List.take_succ_cons, List.take_zero, putU_cons, putU_nil, Act.put, List.setIfInBounds_toArray, List.set_cons_zero, List.set_cons_succ]
        refine wpList_pureG (v := .bool false) (by kernel_rfl) (by kernel_rfl) ?_
        simp only [Act.put, List.setIfInBounds_toArray, List.set_cons_zero, List.set_cons_succ]
        refine wpList_pureG (v := .bool false) (by kernel_rfl) (by kernel_rfl) ?_
        simp only [Act.put, List.setIfInBounds_toArray, List.set_cons_zero, List.set_cons_succ]
        refine wpList_nilK ?_
        go_wp2_with fail
        go_meet
        case rel => exact ⟨rfl, rfl⟩
    case rest =>
      obtain ⟨rfl, hwc⟩ := hcut
      rw [hwc]
      clear hwc
      obtain ⟨m2, hm2⟩ : ∃ t, (!b6 && (t7 || t8)) = t := ⟨_, rfl⟩
      rw [hm2] at HM ⊢
      clear hm2
      cases m2
      case true =>
        go_wp2_with fail
        go_ret
        exact ⟨by rw [HM.out]; simp, HB1.out⟩
      go_upto_region 5 with fail
      go_cut [41] (fun sx wx => sx = .bool (!b9 && (t10 || t11 || t12)) ∧ wx = w1)
      case first =>
        refine wp_region_lit ?_
        refine wpList_pureG (v := .pointer (some ⟨B, 9, none⟩)) (by kernel_rfl) (by kernel_rfl) ?_
        simp only [Act.put, List.setIfInBounds_toArray, List.set_cons_zero, List.set_cons_succ]
        cases b9
        · refine wpList_pureG (by kernel_rfl) (exec_ld1 (.tmp 42) rfl ⟨B, 9, none⟩ _ (by kernel_rfl) e9 (by intro w; kernel_rfl)) ?_
          simp only [Act.put, List.setIfInBounds_toArray, List.set_cons_zero, List.set_cons_succ]
          refine wpList_pureG (v := .bool true) (by kernel_rfl) (by kernel_rfl) ?_
          simp only [Act.put, List.setIfInBounds_toArray, List.set_cons_zero, List.set_cons_succ]
          refine wpList_pureG (v := .bool true) (by kernel_rfl) (by kernel_rfl) ?_
          simp only [Act.put, List.setIfInBounds_toArray, List.set_cons_zero, List.set_cons_succ]
          refine wpList_pureG (v := .pointer (some ⟨B, 10, none⟩)) (by kernel_rfl) (by kernel_rfl) ?_
          simp only [Act.put, List.setIfInBounds_toArray, List.set_cons_zero, List.set_cons_succ]
          refine wpList_pureG (by kernel_rfl) (exec_ld1 (.tmp 46) rfl ⟨B, 10, none⟩ _ (by kernel_rfl) e10 (by intro w; kernel_rfl)) ?_
          simp only [Act.put, List.setIfInBounds_toArray, List.set_cons_zero, List.set_cons_succ]
          cases t10
          · refine wpList_pureG (by kernel_rfl) (exec_neqI (.tmp 47) (.const (.int .u8 0)) rfl .u8 (o.key : Int) 0 _ Ht10.out (by kernel_rfl) (by kernel_rfl)) ?_
            simp only [Act.put, List.setIfInBounds_toArray, List.set_cons_zero, List.set_cons_succ]
            refine wpList_pureG (v := .bool false) (by kernel_rfl) (by kernel_rfl) ?_
            simp only [Act.put, List.setIfInBounds_toArray, List.set_cons_zero, List.set_cons_succ]
            refine wpList_pureG (v := .pointer (some ⟨B, 11, none⟩)) (by kernel_rfl) (by kernel_rfl) ?_
            simp only [Act.put, List.setIfInBounds_toArray, List.set_cons_zero, List.set_cons_succ]
            refine wpList_pureG (by kernel_rfl) (exec_ld1 (.tmp 50) rfl ⟨B, 11, none⟩ _ (by kernel_rfl) e11 (by intro w; kernel_rfl)) ?_
            simp only [Act.put, List.setIfInBounds_toArray, List.set_cons_zero, List.set_cons_succ]
            cases t11
            · refine wpList_pureG (by kernel_rfl) (exec_neqI (.tmp 51) (.const (.int .u8 0)) rfl .u8 (o.next : Int) 0 _ Ht11.out (by kernel_rfl) (by kernel_rfl)) ?_
              simp only [Act.put, List.setIfInBounds_toArray, List.set_cons_zero, List.set_cons_succ]
              refine wpList_pureG (v := .bool false) (by kernel_rfl) (by kernel_rfl) ?_
              simp only [Act.put, List.setIfInBounds_toArray, List.set_cons_zero, List.set_cons_succ]
              refine wpList_pureG (v := .bool false) (by kernel_rfl) (by kernel_rfl) ?_
              simp only [Act.put, List.setIfInBounds_toArray, List.set_cons_zero, List.set_cons_succ]
              refine wpList_pureG (v := .pointer (some ⟨B, 12, none⟩)) (by kernel_rfl) (by kernel_rfl) ?_
              simp only [Act.put, List.setIfInBounds_toArray, List.set_cons_zero, List.set_cons_succ]
              refine wpList_pureG (by kernel_rfl) (exec_loadAt 29 (.tmp 55) rfl ⟨B, 12, none⟩ (by kernel_rfl) (arr8 o.mac) _ (cells_part HX.out M1.out) Try.underlying29 rfl (info_12 _ HMAC.out)) ?_
              simp only [Act.put, List.setIfInBounds_toArray, List.set_cons_zero, List.set_cons_succ]
              refine wpList_pureG (by kernel_rfl) (exec_buildY 29 #[] rfl #[] (by simp) _ build_12) ?_
              simp only [Act.put, List.setIfInBounds_toArray, List.set_cons_zero, List.set_cons_succ]
              cases t12
              · refine wpList_pureG (by kernel_rfl) (exec_neq12 (.tmp 56) (.tmp 57) rfl o.mac zeros12 HMAC.out rfl _ Ht12.out (by kernel_rfl) (by kernel_rfl)) ?_
                simp only [Act.put, List.setIfInBounds_toArray, List.set_cons_zero, List.set_cons_succ]
                refine wpList_pureG (v := .bool false) (by kernel_rfl) (by kernel_rfl) ?_
                simp only [Act.put, List.setIfInBounds_toArray, List.set_cons_zero, List.set_cons_succ]
                refine wpList_pureG (v := .bool false) (by kernel_rfl) (by kernel_rfl) ?_
                simp only [Act.put, List.setIfInBounds_toArray, List.set_cons_zero, List.set_cons_succ]
                refine wpList_pureG (v := .bool false) (by kernel_rfl) (by kernel_rfl) ?_
                simp only [Act.put, List.setIfInBounds_toArray, List.set_cons_zero, List.set_cons_succ]
                refine wpList_nilK ?_
                go_wp2_with fail
                go_meet
                case rel => exact ⟨rfl, rfl⟩
              · refine wpList_pureG (by kernel_rfl) (exec_neq12 (.tmp 56) (.tmp 57) rfl o.mac zeros12 HMAC.out rfl _ Ht12.out (by kernel_rfl) (by kernel_rfl)) ?_
                simp only [Act.put, List.setIfInBounds_toArray, List.set_cons_zero, List.set_cons_succ]
                refine wpList_pureG (v := .bool true) (by kernel_rfl) (by kernel_rfl) ?_
                simp only [Act.put, List.setIfInBounds_toArray, List.set_cons_zero, List.set_cons_succ]
                refine wpList_pureG (v := .bool true) (by kernel_rfl) (by kernel_rfl) ?_
                simp only [Act.put, List.setIfInBounds_toArray, List.set_cons_zero, List.set_cons_succ]
                refine wpList_pureG (v := .bool true) (by kernel_rfl) (by kernel_rfl) ?_
                simp only [Act.put, List.setIfInBounds_toArray, List.set_cons_zero, List.set_cons_succ]
                refine wpList_nilK ?_
                go_wp2_with fail
                go_meet
                case rel => exact ⟨rfl, rfl⟩
            · refine wpList_pureG (by kernel_rfl) (exec_neqI (.tmp 51) (.const (.int .u8 0)) rfl .u8 (o.next : Int) 0 _ Ht11.out (by kernel_rfl) (by kernel_rfl)) ?_
              simp only [Act.put, List.setIfInBounds_toArray, List.set_cons_zero, List.set_cons_succ]
              refine wpList_pureG (v := .bool true) (by kernel_rfl) (by kernel_rfl) ?_
              simp only [Act.put, List.setIfInBounds_toArray, List.set_cons_zero, List.set_cons_succ]
              refine wpList_pureS 4 (v := .bool true) (by kernel_rfl) (by kernel_rfl) (by kernel_rfl) ?_
              simp only [List.drop_succ_cons, List.drop_zero, List.take_succ_cons, List.take_zero, putU_cons, putU_nil, Act.put, List.setIfInBounds_toArray, List.set_cons_zero, List.set_cons_succ]
              refine wpList_pureG (v := .bool true) (by kernel_rfl) (by kernel_rfl) ?_
              simp only [Act.put, List.setIfInBounds_toArray, List.set_cons_zero, List.set_cons_succ]
              refine wpList_pureG (v := .bool true) (by kernel_rfl) (by kernel_rfl) ?_
              simp only [Act.put, List.setIfInBounds_toArray, List.set_cons_zero, List.set_cons_succ]
              refine wpList_pureG (v := .bool true) (by kernel_rfl) (by kernel_rfl) ?_
              simp only [Act.put, List.setIfInBounds_toArray, List.set_cons_zero, List.set_cons_succ]
              refine wpList_nilK ?_
              go_wp2_with fail
              go_meet
              case rel => exact ⟨rfl, rfl⟩
          · refine wpList_pureG (by kernel_rfl) (exec_neqI (.tmp 47) (.const (.int .u8 0)) rfl .u8 (o.key : Int) 0 _ Ht10.out (by kernel_rfl) (by kernel_rfl)) ?_
            simp only [Act.put, List.setIfInBounds_toArray, List.set_cons_zero, List.set_cons_succ]
            refine wpList_pureS 3 (v := .bool true) (by kernel_rfl) (by kernel_rfl) (by kernel_rfl) ?_
            simp only [List.drop_succ_cons, List.drop_zero, List.take_succ_cons, List.take_zero, putU_cons, putU_nil, Act.put, List.setIfInBounds_toArray, List.set_cons_zero, List.set_cons_succ]
            refine wpList_pureG (v := .bool true) (by kernel_rfl) (by kernel_rfl) ?_
            simp only [Act.put, List.setIfInBounds_toArray, List.set_cons_zero, List.set_cons_succ]
            refine wpList_pureS 4 (v := .bool true) (by kernel_rfl) (by kernel_rfl) (by kernel_rfl) ?_
            simp only [List.drop_succ_cons, List.drop_zero, List.take_succ_cons, List.take_zero, putU_cons, putU_nil, Act.put, List.setIfInBounds_toArray, List.set_cons_zero, List.set_cons_succ]
            refine wpList_pureG (v := .bool true) (by kernel_rfl) (by kernel_rfl) ?_
            simp only [Act.put, List.setIfInBounds_toArray, List.set_cons_zero, List.set_cons_succ]
            refine wpList_pureG (v := .bool true) (by kernel_rfl) (by kernel_rfl) ?_
            simp only [Act.put, List.setIfInBounds_toArray, List.set_cons_zero, List.set_cons_succ]
            refine wpList_pureG (v := .bool true) (by kernel_rfl) (by kernel_rfl) ?_
            simp only [Act.put, List.setIfInBounds_toArray, List.set_cons_zero, List.set_cons_succ]
            refine wpList_nilK ?_
            go_wp2_with fail
            go_meet
            case rel => exact ⟨rfl, rfl⟩
        · refine wpList_pureG (by kernel_rfl) (exec_ld1 (.tmp 42) rfl ⟨B, 9, none⟩ _ (by kernel_rfl) e9 (by intro w; kernel_rfl)) ?_
          simp only [Act.put, List.setIfInBounds_toArray, List.set_cons_zero, List.set_cons_succ]
          refine wpList_pureG (v := .bool false) (by kernel_rfl) (by kernel_rfl) ?_
          simp only [Act.put, List.setIfInBounds_toArray, List.set_cons_zero, List.set_cons_succ]
          refine wpList_pureS 14 (v := .bool false) (by kernel_rfl) (by kernel_rfl) (by kernel_rfl) ?_
          simp only [List.drop_succ_cons, List.drop_zero, List.take_succ_cons, List.take_zero, putU_cons, putU_nil, Act.put, List.setIfInBounds_toArray, List.set_cons_zero, List.set_cons_succ]
          refine wpList_pureG (v := .bool false) (by kernel_rfl) (by kernel_rfl) ?_
          simp only [Act.put, List.setIfInBounds_toArray, List.set_cons_zero, List.set_cons_succ]
          refine wpList_pureG (v := .bool false) (by kernel_rfl) (by kernel_rfl) ?_
          simp only [Act.put, List.setIfInBounds_toArray, List.set_cons_zero, List.set_cons_succ]
          refine wpList_nilK ?_
          go_wp2_with fail
          go_meet
          case rel => exact ⟨rfl, rfl⟩
      case rest =>
        obtain ⟨rfl, hwc⟩ := hcut
        rw [hwc]
        clear hwc
        obtain ⟨m3, hm3⟩ : ∃ t, (!b9 && (t10 || t11 || t12)) = t := ⟨_, rfl⟩
        rw [hm3] at HM ⊢
        clear hm3
        cases m3
        case true =>
          go_wp2_with fail
          go_ret
          exact ⟨by rw [HM.out]; simp, HB1.out⟩
        cases t5
        case false =>
          have H5' := H5.out
          go_wp2_with fail
          go_ret
          exact ⟨by rw [HM.out]; simp, HB1.out⟩
        have H5' := H5.out
        have H40' := H40.out
        go_wp2_with ((with_reducible refine at_slot 66 ?_); refine wpList_rowG rfl 31 (.tmp 1) rfl B rfl _ co _ HX.out Try.underlying31 rfl HI.out ?_)
        (with_reducible refine Calls.mono (HSZ.out _ HB1.out) ?_)
        rintro e w3 ⟨rfl, hb3⟩
        have HB3 := hid (HB1.out.trans (hb3.mono (by have := HB1.out.size; have := HB.out; omega)))
        clear hb3
        go_wp2_with fail
        go_ret
        exact ⟨by rw [HM.out]; simp, HB3.out⟩
end Go.Proofs.Ythnidgiogjehkaa
namespace Go.Proofs.Ythnidgiogjehkaa
set_option linter.unusedVariables false
set_option linter.unusedSimpArgs false
open Go.RowKit

set_option maxRecDepth 20000 in
set_option maxHeartbeats 4000000 in
theorem equalB_any (A1 A2 : Option Addr) (c1 c2 : Nat) (ss tt : List (Nat × Nat)) (w : World) (h1 : Row w 2 A1 ss.length c1 (bcs ss)) (h2 : Row w 2 A2 tt.length c2 (bcs tt)) (o1 : OkB ss) (o2 : OkB tt) :
    Calls Try.prog 60 #[.slice A1 ss.length c1, .slice A2 tt.length c2] w fun e w' => e = .returned (.bool (decide (ss = tt))) ∧ Below w.heap.size w w' := by
  have HRA := hid h1
  have HRB := hid h2
  have hac := h1.cap
  have hat := h1.top
  have hbc := h2.cap
  have hbt := h2.top
  have HOA := hid o1
  have HOB := hid o2
  obtain ⟨r, hr⟩ : ∃ r, decide (ss = tt) = r := ⟨_, rfl⟩
  rw [hr]
  have HR := hid hr
  obtain ⟨nl, hnl⟩ : ∃ n, ss.length = n := ⟨_, rfl⟩
  obtain ⟨ml, hml⟩ : ∃ n, tt.length = n := ⟨_, rfl⟩
  rw [hnl] at HRA hac ⊢
  rw [hml] at HRB hbc ⊢
  have HNL := hid hnl
  have HML2 := hid hml
  clear hnl hml h1 h2 hr o1 o2
  by_cases hlen : nl = ml
  · subst hlen
    have hb0 : ((nl : Int) != (nl : Int)) = false := by simp
    go_enter Try.func60, Try.ntmps60
    go_wp2_with fail
    go_loopw [5, 13] (fun s5 i wr => ∃ k : Nat, k ≤ nl ∧ i = .int .i64 k ∧ ss.take k = tt.take k ∧ Below w.heap.size w wr) (fun _ i _ => nl - (intOf i).toNat)
    case atStart => exact ⟨0, Nat.zero_le _, rfl, rfl, Below.refl _ _⟩
    case round =>
      obtain ⟨k, hk, rfl, htk, hb⟩ := hrel
      by_cases hlt : k < nl
      · have hra := HRA.out.below hb
        have hrb := HRB.out.below hb
        have hka : k < ss.length := by have := HNL.out; omega
        have hkb : k < tt.length := by have := HML2.out; omega
        obtain ⟨a1, rfl⟩ := hra.addr (by rw [bcs_length]; omega)
        obtain ⟨a2, rfl⟩ := hrb.addr (by rw [bcs_length]; omega)
        obtain ⟨l0, l1⟩ := hra.blk k hka
        obtain ⟨m0, m1⟩ := hrb.blk k hkb
        have hna := HOA.out.get k hka
        have hnb := HOB.out.get k hkb
        have HTA := hid (take_next ss k hka)
        have HTB := hid (take_next tt k hkb)
        have HNE := hid (fun (h : ss.getD k (0, 0) ≠ tt.getD k (0, 0)) (e : ss = tt) => h (by rw [e]))
        generalize ss.getD k (0, 0) = xy at l0 l1 hna HTA HNE
        generalize tt.getD k (0, 0) = zu at m0 m1 hnb HTB HNE
        obtain ⟨x, y⟩ := xy
        obtain ⟨z, u⟩ := zu
        simp only at l0 l1 m0 m1 hna hnb
        have hneq := fun W => neq_blk x y z u hna hnb W
        obtain ⟨t, ht⟩ : ∃ t, decide ((x, y) = (z, u)) = t := ⟨_, rfl⟩
        rw [ht] at hneq
        have HT := hid ht
        have HB := hid hb
        have HTK := hid htk
        have hkl : (k : Int) < (nl : Int) := by omega
        clear hra hrb hna hnb ht hb htk
        go_wp2_with fail
        refine wp_region_later wr.heap.size (Nat.le_refl _) (by kernel_rfl) (by kernel_rfl) ?_
        have q2 := fun x : Later wr.heap.size wr => x.cell l0 (World.block_lt_of_cell? _ _ l0)
        have q3 := fun x : Later wr.heap.size wr => x.cell l1 (World.block_lt_of_cell? _ _ l1)
        have q4 := fun x : Later wr.heap.size wr => x.cell m0 (World.block_lt_of_cell? _ _ m0)
        have q5 := fun x : Later wr.heap.size wr => x.cell m1 (World.block_lt_of_cell? _ _ m1)
        clear l0 l1 m0 m1
        repeat (go_big_quiet_step (first | fail))
        refine wpQuiet_nil ?_
        rintro _ ⟨lx, rfl⟩
        have HB2 := hid (HB.out.trans (lx.ok.mono HB.out.size))
        clear q2 q3 q4 q5
        generalize lx.wd = W3 at HB2 ⊢
        cases t
        · have hr : r = false := by
            rw [← HR.out]
            exact decide_eq_false (HNE.out (of_decide_eq_false HT.out))
          have HR0 := hid hr
          clear hr
          go_wp2_with fail
          go_ret
          exact ⟨by rw [HR0.out]; rfl, HB2.out⟩
        · go_wp2_with fail
          go_roundw
          case rel => exact ⟨k + 1, by omega, by go_num, by rw [HTA.out, HTB.out, HTK.out, of_decide_eq_true HT.out], HB2.out⟩
          case measure => simp [intOf]; omega
      · obtain rfl : k = nl := by omega
        have hse : ss = tt := by
          rw [List.take_of_length_le (by have := HNL.out; omega), List.take_of_length_le (by have := HML2.out; omega)] at htk
          exact htk
        have hr : r = true := by rw [← HR.out]; exact decide_eq_true hse
        have HR0 := hid hr
        have HB := hid hb
        clear hr hse htk hb
        go_wp2_with fail
        go_ret
        exact ⟨by rw [HR0.out]; rfl, HB.out⟩
  · have hn1 : ((nl : Int) != (ml : Int)) = true := by simp; omega
    have hr : r = false := by
      rw [← HR.out]
      exact decide_eq_false (fun h => hlen (by rw [← HNL.out, ← HML2.out, h]))
    have HR0 := hid hr
    clear hr hlen
    go_enter Try.func60, Try.ntmps60
    go_wp2_with fail
    go_ret
    exact ⟨by rw [HR0.out]; rfl, Below.refl _ _⟩
set_option maxRecDepth 20000 in
set_option maxHeartbeats 4000000 in
theorem same_any (a b : OptM) (w : World) (ha : OptOk w a) (hb : OptOk w b) :
    Calls Try.prog 36 #[.agg a.cells, .agg b.cells] w fun e w' => e = .returned (.bool (sameO a b)) ∧ Below w.heap.size w w' := by
  have H1 := hid fun (W : World) (g : Nat) (h : W.heap[g]? = some (.cells a.cells 31 (0, 0))) => opt_cells h
  have H2 := hid fun (W : World) (g : Nat) (h : W.heap[g]? = some (.cells b.cells 31 (0, 0))) => opt_cells h
  obtain ⟨r, hr⟩ : ∃ r, sameO a b = r := ⟨_, rfl⟩
  rw [hr]
  have HR := hid hr
  have M1 := hid (show ∀ (j : Nat) u, (arr8 a.mac)[j]? = some u → a.cells[12 + j]? = some u from fun j u h => a.mac_at j u (by simpa [arr8] using h))
  have M2 := hid (show ∀ (j : Nat) u, (arr8 b.mac)[j]? = some u → b.cells[12 + j]? = some u from fun j u h => b.mac_at j u (by simpa [arr8] using h))
  have HEQ := hid (fun W (h : Below w.heap.size w W) => equalB_any a.A b.A a.c b.c a.sacks b.sacks W (ha.row.below h) (hb.row.below h) ha.ok hb.ok)
  have HML := hid (And.intro ha.mac hb.mac)
  obtain ⟨ts, hts⟩ : ∃ t, decide (a.sacks = b.sacks) = t := ⟨_, rfl⟩
  rw [hts] at HEQ
  have HTS := hid hts
  generalize a.cells = cs at H1 M1 ⊢
  generalize b.cells = ds at H2 M2 ⊢
  clear ha hb hr hts
  go_enter Try.func36, Try.ntmps36
  go_upto_region 1 with (first
    | ((with_reducible refine at_slot 2 ?_); refine wpList_boxF rfl 31 (.tmp 0) rfl cs rfl ?_; intro w1 hx1 hb1 hz1)
    | ((with_reducible refine at_slot 3 ?_); refine wpList_boxF rfl 31 (.tmp 1) rfl ds rfl ?_; intro wr hx2 hb2 hz2; have hy1 := (hb2.block _ (by omega)).trans hx1; have HXa := hid hy1; have HXb := hid hx2; have HB3 := hid (hb1.trans (hb2.mono (by omega))); have HW := hid (show w.heap.size ≤ wr.heap.size by omega); clear hx1 hx2 hb1 hb2 hz1 hz2 hy1))
  obtain ⟨g1, hgg1⟩ : ∃ g, w.heap.size = g := ⟨_, rfl⟩
  obtain ⟨g2, hgg2⟩ : ∃ g, w1.heap.size = g := ⟨_, rfl⟩
  rw [hgg1] at HXa HW HB3 HEQ ⊢
  rw [hgg2] at HXb ⊢
  have HGG := hid hgg1
  clear hgg1 hgg2
  obtain ⟨e0, e1, e2, e3, e4, e5, e6, e7, e8, e9, e10, e11⟩ := H1.out wr g1 HXa.out
  obtain ⟨f0, f1, f2, f3, f4, f5, f6, f7, f8, f9, f10, f11⟩ := H2.out wr g2 HXb.out
  obtain ⟨t0, ht0⟩ : ∃ t, (a.hasMSS == b.hasMSS) = t := ⟨_, rfl⟩
  have HT0 := hid ht0
  obtain ⟨t1, ht1⟩ : ∃ t, (a.mss == b.mss) = t := ⟨_, rfl⟩
  have HT1 := hid (show ((a.mss : Int) == (b.mss : Int)) = t1 by rw [← ht1]; exact int_beq _ _)
  obtain ⟨t2, ht2⟩ : ∃ t, (a.hasScale == b.hasScale) = t := ⟨_, rfl⟩
  have HT2 := hid ht2
  obtain ⟨t3, ht3⟩ : ∃ t, (a.scale == b.scale) = t := ⟨_, rfl⟩
  have HT3 := hid (show ((a.scale : Int) == (b.scale : Int)) = t3 by rw [← ht3]; exact int_beq _ _)
  obtain ⟨t4, ht4⟩ : ∃ t, (a.sackOK == b.sackOK) = t := ⟨_, rfl⟩
  have HT4 := hid ht4
  obtain ⟨t5, ht5⟩ : ∃ t, (a.hasTime == b.hasTime) = t := ⟨_, rfl⟩
  have HT5 := hid ht5
  obtain ⟨t6, ht6⟩ : ∃ t, (a.val == b.val) = t := ⟨_, rfl⟩
  have HT6 := hid (show ((a.val : Int) == (b.val : Int)) = t6 by rw [← ht6]; exact int_beq _ _)
  obtain ⟨t7, ht7⟩ : ∃ t, (a.echo == b.echo) = t := ⟨_, rfl⟩
  have HT7 := hid (show ((a.echo : Int) == (b.echo : Int)) = t7 by rw [← ht7]; exact int_beq _ _)
  obtain ⟨t8, ht8⟩ : ∃ t, (a.hasAO == b.hasAO) = t := ⟨_, rfl⟩
  have HT8 := hid ht8
  obtain ⟨t9, ht9⟩ : ∃ t, (a.key == b.key) = t := ⟨_, rfl⟩
  have HT9 := hid (show ((a.key : Int) == (b.key : Int)) = t9 by rw [← ht9]; exact int_beq _ _)
  obtain ⟨t10, ht10⟩ : ∃ t, (a.next == b.next) = t := ⟨_, rfl⟩
  have HT10 := hid (show ((a.next : Int) == (b.next : Int)) = t10 by rw [← ht10]; exact int_beq _ _)
  obtain ⟨t11, ht11⟩ : ∃ t, (a.mac == b.mac) = t := ⟨_, rfl⟩
  have HMC := hid (show decide (a.mac = b.mac) = t11 by rw [← ht11, Bool.eq_iff_iff]; simp)
  have HR2 := hid (show r = (ts && t0 && t1 && t2 && t3 && t4 && t5 && t6 && t7 && t8 && t9 && t10 && t11) by rw [← HR.out, ← ht0, ← ht1, ← ht2, ← ht3, ← ht4, ← ht5, ← ht6, ← ht7, ← ht8, ← ht9, ← ht10, ← ht11]; unfold sameO; rw [HTS.out])
  clear ht0 ht1 ht2 ht3 ht4 ht5 ht6 ht7 ht8 ht9 ht10 ht11
  refine wp_region_lit ?_
  refine wpList_pureG (v := .pointer (some ⟨g1, 0, none⟩)) (by kernel_rfl) (by kernel_rfl) ?_
  simp only [Act.put, List.setIfInBounds_toArray, List.set_cons_zero, List.set_cons_succ]
  refine wpList_pureG (by kernel_rfl) (exec_ld1 (.tmp 5) rfl ⟨g1, 0, none⟩ _ (by kernel_rfl) e0 (by intro w; kernel_rfl)) ?_
  simp only [Act.put, List.setIfInBounds_toArray, List.set_cons_zero, List.set_cons_succ]
  refine wpList_pureG (v := .pointer (some ⟨g2, 0, none⟩)) (by kernel_rfl) (by kernel_rfl) ?_
  simp only [Act.put, List.setIfInBounds_toArray, List.set_cons_zero, List.set_cons_succ]
  refine wpList_pureG (by kernel_rfl) (exec_ld1 (.tmp 7) rfl ⟨g2, 0, none⟩ _ (by kernel_rfl) f0 (by intro w; kernel_rfl)) ?_
  simp only [Act.put, List.setIfInBounds_toArray, List.set_cons_zero, List.set_cons_succ]
  refine wpList_pureG (by kernel_rfl) (exec_eqlB (.tmp 6) (.tmp 8) rfl a.hasMSS b.hasMSS t0 HT0.out Try.underlying4 (by kernel_rfl) (by kernel_rfl)) ?_
  simp only [Act.put, List.setIfInBounds_toArray, List.set_cons_zero, List.set_cons_succ]
  cases t0
  · refine wpList_tail 4 (.bool false) [] (by kernel_rfl) ?_
    intro a' h4 hd
    go_wp2_with fail
    refine bodyPost_ret (results_tmp rfl a'.tmps _ wr) hd ?_
    rw [h4]
    exact ⟨by rw [HR2.out]; simp, HGG.out ▸ HB3.out⟩
  refine wpList_pureG (v := .bool true) (by kernel_rfl) (by kernel_rfl) ?_
  simp only [Act.put, List.setIfInBounds_toArray, List.set_cons_zero, List.set_cons_succ]
  refine wpList_pureG (v := .pointer (some ⟨g1, 1, none⟩)) (by kernel_rfl) (by kernel_rfl) ?_
  simp only [Act.put, List.setIfInBounds_toArray, List.set_cons_zero, List.set_cons_succ]
  refine wpList_pureG (by kernel_rfl) (exec_ld1 (.tmp 11) rfl ⟨g1, 1, none⟩ _ (by kernel_rfl) e1 (by intro w; kernel_rfl)) ?_
  simp only [Act.put, List.setIfInBounds_toArray, List.set_cons_zero, List.set_cons_succ]
  refine wpList_pureG (v := .pointer (some ⟨g2, 1, none⟩)) (by kernel_rfl) (by kernel_rfl) ?_
  simp only [Act.put, List.setIfInBounds_toArray, List.set_cons_zero, List.set_cons_succ]
  refine wpList_pureG (by kernel_rfl) (exec_ld1 (.tmp 13) rfl ⟨g2, 1, none⟩ _ (by kernel_rfl) f1 (by intro w; kernel_rfl)) ?_
  simp only [Act.put, List.setIfInBounds_toArray, List.set_cons_zero, List.set_cons_succ]
  refine wpList_pureG (by kernel_rfl) (exec_eqlI (.tmp 12) (.tmp 14) rfl .u16 (a.mss : Int) (b.mss : Int) t1 HT1.out (by kernel_rfl) (by kernel_rfl)) ?_
  simp only [Act.put, List.setIfInBounds_toArray, List.set_cons_zero, List.set_cons_succ]
  cases t1
  · refine wpList_tail 4 (.bool false) [] (by kernel_rfl) ?_
    intro a' h4 hd
    go_wp2_with fail
    refine bodyPost_ret (results_tmp rfl a'.tmps _ wr) hd ?_
    rw [h4]
    exact ⟨by rw [HR2.out]; simp, HGG.out ▸ HB3.out⟩
  refine wpList_pureG (v := .bool true) (by kernel_rfl) (by kernel_rfl) ?_
  simp only [Act.put, List.setIfInBounds_toArray, List.set_cons_zero, List.set_cons_succ]
  refine wpList_pureG (v := .bool true) (by kernel_rfl) (by kernel_rfl) ?_
  simp only [Act.put, List.setIfInBounds_toArray, List.set_cons_zero, List.set_cons_succ]
  refine wpList_pureG (v := .pointer (some ⟨g1, 2, none⟩)) (by kernel_rfl) (by kernel_rfl) ?_
  simp only [Act.put, List.setIfInBounds_toArray, List.set_cons_zero, List.set_cons_succ]
  refine wpList_pureG (by kernel_rfl) (exec_ld1 (.tmp 18) rfl ⟨g1, 2, none⟩ _ (by kernel_rfl) e2 (by intro w; kernel_rfl)) ?_
  simp only [Act.put, List.setIfInBounds_toArray, List.set_cons_zero, List.set_cons_succ]
  refine wpList_pureG (v := .pointer (some ⟨g2, 2, none⟩)) (by kernel_rfl) (by kernel_rfl) ?_
  simp only [Act.put, List.setIfInBounds_toArray, List.set_cons_zero, List.set_cons_succ]
  refine wpList_pureG (by kernel_rfl) (exec_ld1 (.tmp 20) rfl ⟨g2, 2, none⟩ _ (by kernel_rfl) f2 (by intro w; kernel_rfl)) ?_
  simp only [Act.put, List.setIfInBounds_toArray, List.set_cons_zero, List.set_cons_succ]
  refine wpList_pureG (by kernel_rfl) (exec_eqlB (.tmp 19) (.tmp 21) rfl a.hasScale b.hasScale t2 HT2.out Try.underlying4 (by kernel_rfl) (by kernel_rfl)) ?_
  simp only [Act.put, List.setIfInBounds_toArray, List.set_cons_zero, List.set_cons_succ]
  cases t2
  · refine wpList_tail 4 (.bool false) [] (by kernel_rfl) ?_
    intro a' h4 hd
    go_wp2_with fail
    refine bodyPost_ret (results_tmp rfl a'.tmps _ wr) hd ?_
    rw [h4]
    exact ⟨by rw [HR2.out]; simp, HGG.out ▸ HB3.out⟩
  refine wpList_pureG (v := .bool true) (by kernel_rfl) (by kernel_rfl) ?_
  simp only [Act.put, List.setIfInBounds_toArray, List.set_cons_zero, List.set_cons_succ]
  refine wpList_pureG (v := .bool true) (by kernel_rfl) (by kernel_rfl) ?_
  simp only [Act.put, List.setIfInBounds_toArray, List.set_cons_zero, List.set_cons_succ]
  refine wpList_pureG (v := .pointer (some ⟨g1, 3, none⟩)) (by kernel_rfl) (by kernel_rfl) ?_
  simp only [Act.put, List.setIfInBounds_toArray, List.set_cons_zero, List.set_cons_succ]
  refine wpList_pureG (by kernel_rfl) (exec_ld1 (.tmp 25) rfl ⟨g1, 3, none⟩ _ (by kernel_rfl) e3 (by intro w; kernel_rfl)) ?_
  simp only [Act.put, List.setIfInBounds_toArray, List.set_cons_zero, List.set_cons_succ]
  refine wpList_pureG (v := .pointer (some ⟨g2, 3, none⟩)) (by kernel_rfl) (by kernel_rfl) ?_
  simp only [Act.put, List.setIfInBounds_toArray, List.set_cons_zero, List.set_cons_succ]
  refine wpList_pureG (by kernel_rfl) (exec_ld1 (.tmp 27) rfl ⟨g2, 3, none⟩ _ (by kernel_rfl) f3 (by intro w; kernel_rfl)) ?_
  simp only [Act.put, List.setIfInBounds_toArray, List.set_cons_zero, List.set_cons_succ]
  refine wpList_pureG (by kernel_rfl) (exec_eqlI (.tmp 26) (.tmp 28) rfl .u8 (a.scale : Int) (b.scale : Int) t3 HT3.out (by kernel_rfl) (by kernel_rfl)) ?_
  simp only [Act.put, List.setIfInBounds_toArray, List.set_cons_zero, List.set_cons_succ]
  cases t3
  · refine wpList_tail 4 (.bool false) [] (by kernel_rfl) ?_
    intro a' h4 hd
    go_wp2_with fail
    refine bodyPost_ret (results_tmp rfl a'.tmps _ wr) hd ?_
    rw [h4]
    exact ⟨by rw [HR2.out]; simp, HGG.out ▸ HB3.out⟩
  refine wpList_pureG (v := .bool true) (by kernel_rfl) (by kernel_rfl) ?_
  simp only [Act.put, List.setIfInBounds_toArray, List.set_cons_zero, List.set_cons_succ]
  refine wpList_pureG (v := .bool true) (by kernel_rfl) (by kernel_rfl) ?_
  simp only [Act.put, List.setIfInBounds_toArray, List.set_cons_zero, List.set_cons_succ]
  refine wpList_pureG (v := .pointer (some ⟨g1, 4, none⟩)) (by kernel_rfl) (by kernel_rfl) ?_
  simp only [Act.put, List.setIfInBounds_toArray, List.set_cons_zero, List.set_cons_succ]
  refine wpList_pureG (by kernel_rfl) (exec_ld1 (.tmp 32) rfl ⟨g1, 4, none⟩ _ (by kernel_rfl) e4 (by intro w; kernel_rfl)) ?_
  simp only [Act.put, List.setIfInBounds_toArray, List.set_cons_zero, List.set_cons_succ]
  refine wpList_pureG (v := .pointer (some ⟨g2, 4, none⟩)) (by kernel_rfl) (by kernel_rfl) ?_
  simp only [Act.put, List.setIfInBounds_toArray, List.set_cons_zero, List.set_cons_succ]
  refine wpList_pureG (by kernel_rfl) (exec_ld1 (.tmp 34) rfl ⟨g2, 4, none⟩ _ (by kernel_rfl) f4 (by intro w; kernel_rfl)) ?_
  simp only [Act.put, List.setIfInBounds_toArray, List.set_cons_zero, List.set_cons_succ]
  refine wpList_pureG (by kernel_rfl) (exec_eqlB (.tmp 33) (.tmp 35) rfl a.sackOK b.sackOK t4 HT4.out Try.underlying4 (by kernel_rfl) (by kernel_rfl)) ?_
  simp only [Act.put, List.setIfInBounds_toArray, List.set_cons_zero, List.set_cons_succ]
  cases t4
  · refine wpList_tail 4 (.bool false) [] (by kernel_rfl) ?_
    intro a' h4 hd
    go_wp2_with fail
    refine bodyPost_ret (results_tmp rfl a'.tmps _ wr) hd ?_
    rw [h4]
    exact ⟨by rw [HR2.out]; simp, HGG.out ▸ HB3.out⟩
  refine wpList_pureG (v := .bool true) (by kernel_rfl) (by kernel_rfl) ?_
  simp only [Act.put, List.setIfInBounds_toArray, List.set_cons_zero, List.set_cons_succ]
  refine wpList_pureG (v := .bool true) (by kernel_rfl) (by kernel_rfl) ?_
  simp only [Act.put, List.setIfInBounds_toArray, List.set_cons_zero, List.set_cons_succ]
  refine wpList_pureG (v := .pointer (some ⟨g1, 6, none⟩)) (by kernel_rfl) (by kernel_rfl) ?_
  simp only [Act.put, List.setIfInBounds_toArray, List.set_cons_zero, List.set_cons_succ]
  refine wpList_pureG (by kernel_rfl) (exec_ld1 (.tmp 39) rfl ⟨g1, 6, none⟩ _ (by kernel_rfl) e6 (by intro w; kernel_rfl)) ?_
  simp only [Act.put, List.setIfInBounds_toArray, List.set_cons_zero, List.set_cons_succ]
  refine wpList_pureG (v := .pointer (some ⟨g2, 6, none⟩)) (by kernel_rfl) (by kernel_rfl) ?_
  simp only [Act.put, List.setIfInBounds_toArray, List.set_cons_zero, List.set_cons_succ]
  refine wpList_pureG (by kernel_rfl) (exec_ld1 (.tmp 41) rfl ⟨g2, 6, none⟩ _ (by kernel_rfl) f6 (by intro w; kernel_rfl)) ?_
  simp only [Act.put, List.setIfInBounds_toArray, List.set_cons_zero, List.set_cons_succ]
  refine wpList_pureG (by kernel_rfl) (exec_eqlB (.tmp 40) (.tmp 42) rfl a.hasTime b.hasTime t5 HT5.out Try.underlying4 (by kernel_rfl) (by kernel_rfl)) ?_
  simp only [Act.put, List.setIfInBounds_toArray, List.set_cons_zero, List.set_cons_succ]
  cases t5
  · refine wpList_tail 4 (.bool false) [] (by kernel_rfl) ?_
    intro a' h4 hd
    go_wp2_with fail
    refine bodyPost_ret (results_tmp rfl a'.tmps _ wr) hd ?_
    rw [h4]
    exact ⟨by rw [HR2.out]; simp, HGG.out ▸ HB3.out⟩
  refine wpList_pureG (v := .bool true) (by kernel_rfl) (by kernel_rfl) ?_
  simp only [Act.put, List.setIfInBounds_toArray, List.set_cons_zero, List.set_cons_succ]
  refine wpList_pureG (v := .bool true) (by kernel_rfl) (by kernel_rfl) ?_
  simp only [Act.put, List.setIfInBounds_toArray, List.set_cons_zero, List.set_cons_succ]
  refine wpList_pureG (v := .pointer (some ⟨g1, 7, none⟩)) (by kernel_rfl) (by kernel_rfl) ?_
  simp only [Act.put, List.setIfInBounds_toArray, List.set_cons_zero, List.set_cons_succ]
  refine wpList_pureG (by kernel_rfl) (exec_ld1 (.tmp 46) rfl ⟨g1, 7, none⟩ _ (by kernel_rfl) e7 (by intro w; kernel_rfl)) ?_
  simp only [Act.put, List.setIfInBounds_toArray, List.set_cons_zero, List.set_cons_succ]
  refine wpList_pureG (v := .pointer (some ⟨g2, 7, none⟩)) (by kernel_rfl) (by kernel_rfl) ?_
  simp only [Act.put, List.setIfInBounds_toArray, List.set_cons_zero, List.set_cons_succ]
  refine wpList_pureG (by kernel_rfl) (exec_ld1 (.tmp 48) rfl ⟨g2, 7, none⟩ _ (by kernel_rfl) f7 (by intro w; kernel_rfl)) ?_
  simp only [Act.put, List.setIfInBounds_toArray, List.set_cons_zero, List.set_cons_succ]
  refine wpList_pureG (by kernel_rfl) (exec_eqlI (.tmp 47) (.tmp 49) rfl .u32 (a.val : Int) (b.val : Int) t6 HT6.out (by kernel_rfl) (by kernel_rfl)) ?_
  simp only [Act.put, List.setIfInBounds_toArray, List.set_cons_zero, List.set_cons_succ]
  cases t6
  · refine wpList_tail 4 (.bool false) [] (by kernel_rfl) ?_
    intro a' h4 hd
    go_wp2_with fail
    refine bodyPost_ret (results_tmp rfl a'.tmps _ wr) hd ?_
    rw [h4]
    exact ⟨by rw [HR2.out]; simp, HGG.out ▸ HB3.out⟩
  refine wpList_pureG (v := .bool true) (by kernel_rfl) (by kernel_rfl) ?_
  simp only [Act.put, List.setIfInBounds_toArray, List.set_cons_zero, List.set_cons_succ]
  refine wpList_pureG (v := .bool true) (by kernel_rfl) (by kernel_rfl) ?_
  simp only [Act.put, List.setIfInBounds_toArray, List.set_cons_zero, List.set_cons_succ]
  refine wpList_pureG (v := .pointer (some ⟨g1, 8, none⟩)) (by kernel_rfl) (by kernel_rfl) ?_
  simp only [Act.put, List.setIfInBounds_toArray, List.set_cons_zero, List.set_cons_succ]
  refine wpList_pureG (by kernel_rfl) (exec_ld1 (.tmp 53) rfl ⟨g1, 8, none⟩ _ (by kernel_rfl) e8 (by intro w; kernel_rfl)) ?_
  simp only [Act.put, List.setIfInBounds_toArray, List.set_cons_zero, List.set_cons_succ]
  refine wpList_pureG (v := .pointer (some ⟨g2, 8, none⟩)) (by kernel_rfl) (by kernel_rfl) ?_
  simp only [Act.put, List.setIfInBounds_toArray, List.set_cons_zero, List.set_cons_succ]
  refine wpList_pureG (by kernel_rfl) (exec_ld1 (.tmp 55) rfl ⟨g2, 8, none⟩ _ (by kernel_rfl) f8 (by intro w; kernel_rfl)) ?_
  simp only [Act.put, List.setIfInBounds_toArray, List.set_cons_zero, List.set_cons_succ]
  refine wpList_pureG (by kernel_rfl) (exec_eqlI (.tmp 54) (.tmp 56) rfl .u32 (a.echo : Int) (b.echo : Int) t7 HT7.out (by kernel_rfl) (by kernel_rfl)) ?_
  simp only [Act.put, List.setIfInBounds_toArray, List.set_cons_zero, List.set_cons_succ]
  cases t7
  · refine wpList_tail 4 (.bool false) [] (by kernel_rfl) ?_
    intro a' h4 hd
    go_wp2_with fail
    refine bodyPost_ret (results_tmp rfl a'.tmps _ wr) hd ?_
    rw [h4]
    exact ⟨by rw [HR2.out]; simp, HGG.out ▸ HB3.out⟩
  refine wpList_pureG (v := .bool true) (by kernel_rfl) (by kernel_rfl) ?_
  simp only [Act.put, List.setIfInBounds_toArray, List.set_cons_zero, List.set_cons_succ]
  refine wpList_pureG (v := .bool true) (by kernel_rfl) (by kernel_rfl) ?_
  simp only [Act.put, List.setIfInBounds_toArray, List.set_cons_zero, List.set_cons_succ]
  refine wpList_pureG (v := .pointer (some ⟨g1, 9, none⟩)) (by kernel_rfl) (by kernel_rfl) ?_
  simp only [Act.put, List.setIfInBounds_toArray, List.set_cons_zero, List.set_cons_succ]
  refine wpList_pureG (by kernel_rfl) (exec_ld1 (.tmp 60) rfl ⟨g1, 9, none⟩ _ (by kernel_rfl) e9 (by intro w; kernel_rfl)) ?_
  simp only [Act.put, List.setIfInBounds_toArray, List.set_cons_zero, List.set_cons_succ]
  refine wpList_pureG (v := .pointer (some ⟨g2, 9, none⟩)) (by kernel_rfl) (by kernel_rfl) ?_
  simp only [Act.put, List.setIfInBounds_toArray, List.set_cons_zero, List.set_cons_succ]
  refine wpList_pureG (by kernel_rfl) (exec_ld1 (.tmp 62) rfl ⟨g2, 9, none⟩ _ (by kernel_rfl) f9 (by intro w; kernel_rfl)) ?_
  simp only [Act.put, List.setIfInBounds_toArray, List.set_cons_zero, List.set_cons_succ]
  refine wpList_pureG (by kernel_rfl) (exec_eqlB (.tmp 61) (.tmp 63) rfl a.hasAO b.hasAO t8 HT8.out Try.underlying4 (by kernel_rfl) (by kernel_rfl)) ?_
  simp only [Act.put, List.setIfInBounds_toArray, List.set_cons_zero, List.set_cons_succ]
  cases t8
  · refine wpList_tail 4 (.bool false) [] (by kernel_rfl) ?_
    intro a' h4 hd
    go_wp2_with fail
    refine bodyPost_ret (results_tmp rfl a'.tmps _ wr) hd ?_
    rw [h4]
    exact ⟨by rw [HR2.out]; simp, HGG.out ▸ HB3.out⟩
  refine wpList_pureG (v := .bool true) (by kernel_rfl) (by kernel_rfl) ?_
  simp only [Act.put, List.setIfInBounds_toArray, List.set_cons_zero, List.set_cons_succ]
  refine wpList_pureG (v := .bool true) (by kernel_rfl) (by kernel_rfl) ?_
  simp only [Act.put, List.setIfInBounds_toArray, List.set_cons_zero, List.set_cons_succ]
  refine wpList_pureG (v := .pointer (some ⟨g1, 10, none⟩)) (by kernel_rfl) (by kernel_rfl) ?_
  simp only [Act.put, List.setIfInBounds_toArray, List.set_cons_zero, List.set_cons_succ]
  refine wpList_pureG (by kernel_rfl) (exec_ld1 (.tmp 67) rfl ⟨g1, 10, none⟩ _ (by kernel_rfl) e10 (by intro w; kernel_rfl)) ?_
  simp only [Act.put, List.setIfInBounds_toArray, List.set_cons_zero, List.set_cons_succ]
  refine wpList_pureG (v := .pointer (some ⟨g2, 10, none⟩)) (by kernel_rfl) (by kernel_rfl) ?_
  simp only [Act.put, List.setIfInBounds_toArray, List.set_cons_zero, List.set_cons_succ]
  refine wpList_pureG (by kernel_rfl) (exec_ld1 (.tmp 69) rfl ⟨g2, 10, none⟩ _ (by kernel_rfl) f10 (by intro w; kernel_rfl)) ?_
  simp only [Act.put, List.setIfInBounds_toArray, List.set_cons_zero, List.set_cons_succ]
  refine wpList_pureG (by kernel_rfl) (exec_eqlI (.tmp 68) (.tmp 70) rfl .u8 (a.key : Int) (b.key : Int) t9 HT9.out (by kernel_rfl) (by kernel_rfl)) ?_
  simp only [Act.put, List.setIfInBounds_toArray, List.set_cons_zero, List.set_cons_succ]
  cases t9
  · refine wpList_tail 4 (.bool false) [] (by kernel_rfl) ?_
    intro a' h4 hd
    go_wp2_with fail
    refine bodyPost_ret (results_tmp rfl a'.tmps _ wr) hd ?_
    rw [h4]
    exact ⟨by rw [HR2.out]; simp, HGG.out ▸ HB3.out⟩
  refine wpList_pureG (v := .bool true) (by kernel_rfl) (by kernel_rfl) ?_
  simp only [Act.put, List.setIfInBounds_toArray, List.set_cons_zero, List.set_cons_succ]
  refine wpList_pureG (v := .bool true) (by kernel_rfl) (by kernel_rfl) ?_
  simp only [Act.put, List.setIfInBounds_toArray, List.set_cons_zero, List.set_cons_succ]
  refine wpList_pureG (v := .pointer (some ⟨g1, 11, none⟩)) (by kernel_rfl) (by kernel_rfl) ?_
  simp only [Act.put, List.setIfInBounds_toArray, List.set_cons_zero, List.set_cons_succ]
  refine wpList_pureG (by kernel_rfl) (exec_ld1 (.tmp 74) rfl ⟨g1, 11, none⟩ _ (by kernel_rfl) e11 (by intro w; kernel_rfl)) ?_
  simp only [Act.put, List.setIfInBounds_toArray, List.set_cons_zero, List.set_cons_succ]
  refine wpList_pureG (v := .pointer (some ⟨g2, 11, none⟩)) (by kernel_rfl) (by kernel_rfl) ?_
  simp only [Act.put, List.setIfInBounds_toArray, List.set_cons_zero, List.set_cons_succ]
  refine wpList_pureG (by kernel_rfl) (exec_ld1 (.tmp 76) rfl ⟨g2, 11, none⟩ _ (by kernel_rfl) f11 (by intro w; kernel_rfl)) ?_
  simp only [Act.put, List.setIfInBounds_toArray, List.set_cons_zero, List.set_cons_succ]
  refine wpList_pureG (by kernel_rfl) (exec_eqlI (.tmp 75) (.tmp 77) rfl .u8 (a.next : Int) (b.next : Int) t10 HT10.out (by kernel_rfl) (by kernel_rfl)) ?_
  simp only [Act.put, List.setIfInBounds_toArray, List.set_cons_zero, List.set_cons_succ]
  cases t10
  · refine wpList_tail 4 (.bool false) [] (by kernel_rfl) ?_
    intro a' h4 hd
    go_wp2_with fail
    refine bodyPost_ret (results_tmp rfl a'.tmps _ wr) hd ?_
    rw [h4]
    exact ⟨by rw [HR2.out]; simp, HGG.out ▸ HB3.out⟩
  refine wpList_pureG (v := .bool true) (by kernel_rfl) (by kernel_rfl) ?_
  simp only [Act.put, List.setIfInBounds_toArray, List.set_cons_zero, List.set_cons_succ]
  refine wpList_pureG (v := .bool true) (by kernel_rfl) (by kernel_rfl) ?_
  simp only [Act.put, List.setIfInBounds_toArray, List.set_cons_zero, List.set_cons_succ]
  refine wpList_pureG (v := .pointer (some ⟨g1, 12, none⟩)) (by kernel_rfl) (by kernel_rfl) ?_
  simp only [Act.put, List.setIfInBounds_toArray, List.set_cons_zero, List.set_cons_succ]
  refine wpList_pureG (by kernel_rfl) (exec_loadAt 29 (.tmp 81) rfl ⟨g1, 12, none⟩ (by kernel_rfl) (arr8 a.mac) _ (cells_part HXa.out M1.out) Try.underlying29 rfl (info_12 _ HML.out.1)) ?_
  simp only [Act.put, List.setIfInBounds_toArray, List.set_cons_zero, List.set_cons_succ]
  refine wpList_pureG (v := .pointer (some ⟨g2, 12, none⟩)) (by kernel_rfl) (by kernel_rfl) ?_
  simp only [Act.put, List.setIfInBounds_toArray, List.set_cons_zero, List.set_cons_succ]
  refine wpList_pureG (by kernel_rfl) (exec_loadAt 29 (.tmp 83) rfl ⟨g2, 12, none⟩ (by kernel_rfl) (arr8 b.mac) _ (cells_part HXb.out M2.out) Try.underlying29 rfl (info_12 _ HML.out.2)) ?_
  simp only [Act.put, List.setIfInBounds_toArray, List.set_cons_zero, List.set_cons_succ]
  refine wpList_pureG (by kernel_rfl) ((exec_eql12 (.tmp 82) (.tmp 84) rfl a.mac b.mac HML.out.1 HML.out.2 (by kernel_rfl) (by kernel_rfl)).trans (by rw [HMC.out])) ?_
  simp only [Act.put, List.setIfInBounds_toArray, List.set_cons_zero, List.set_cons_succ]
  cases t11
  · refine wpList_tail 4 (.bool false) [] (by kernel_rfl) ?_
    intro a' h4 hd
    go_wp2_with fail
    refine bodyPost_ret (results_tmp rfl a'.tmps _ wr) hd ?_
    rw [h4]
    exact ⟨by rw [HR2.out]; simp, HGG.out ▸ HB3.out⟩
  refine wpList_pureG (v := .bool true) (by kernel_rfl) (by kernel_rfl) ?_
  simp only [Act.put, List.setIfInBounds_toArray, List.set_cons_zero, List.set_cons_succ]
  refine wpList_pureG (v := .bool true) (by kernel_rfl) (by kernel_rfl) ?_
  simp only [Act.put, List.setIfInBounds_toArray, List.set_cons_zero, List.set_cons_succ]
  refine wpList_pureG (v := .pointer (some ⟨g1, 5, none⟩)) (by kernel_rfl) (by kernel_rfl) ?_
  simp only [Act.put, List.setIfInBounds_toArray, List.set_cons_zero, List.set_cons_succ]
  refine wpList_pureG (by kernel_rfl) (exec_ld1 (.tmp 88) rfl ⟨g1, 5, none⟩ _ (by kernel_rfl) e5 (by intro w; kernel_rfl)) ?_
  simp only [Act.put, List.setIfInBounds_toArray, List.set_cons_zero, List.set_cons_succ]
  refine wpList_pureG (v := .pointer (some ⟨g2, 5, none⟩)) (by kernel_rfl) (by kernel_rfl) ?_
  simp only [Act.put, List.setIfInBounds_toArray, List.set_cons_zero, List.set_cons_succ]
  refine wpList_pureG (by kernel_rfl) (exec_ld1 (.tmp 90) rfl ⟨g2, 5, none⟩ _ (by kernel_rfl) f5 (by intro w; kernel_rfl)) ?_
  simp only [Act.put, List.setIfInBounds_toArray, List.set_cons_zero, List.set_cons_succ]
  clear e0 e1 e2 e3 e4 e5 e6 e7 e8 e9 e10 e11 f0 f1 f2 f3 f4 f5 f6 f7 f8 f9 f10 f11
  go_wp2_with fail
  (with_reducible refine Calls.mono (HEQ.out _ HB3.out) ?_)
  rintro e w5 ⟨rfl, hb5⟩
  have HB5 := hid (HB3.out.trans (hb5.mono HW.out))
  clear hb5
  go_wp2_with fail
  go_ret
  exact ⟨by rw [HR2.out]; simp, HGG.out ▸ HB5.out⟩
end Go.Proofs.Ythnidgiogjehkaa
namespace Go.Proofs.Ythnidgiogjehkaa
set_option linter.unusedVariables false
set_option linter.unusedSimpArgs false
open Go.RowKit

def layO (o : OptM) : List UInt8 := if mayO o then bytesO o else []
def layE (o : OptM) : Nat := if mayO o then 0 else 1
theorem blk_zero : ∀ w, (Instr.alloc 84 true (.tuple #[])).run Try.prog w = .ok (.pointer (some ⟨w.heap.size, 0, none⟩)) (w.alloc (.cells #[.int .u32 0, .int .u32 0] 84)) := by intro w; kernel_rfl
theorem info_blkW : (Try.prog.info? 84).map (·.size) = some 2 := by kernel_rfl
def LayRes (B : Nat) (w : World) (o : OptM) (e : Ending) (w' : World) : Prop := ∃ A c, e = .returned (.tuple #[.slice A (layO o).length c, .int .i64 (layE o : Int)]) ∧ OB w' B (.slice A (layO o).length c) (layO o) ∧ Below B w w'
theorem lay_no {B : Nat} {w w' : World} {o : OptM} (h : mayO o = false) (hb : Below B w w') : LayRes B w o (.returned (.tuple #[.slice none 0 0, .int .i64 1])) w' := by
  unfold LayRes layO layE
  rw [h]
  exact ⟨none, 0, rfl, OB.nil _ _, hb⟩
theorem lay_yes {B : Nat} {w w' : World} {o : OptM} {A : Option Addr} {c : Nat} {l : List UInt8} (h : mayO o = true) (hl : bytesO o = l) (ho : OB w' B (.slice A l.length c) l) (hb : Below B w w') : LayRes B w o (.returned (.tuple #[.slice A l.length c, .int .i64 0])) w' := by
  unfold LayRes layO layE
  rw [if_pos h, if_pos h, hl]
  exact ⟨A, c, rfl, ho, hb⟩
set_option maxRecDepth 20000 in
set_option maxHeartbeats 8000000 in
theorem lay_any (o : OptM) (w : World) (ho : OptOk w o) (hsl : o.sacks.length ≤ 1000) :
    Calls Try.prog 29 #[.agg o.cells] w (LayRes w.heap.size w o) := by
  have HMY := hid (fun W (h : Below w.heap.size w W) => may_any o W (ho.below h) hsl)
  have HSZ := hid (fun W (h : Below w.heap.size w W) => size_any o W (ho.below h) hsl)
  have HI := hid (info_optsX o ho.mac)
  have HSL4 := hid (fun h : mayO o = true => ((mayO_iff o).1 h).2.2.1)
  obtain ⟨L, hL⟩ : ∃ l, bytesO o = l := ⟨_, rfl⟩
  have HBL := hid (show sizeO o = L.length by rw [← hL, bytesO_len o ho.mac])
  have HLAY := hid (fun (h : mayO o = true) (W : World) A c (h1 : OB W w.heap.size (.slice A L.length c) L) (h2 : Below w.heap.size w W) => lay_yes h hL h1 h2)
  have HNO := hid (fun (h : mayO o = false) (W : World) (h2 : Below w.heap.size w W) => lay_no h h2)
  obtain ⟨m, hm0⟩ : ∃ m, mayO o = m := ⟨_, rfl⟩
  rw [hm0] at HMY HLAY HNO HSL4
  clear hm0
  have HPC := hid (fun (W : World) (g : Nat) (h : W.heap[g]? = some (.cells o.cells 31 (0, 0))) => opt_cells h)
  have HPM := hid (fun (W : World) (g : Nat) (h : W.heap[g]? = some (.cells o.cells 31 (0, 0))) => opt_mac h ho.mac)
  obtain ⟨k1, k2, k3, k4, k5, k6⟩ : o.mss < 65536 ∧ o.scale < 256 ∧ o.val < 4294967296 ∧ o.echo < 4294967296 ∧ o.key < 256 ∧ o.next < 256 := ⟨ho.mss, ho.scale, ho.val, ho.echo, ho.key, ho.next⟩
  have HRW := hid (fun W (h : Below w.heap.size w W) => ho.row.below h)
  have HOK := hid ho.ok
  have HML := hid ho.mac
  unfold bytesO at hL
  generalize hl1 : b1O o = l1 at hL
  generalize hl2 : b2O o l1 = l2 at hL
  generalize hl3 : b3O o l2 = l3 at hL
  generalize hl4 : b4O o l3 = l4 at hL
  generalize hl5 : b5O o l4 = l5 at hL
  generalize hl6 : b6O o l5 = l6 at hL
  have H1 := hid hl1
  have H2 := hid hl2
  have H3 := hid hl3
  have H4 := hid hl4
  have H5 := hid hl5
  have H6 := hid hl6
  have HSL := hid hsl
  have HLL := hid hL
  have n1 : l1.length ≤ 4 := by rw [← hl1, b1O]; split <;> simp [beB_length]
  have n2 : l2.length ≤ 7 := by rw [← hl2, b2O]; split <;> (try simp) <;> omega
  have n3 : l3.length ≤ 9 := by rw [← hl3, b3O]; split <;> (try simp) <;> omega
  have n4 : l4.length ≤ 19 := by rw [← hl4, b4O]; split <;> (try simp [beB_length]) <;> omega
  have BL_l1 := hid (show l1.length ≤ 1000000 by omega)
  have BL_l2 := hid (show l2.length ≤ 1000000 by omega)
  have BL_l3 := hid (show l3.length ≤ 1000000 by omega)
  have BL_l4 := hid (show l4.length ≤ 1000000 by omega)
  have n5 : l5.length ≤ 9000 := by rw [← hl5, b5O]; split <;> (try simp [sackB_len]) <;> omega
  have n6 : l6.length ≤ 9100 := by rw [← hl6, b6O]; split <;> (try simp [ho.mac]) <;> omega
  have LL5 := hid (show l5.length ≤ 1000000 by omega)
  have LL6 := hid (show l6.length ≤ 1000000 by omega)
  clear n1 n2 n3 n4 n5 n6
  clear hl1 hl2 hl3 hl4 hl5 hl6 ho hsl hL
  obtain ⟨A0, hA0⟩ : ∃ x, o.A = x := ⟨_, rfl⟩
  rw [hA0] at HPC HRW
  clear hA0
  generalize hco : o.cells = co at HPC HPM HMY HSZ HI ⊢
  clear hco
  obtain ⟨B, hB⟩ : ∃ B, w.heap.size = B := ⟨_, rfl⟩
  rw [hB] at HRW HMY HSZ HLAY HNO ⊢
  have HB := hid hB
  clear hB
  go_enter Try.func29, Try.ntmps29
  go_wp2_with (first
    | ((with_reducible refine at_slot 1 ?_); refine wpList_boxF rfl 31 (.tmp 0) rfl co rfl ?_; intro wz hxz hbz hzz; rw [HB.out] at hxz hbz hzz ⊢)
    | ((with_reducible refine at_slot 8 ?_); refine wpList_load_row rfl 31 (.tmp 1) rfl B rfl _ co _ _ hxz Try.underlying31 rfl HI.out ?_))
  (with_reducible refine Calls.mono (HMY.out _ hbz) ?_)
  rintro e w1 ⟨rfl, hbm⟩
  have hx1 := (hbm.block _ (by omega)).trans hxz
  have hb1 := hbz.trans (hbm.mono (by omega))
  have hz1 : B + 1 ≤ w1.heap.size := by have := hbm.size; omega
  clear hxz hbz hzz hbm
  cases m
  case false =>
    go_wp2_with fail
    go_ret2
    exact HNO.out (by simp) _ hb1
  have hsl4 := HSL4.out (by simp)
  obtain ⟨e0, e1, e2, e3, e4, e5, e6, e7, e8, e9, e10, e11⟩ := HPC.out w1 B hx1
  go_upto_if 12 with fail
  have hsz : B + 1 ≤ w1.heap.size := by omega
  go_cut [4] (fun s3 wx => ∃ (A : Option Addr) (c : Nat), s3 = .slice A l1.length c ∧ OB wx (B + 1) (.slice A l1.length c) l1 ∧ wx.heap[B]? = some (.cells co 31 (0, 0)) ∧ Below B w wx)
  case first =>
    cases hm : o.hasMSS
    · have hn : l1 = [] := by rw [← H1.out, b1O, hm]; rfl
      have HN := hid hn
      clear hn hm
      go_wp2_with fail
      go_meet
      case rel => exact ⟨none, 0, by rw [HN.out]; rfl, by rw [HN.out]; exact OB.nil _ _, hx1, hb1⟩
    · obtain ⟨X2, hX2⟩ : ∃ X, ([2, 4] : List UInt8) = X := ⟨_, rfl⟩
      have hn : X2 ++ beB 2 o.mss = l1 := by rw [← hX2, ← H1.out, b1O, hm]; rfl
      have hxl : X2.length = 2 := by rw [← hX2]; rfl
      have HP := hid fun W v1 v2 (g1 : RB W v1 X2) (g2 : RN W v2 [UInt64.ofNat o.mss]) => put_any v1 v2 X2 2 [UInt64.ofNat o.mss] W g1 g2 (by omega) (by omega) (by rw [hxl]; simp)
      rw [put2_one o.mss (by omega), hn] at HP
      have HX2 := hid hX2
      clear hn hm hz1 hX2 hxl e0 e1 e2 e3 e4 e5 e6 e7 e8 e9 e10 e11
      go_wp2_with fail
      have x1 : IntKind.u64.wrap (o.mss : Int) = (o.mss : Int) := by rw [IntKind.wrap_u64]; omega
      have hS0 : ({ w1 with drawn := w1.drawn + 1 } : World).heap[B]? = some (.cells co 31 (0, 0)) := hx1
      refine wp_region_hand (fun W' => W'.heap[B]? = some (.cells co 31 (0, 0))) (by kernel_rfl) hS0 ?_
      intro hS
      have ho : OB ({ w1 with drawn := w1.drawn + 1 } : World) (B + 1) (.slice none 0 0) [] := OB.nil _ _
      have hb : Below B w ({ w1 with drawn := w1.drawn + 1 } : World) := below_drewN hb1 1
      replace hsz : B + 1 ≤ ({ w1 with drawn := w1.drawn + 1 } : World).heap.size := hsz
      clear hS0 hx1 hb1
      generalize ({ w1 with drawn := w1.drawn + 1 } : World) = u at hS ho hb hsz ⊢
      refine wpAnyH_take (i := 0) (oi := ⟨some 13, _, _, _, _, _⟩) (v := ?_) rfl (by kernel_rfl) (by kernel_rfl) (by kernel_rfl) (fun _ _ _ h => h) (Or.inl ⟨by rfl, ?_⟩) hS ?_
      rotate_left 1
      focus ((intro W' hS'; go_simp) <;> with_reducible rfl)
      try simp only [Act.put, List.setIfInBounds_toArray, List.set_cons_zero, List.set_cons_succ]
      refine wpAnyH_take (i := 3) (oi := ⟨some 16, _, _, _, _, _⟩) (v := ?_) rfl (by kernel_rfl) (by kernel_rfl) (by kernel_rfl) (fun _ _ _ h => h) (Or.inl ⟨by rfl, ?_⟩) hS ?_
      rotate_left 1
      focus ((intro W' hS'; go_simp) <;> with_reducible rfl)
      try simp only [Act.put, List.setIfInBounds_toArray, List.set_cons_zero, List.set_cons_succ]
      refine wpAnyH_take (i := 4) (oi := ⟨some 17, _, _, _, _, _⟩) (v := ?_) rfl (by kernel_rfl) (by kernel_rfl) (by kernel_rfl) (fun _ _ _ h => h) (Or.inl ⟨by rfl, ?_⟩) hS ?_
      rotate_left 1
      focus ((intro W' hS'; have q1 := (HPC.out W' B hS').2.1; go_simp) <;> with_reducible rfl)
      try simp only [Act.put, List.setIfInBounds_toArray, List.set_cons_zero, List.set_cons_succ]
      refine wpAnyH_take (i := 5) (oi := ⟨some 18, _, _, _, _, _⟩) (v := ?_) rfl (by kernel_rfl) (by kernel_rfl) (by kernel_rfl) (fun _ _ _ h => h) (Or.inl ⟨by rfl, ?_⟩) hS ?_
      rotate_left 1
      focus ((intro W' hS'; have q1 := x1; go_simp) <;> with_reducible rfl)
      try simp only [Act.put, List.setIfInBounds_toArray, List.set_cons_zero, List.set_cons_succ]
      refine anyH_two (i := 1) (j := 6) (by kernel_rfl) (op_in ⟨some 14, _, _, _, _, _⟩ rfl (by rfl) ?_) (op_in ⟨some 19, _, _, _, _, _⟩ rfl (by rfl) ?_)
      · refine wp_litF 32 5 2 _ rfl #[(0, .int .u8 2), (1, .int .u8 4)] (by simp [Act.eval, Act.put]) _ (lit8_2 2 4) ?_
        intro u8 h8 hb8 z8
        have hr8 := RB.lit h8 rfl (by simp) rfl (xs := [2, 4])
        replace hS := KeepN.below hb8 B _ _ _ (by decide) hS
        replace ho := OB.below ho hb8
        replace hb := hb.trans (hb8.mono (by have := hb.size; have := HB.out; omega))
        try replace h13 := KeepN.below hb8 _ _ _ _ (by decide) h13
        replace hsz : B + 1 ≤ _ := Nat.le_trans hsz hb8.size
        clear h8 z8 hb8
        refine ⟨hS, ?_⟩
        try simp only [Act.put, List.setIfInBounds_toArray, List.set_cons_zero, List.set_cons_succ]
        refine anyH_two (i := 2) (j := 6) (by kernel_rfl) (op_in ⟨some 15, _, _, _, _, _⟩ rfl (by rfl) ?_) (op_in ⟨some 19, _, _, _, _, _⟩ rfl (by rfl) ?_)
        · refine wp_append8K (.tmp 13) (.tmp 14) (B + 1) [] [2, 4] X2 (HX2.out) rfl rfl rfl rfl ho hr8 (by decide) hsz ?_
          intro A9 c9 u9 ho9 hb9 hk9
          replace hS := hk9 B _ _ _ (by decide) hS
          try replace h13 := hk9 _ _ _ _ (by decide) h13
          replace hb := hb.trans (hb9.mono (by omega))
          replace hsz : B + 1 ≤ _ := Nat.le_trans hsz hb9.size
          clear ho hr8 hb9 hk9
          refine ⟨hS, ?_⟩
          try simp only [Act.put, List.setIfInBounds_toArray, List.set_cons_zero, List.set_cons_succ]
          refine anyH_one (i := 6) (by kernel_rfl) ⟨some 19, _, _, _, _, _⟩ rfl (by rfl) ?_
          refine wp_litF 86 60 1 _ rfl #[(0, .int .u64 (o.mss : Int))] (by simp [Act.eval, Act.put]) _ (lit64_1 _) ?_
          intro u13 h13 hb13 z13
          replace hS := KeepN.below hb13 B _ _ _ (by decide) hS
          try replace ho := OB.below ho hb13
          try replace hr8 := RB.below hr8 hb13
          try replace ho9 := OB.below ho9 hb13
          replace hb := hb.trans (hb13.mono (by have := hb.size; have := HB.out; omega))
          replace hsz : B + 1 ≤ _ := Nat.le_trans hsz hb13.size
          clear z13 hb13
          refine ⟨hS, ?_⟩
          try simp only [Act.put, List.setIfInBounds_toArray, List.set_cons_zero, List.set_cons_succ]
          refine anyH_one (i := 7) (by kernel_rfl) ⟨some 20, _, _, _, _, _⟩ rfl (by rfl) ?_
          go_simp
          with_reducible refine Calls.mono (HP.out _ _ _ ho9.rb (RN.lit1 h13 (by omega))) ?_
          rintro e u14 ⟨A14, c14, rfl, ho14, hb14⟩
          replace hS := KeepN.below hb14 B _ _ _ (by decide) hS
          replace ho14 := OB.lower ho14 hsz
          replace hb := hb.trans (hb14.mono (by have := hb.size; have := HB.out; omega))
          clear hb14 ho9 h13
          refine ⟨hS, ?_⟩
          try simp only [Act.put, List.setIfInBounds_toArray, List.set_cons_zero, List.set_cons_succ]
          refine wpAnyH_take (i := 8) (oi := ⟨some 4, _, _, _, _, _⟩) (v := ?_) rfl (by kernel_rfl) (by kernel_rfl) (by kernel_rfl) (fun _ _ _ h => h) (Or.inl ⟨by rfl, ?_⟩) hS ?_
          rotate_left 1
          focus ((intro W' hS'; go_simp) <;> with_reducible rfl)
          try simp only [Act.put, List.setIfInBounds_toArray, List.set_cons_zero, List.set_cons_succ]
          refine wpAnyH_done (by kernel_rfl) ?_ _
          go_wp2_with fail
          go_meet
          case rel => exact ⟨A14, c14, rfl, ho14, hS, hb⟩
        · refine wp_litF 86 60 1 _ rfl #[(0, .int .u64 (o.mss : Int))] (by simp [Act.eval, Act.put]) _ (lit64_1 _) ?_
          intro u13 h13 hb13 z13
          replace hS := KeepN.below hb13 B _ _ _ (by decide) hS
          try replace ho := OB.below ho hb13
          try replace hr8 := RB.below hr8 hb13
          try replace ho9 := OB.below ho9 hb13
          replace hb := hb.trans (hb13.mono (by have := hb.size; have := HB.out; omega))
          replace hsz : B + 1 ≤ _ := Nat.le_trans hsz hb13.size
          clear z13 hb13
          refine ⟨hS, ?_⟩
          try simp only [Act.put, List.setIfInBounds_toArray, List.set_cons_zero, List.set_cons_succ]
          refine anyH_one (i := 2) (by kernel_rfl) ⟨some 15, _, _, _, _, _⟩ rfl (by rfl) ?_
          refine wp_append8K (.tmp 13) (.tmp 14) (B + 1) [] [2, 4] X2 (HX2.out) rfl rfl rfl rfl ho hr8 (by decide) hsz ?_
          intro A9 c9 u9 ho9 hb9 hk9
          replace hS := hk9 B _ _ _ (by decide) hS
          try replace h13 := hk9 _ _ _ _ (by decide) h13
          replace hb := hb.trans (hb9.mono (by omega))
          replace hsz : B + 1 ≤ _ := Nat.le_trans hsz hb9.size
          clear ho hr8 hb9 hk9
          refine ⟨hS, ?_⟩
          try simp only [Act.put, List.setIfInBounds_toArray, List.set_cons_zero, List.set_cons_succ]
          refine anyH_one (i := 7) (by kernel_rfl) ⟨some 20, _, _, _, _, _⟩ rfl (by rfl) ?_
          go_simp
          with_reducible refine Calls.mono (HP.out _ _ _ ho9.rb (RN.lit1 h13 (by omega))) ?_
          rintro e u14 ⟨A14, c14, rfl, ho14, hb14⟩
          replace hS := KeepN.below hb14 B _ _ _ (by decide) hS
          replace ho14 := OB.lower ho14 hsz
          replace hb := hb.trans (hb14.mono (by have := hb.size; have := HB.out; omega))
          clear hb14 ho9 h13
          refine ⟨hS, ?_⟩
          try simp only [Act.put, List.setIfInBounds_toArray, List.set_cons_zero, List.set_cons_succ]
          refine wpAnyH_take (i := 8) (oi := ⟨some 4, _, _, _, _, _⟩) (v := ?_) rfl (by kernel_rfl) (by kernel_rfl) (by kernel_rfl) (fun _ _ _ h => h) (Or.inl ⟨by rfl, ?_⟩) hS ?_
          rotate_left 1
          focus ((intro W' hS'; go_simp) <;> with_reducible rfl)
          try simp only [Act.put, List.setIfInBounds_toArray, List.set_cons_zero, List.set_cons_succ]
          refine wpAnyH_done (by kernel_rfl) ?_ _
          go_wp2_with fail
          go_meet
          case rel => exact ⟨A14, c14, rfl, ho14, hS, hb⟩
      · refine wp_litF 86 60 1 _ rfl #[(0, .int .u64 (o.mss : Int))] (by simp [Act.eval, Act.put]) _ (lit64_1 _) ?_
        intro u13 h13 hb13 z13
        replace hS := KeepN.below hb13 B _ _ _ (by decide) hS
        try replace ho := OB.below ho hb13
        try replace hr8 := RB.below hr8 hb13
        try replace ho9 := OB.below ho9 hb13
        replace hb := hb.trans (hb13.mono (by have := hb.size; have := HB.out; omega))
        replace hsz : B + 1 ≤ _ := Nat.le_trans hsz hb13.size
        clear z13 hb13
        refine ⟨hS, ?_⟩
        try simp only [Act.put, List.setIfInBounds_toArray, List.set_cons_zero, List.set_cons_succ]
        refine anyH_one (i := 1) (by kernel_rfl) ⟨some 14, _, _, _, _, _⟩ rfl (by rfl) ?_
        refine wp_litF 32 5 2 _ rfl #[(0, .int .u8 2), (1, .int .u8 4)] (by simp [Act.eval, Act.put]) _ (lit8_2 2 4) ?_
        intro u8 h8 hb8 z8
        have hr8 := RB.lit h8 rfl (by simp) rfl (xs := [2, 4])
        replace hS := KeepN.below hb8 B _ _ _ (by decide) hS
        replace ho := OB.below ho hb8
        replace hb := hb.trans (hb8.mono (by have := hb.size; have := HB.out; omega))
        try replace h13 := KeepN.below hb8 _ _ _ _ (by decide) h13
        replace hsz : B + 1 ≤ _ := Nat.le_trans hsz hb8.size
        clear h8 z8 hb8
        refine ⟨hS, ?_⟩
        try simp only [Act.put, List.setIfInBounds_toArray, List.set_cons_zero, List.set_cons_succ]
        refine anyH_one (i := 2) (by kernel_rfl) ⟨some 15, _, _, _, _, _⟩ rfl (by rfl) ?_
        refine wp_append8K (.tmp 13) (.tmp 14) (B + 1) [] [2, 4] X2 (HX2.out) rfl rfl rfl rfl ho hr8 (by decide) hsz ?_
        intro A9 c9 u9 ho9 hb9 hk9
        replace hS := hk9 B _ _ _ (by decide) hS
        try replace h13 := hk9 _ _ _ _ (by decide) h13
        replace hb := hb.trans (hb9.mono (by omega))
        replace hsz : B + 1 ≤ _ := Nat.le_trans hsz hb9.size
        clear ho hr8 hb9 hk9
        refine ⟨hS, ?_⟩
        try simp only [Act.put, List.setIfInBounds_toArray, List.set_cons_zero, List.set_cons_succ]
        refine anyH_one (i := 7) (by kernel_rfl) ⟨some 20, _, _, _, _, _⟩ rfl (by rfl) ?_
        go_simp
        with_reducible refine Calls.mono (HP.out _ _ _ ho9.rb (RN.lit1 h13 (by omega))) ?_
        rintro e u14 ⟨A14, c14, rfl, ho14, hb14⟩
        replace hS := KeepN.below hb14 B _ _ _ (by decide) hS
        replace ho14 := OB.lower ho14 hsz
        replace hb := hb.trans (hb14.mono (by have := hb.size; have := HB.out; omega))
        clear hb14 ho9 h13
        refine ⟨hS, ?_⟩
        try simp only [Act.put, List.setIfInBounds_toArray, List.set_cons_zero, List.set_cons_succ]
        refine wpAnyH_take (i := 8) (oi := ⟨some 4, _, _, _, _, _⟩) (v := ?_) rfl (by kernel_rfl) (by kernel_rfl) (by kernel_rfl) (fun _ _ _ h => h) (Or.inl ⟨by rfl, ?_⟩) hS ?_
        rotate_left 1
        focus ((intro W' hS'; go_simp) <;> with_reducible rfl)
        try simp only [Act.put, List.setIfInBounds_toArray, List.set_cons_zero, List.set_cons_succ]
        refine wpAnyH_done (by kernel_rfl) ?_ _
        go_wp2_with fail
        go_meet
        case rel => exact ⟨A14, c14, rfl, ho14, hS, hb⟩
  case rest =>
    obtain ⟨A, c, rfl, ho, hS, hb⟩ := hcut
    clear e0 e1 e2 e3 e4 e5 e6 e7 e8 e9 e10 e11
    obtain ⟨e0, e1, e2, e3, e4, e5, e6, e7, e8, e9, e10, e11⟩ := HPC.out _ B hS
    have hsz : B + 1 ≤ wc.heap.size := (Array.getElem?_eq_some_iff.1 hS).1
    obtain ⟨D, hD⟩ : ∃ D, UInt8.ofNat o.scale = D := ⟨_, rfl⟩
    have hDn : (o.scale : Int) = (D.toNat : Int) := by rw [← hD, UInt8.toNat_ofNat']; omega
    rw [hDn] at e3
    have H2' := hid (show (if o.hasScale then l1 ++ [3, 3, D] else l1) = l2 by rw [← H2.out, b2O, hD])
    clear hDn hD
    go_upto_if 22 with fail
    go_cut [4] (fun s3 wx => ∃ (A : Option Addr) (c : Nat), s3 = .slice A l2.length c ∧ OB wx (B + 1) (.slice A l2.length c) l2 ∧ wx.heap[B]? = some (.cells co 31 (0, 0)) ∧ Below B w wx)
    case first =>
      cases hm : o.hasScale
      · have hn : l2 = l1 := by rw [← H2'.out, hm]; rfl
        have HN := hid hn
        clear hn hm
        go_wp2_with fail
        go_meet
        case rel => exact ⟨A, c, by rw [HN.out], by rw [HN.out]; exact ho, hS, hb⟩
      · have hn : l1 ++ [3, 3, D] = l2 := by rw [← H2'.out, hm]; rfl
        have HN := hid hn
        clear hn hm
        have HO2 := hid (OB.below ho (bl1 wc (.cells #[.int .u8 3, .int .u8 3, .int .u8 (D.toNat : Int)] 5)))
        have HR2 := hid (RB.lit (nw1 wc (.cells #[.int .u8 3, .int .u8 3, .int .u8 (D.toNat : Int)] 5)) rfl (by simp) rfl (xs := [3, 3, D]))
        have HS2 := hid (KeepN.below (bl1 wc (.cells #[.int .u8 3, .int .u8 3, .int .u8 (D.toNat : Int)] 5)) B _ _ _ (by decide) hS)
        have HB2 := hid (hb.trans ((bl1 wc (.cells #[.int .u8 3, .int .u8 3, .int .u8 (D.toNat : Int)] 5)).mono (by have := hb.size; have := HB.out; omega)))
        have HZ2 := hid (show B + 1 ≤ (wc.alloc (.cells #[.int .u8 3, .int .u8 3, .int .u8 (D.toNat : Int)] 5)).heap.size from Nat.le_trans hsz (bl1 wc (.cells #[.int .u8 3, .int .u8 3, .int .u8 (D.toNat : Int)] 5)).size)
        have HLN := hid (show l1.length ≤ 1000000 from BL_l1.out)
        clear ho hS hb hsz
        go_wp2_with ((with_reducible refine at_slot 27 ?_); refine append_u8 (.tmp 23) (.tmp 26) (B + 1) l1 [3, 3, D] l2 HN.out rfl rfl rfl rfl HO2.out HR2.out (by have := HLN.out; simp only [List.length_cons, List.length_nil]; omega) HZ2.out ?_; intro A3 c3 w3 ho3 hb3 hg3 _; have hS3 := (hb3.block B (by omega)).trans HS2.out; have hbb3 := HB2.out.trans (hb3.mono (by omega)); clear hb3 hg3)
        go_meet
        case rel => exact ⟨A3, c3, rfl, ho3, hS3, hbb3⟩
    case rest =>
      obtain ⟨A, c, rfl, ho, hS, hb⟩ := hcut
      clear e0 e1 e2 e3 e4 e5 e6 e7 e8 e9 e10 e11
      obtain ⟨e0, e1, e2, e3, e4, e5, e6, e7, e8, e9, e10, e11⟩ := HPC.out _ B hS
      have hsz : B + 1 ≤ wc.heap.size := (Array.getElem?_eq_some_iff.1 hS).1
      go_upto_if 29 with fail
      go_cut [4] (fun s3 wx => ∃ (A : Option Addr) (c : Nat), s3 = .slice A l3.length c ∧ OB wx (B + 1) (.slice A l3.length c) l3 ∧ wx.heap[B]? = some (.cells co 31 (0, 0)) ∧ Below B w wx)
      case first =>
        cases hm : o.sackOK
        · have hn : l3 = l2 := by rw [← H3.out, b3O, hm]; rfl
          have HN := hid hn
          clear hn hm
          go_wp2_with fail
          go_meet
          case rel => exact ⟨A, c, by rw [HN.out], by rw [HN.out]; exact ho, hS, hb⟩
        · have hn : l2 ++ [4, 2] = l3 := by rw [← H3.out, b3O, hm]; rfl
          have HN := hid hn
          clear hn hm
          have HO2 := hid (OB.below ho (bl1 wc (.cells #[.int .u8 4, .int .u8 2] 5)))
          have HR2 := hid (RB.lit (nw1 wc (.cells #[.int .u8 4, .int .u8 2] 5)) rfl (by simp) rfl (xs := [4, 2]))
          have HS2 := hid (KeepN.below (bl1 wc (.cells #[.int .u8 4, .int .u8 2] 5)) B _ _ _ (by decide) hS)
          have HB2 := hid (hb.trans ((bl1 wc (.cells #[.int .u8 4, .int .u8 2] 5)).mono (by have := hb.size; have := HB.out; omega)))
          have HZ2 := hid (show B + 1 ≤ (wc.alloc (.cells #[.int .u8 4, .int .u8 2] 5)).heap.size from Nat.le_trans hsz (bl1 wc (.cells #[.int .u8 4, .int .u8 2] 5)).size)
          have HLN := hid (show l2.length ≤ 1000000 from BL_l2.out)
          clear ho hS hb hsz
          go_wp2_with ((with_reducible refine at_slot 32 ?_); refine append_u8 (.tmp 30) (.tmp 31) (B + 1) l2 [4, 2] l3 HN.out rfl rfl rfl rfl HO2.out HR2.out (by have := HLN.out; simp only [List.length_cons, List.length_nil]; omega) HZ2.out ?_; intro A3 c3 w3 ho3 hb3 hg3 _; have hS3 := (hb3.block B (by omega)).trans HS2.out; have hbb3 := HB2.out.trans (hb3.mono (by omega)); clear hb3 hg3)
          go_meet
          case rel => exact ⟨A3, c3, rfl, ho3, hS3, hbb3⟩
      case rest =>
        obtain ⟨A, c, rfl, ho, hS, hb⟩ := hcut
        clear e0 e1 e2 e3 e4 e5 e6 e7 e8 e9 e10 e11
        obtain ⟨e0, e1, e2, e3, e4, e5, e6, e7, e8, e9, e10, e11⟩ := HPC.out _ B hS
        have hsz : B + 1 ≤ wc.heap.size := (Array.getElem?_eq_some_iff.1 hS).1
        go_upto_if 34 with fail
        go_cut [4] (fun s3 wx => ∃ (A : Option Addr) (c : Nat), s3 = .slice A l4.length c ∧ OB wx (B + 1) (.slice A l4.length c) l4 ∧ wx.heap[B]? = some (.cells co 31 (0, 0)) ∧ Below B w wx)
        case first =>
          cases hm : o.hasTime
          · have hn : l4 = l3 := by rw [← H4.out, b4O, hm]; rfl
            have HN := hid hn
            clear hn hm
            go_wp2_with fail
            go_meet
            case rel => exact ⟨A, c, by rw [HN.out], by rw [HN.out]; exact ho, hS, hb⟩
          · obtain ⟨X4, hX4⟩ : ∃ X, l3 ++ ([8, 10] : List UInt8) = X := ⟨_, rfl⟩
            have hn : X4 ++ (beB 4 o.val ++ beB 4 o.echo) = l4 := by rw [← hX4, ← H4.out, b4O, hm]; rfl
            have hxl : X4.length ≤ 1000002 := by rw [← hX4, List.length_append]; have := BL_l3.out; simp only [List.length_cons, List.length_nil]; omega
            have HP := hid fun W v1 v2 (g1 : RB W v1 X4) (g2 : RN W v2 [UInt64.ofNat o.val, UInt64.ofNat o.echo]) => put_any v1 v2 X4 4 [UInt64.ofNat o.val, UInt64.ofNat o.echo] W g1 g2 (by omega) (by omega) (by simp only [List.length_cons, List.length_nil]; omega)
            rw [put4_two o.val o.echo (by omega) (by omega), hn] at HP
            have HX4 := hid hX4
            clear hn hm hX4 hxl e0 e1 e2 e3 e4 e5 e6 e7 e8 e9 e10 e11
            go_wp2_with fail
            have x1 : IntKind.u64.wrap (o.val : Int) = (o.val : Int) := by rw [IntKind.wrap_u64]; omega
            have x2 : IntKind.u64.wrap (o.echo : Int) = (o.echo : Int) := by rw [IntKind.wrap_u64]; omega
            have hS0 : ({ wc with drawn := wc.drawn + 1 } : World).heap[B]? = some (.cells co 31 (0, 0)) := hS
            refine wp_region_hand (fun W' => W'.heap[B]? = some (.cells co 31 (0, 0))) (by kernel_rfl) hS0 ?_
            clear hS
            intro hS
            replace ho : OB ({ wc with drawn := wc.drawn + 1 } : World) (B + 1) (.slice A l3.length c) l3 := OB.drewN ho 1
            replace hb : Below B w ({ wc with drawn := wc.drawn + 1 } : World) := below_drewN hb 1
            replace hsz : B + 1 ≤ ({ wc with drawn := wc.drawn + 1 } : World).heap.size := hsz
            clear hS0
            generalize ({ wc with drawn := wc.drawn + 1 } : World) = u at hS ho hb hsz ⊢
            refine wpAnyH_take (i := 0) (oi := ⟨some 35, _, _, _, _, _⟩) (v := ?_) rfl (by kernel_rfl) (by kernel_rfl) (by kernel_rfl) (fun _ _ _ h => h) (Or.inl ⟨by rfl, ?_⟩) hS ?_
            rotate_left 1
            focus ((intro W' hS'; go_simp) <;> with_reducible rfl)
            try simp only [Act.put, List.setIfInBounds_toArray, List.set_cons_zero, List.set_cons_succ]
            refine wpAnyH_take (i := 3) (oi := ⟨some 38, _, _, _, _, _⟩) (v := ?_) rfl (by kernel_rfl) (by kernel_rfl) (by kernel_rfl) (fun _ _ _ h => h) (Or.inl ⟨by rfl, ?_⟩) hS ?_
            rotate_left 1
            focus ((intro W' hS'; go_simp) <;> with_reducible rfl)
            try simp only [Act.put, List.setIfInBounds_toArray, List.set_cons_zero, List.set_cons_succ]
            refine wpAnyH_take (i := 4) (oi := ⟨some 39, _, _, _, _, _⟩) (v := ?_) rfl (by kernel_rfl) (by kernel_rfl) (by kernel_rfl) (fun _ _ _ h => h) (Or.inl ⟨by rfl, ?_⟩) hS ?_
            rotate_left 1
            focus ((intro W' hS'; have q1 := (HPC.out W' B hS').2.2.2.2.2.2.2.1; go_simp) <;> with_reducible rfl)
            try simp only [Act.put, List.setIfInBounds_toArray, List.set_cons_zero, List.set_cons_succ]
            refine wpAnyH_take (i := 5) (oi := ⟨some 40, _, _, _, _, _⟩) (v := ?_) rfl (by kernel_rfl) (by kernel_rfl) (by kernel_rfl) (fun _ _ _ h => h) (Or.inl ⟨by rfl, ?_⟩) hS ?_
            rotate_left 1
            focus ((intro W' hS'; have q1 := x1; go_simp) <;> with_reducible rfl)
            try simp only [Act.put, List.setIfInBounds_toArray, List.set_cons_zero, List.set_cons_succ]
            refine wpAnyH_take (i := 6) (oi := ⟨some 41, _, _, _, _, _⟩) (v := ?_) rfl (by kernel_rfl) (by kernel_rfl) (by kernel_rfl) (fun _ _ _ h => h) (Or.inl ⟨by rfl, ?_⟩) hS ?_
            rotate_left 1
            focus ((intro W' hS'; go_simp) <;> with_reducible rfl)
            try simp only [Act.put, List.setIfInBounds_toArray, List.set_cons_zero, List.set_cons_succ]
            refine wpAnyH_take (i := 7) (oi := ⟨some 42, _, _, _, _, _⟩) (v := ?_) rfl (by kernel_rfl) (by kernel_rfl) (by kernel_rfl) (fun _ _ _ h => h) (Or.inl ⟨by rfl, ?_⟩) hS ?_
            rotate_left 1
            focus ((intro W' hS'; have q1 := (HPC.out W' B hS').2.2.2.2.2.2.2.2.1; go_simp) <;> with_reducible rfl)
            try simp only [Act.put, List.setIfInBounds_toArray, List.set_cons_zero, List.set_cons_succ]
            refine wpAnyH_take (i := 8) (oi := ⟨some 43, _, _, _, _, _⟩) (v := ?_) rfl (by kernel_rfl) (by kernel_rfl) (by kernel_rfl) (fun _ _ _ h => h) (Or.inl ⟨by rfl, ?_⟩) hS ?_
            rotate_left 1
            focus ((intro W' hS'; have q1 := x2; go_simp) <;> with_reducible rfl)
            try simp only [Act.put, List.setIfInBounds_toArray, List.set_cons_zero, List.set_cons_succ]
            refine anyH_two (i := 1) (j := 9) (by kernel_rfl) (op_in ⟨some 36, _, _, _, _, _⟩ rfl (by rfl) ?_) (op_in ⟨some 44, _, _, _, _, _⟩ rfl (by rfl) ?_)
            · refine wp_litF 32 5 2 _ rfl #[(0, .int .u8 8), (1, .int .u8 10)] (by simp [Act.eval, Act.put]) _ (lit8_2 8 10) ?_
              intro u8 h8 hb8 z8
              have hr8 := RB.lit h8 rfl (by simp) rfl (xs := [8, 10])
              replace hS := KeepN.below hb8 B _ _ _ (by decide) hS
              replace ho := OB.below ho hb8
              replace hb := hb.trans (hb8.mono (by have := hb.size; have := HB.out; omega))
              try replace h13 := KeepN.below hb8 _ _ _ _ (by decide) h13
              replace hsz : B + 1 ≤ _ := Nat.le_trans hsz hb8.size
              clear h8 z8 hb8
              refine ⟨hS, ?_⟩
              try simp only [Act.put, List.setIfInBounds_toArray, List.set_cons_zero, List.set_cons_succ]
              refine anyH_two (i := 2) (j := 9) (by kernel_rfl) (op_in ⟨some 37, _, _, _, _, _⟩ rfl (by rfl) ?_) (op_in ⟨some 44, _, _, _, _, _⟩ rfl (by rfl) ?_)
              · refine wp_append8K (.tmp 35) (.tmp 36) (B + 1) l3 [8, 10] X4 (HX4.out) rfl rfl rfl rfl ho hr8 (by have := BL_l3.out; simp only [List.length_cons, List.length_nil]; omega) hsz ?_
                intro A9 c9 u9 ho9 hb9 hk9
                replace hS := hk9 B _ _ _ (by decide) hS
                try replace h13 := hk9 _ _ _ _ (by decide) h13
                replace hb := hb.trans (hb9.mono (by omega))
                replace hsz : B + 1 ≤ _ := Nat.le_trans hsz hb9.size
                clear ho hr8 hb9 hk9
                refine ⟨hS, ?_⟩
                try simp only [Act.put, List.setIfInBounds_toArray, List.set_cons_zero, List.set_cons_succ]
                refine anyH_one (i := 9) (by kernel_rfl) ⟨some 44, _, _, _, _, _⟩ rfl (by rfl) ?_
                refine wp_litF 86 60 2 _ rfl #[(0, .int .u64 (o.val : Int)), (1, .int .u64 (o.echo : Int))] (by simp [Act.eval, Act.put]) _ (lit64_2 _ _) ?_
                intro u13 h13 hb13 z13
                replace hS := KeepN.below hb13 B _ _ _ (by decide) hS
                try replace ho := OB.below ho hb13
                try replace hr8 := RB.below hr8 hb13
                try replace ho9 := OB.below ho9 hb13
                replace hb := hb.trans (hb13.mono (by have := hb.size; have := HB.out; omega))
                replace hsz : B + 1 ≤ _ := Nat.le_trans hsz hb13.size
                clear z13 hb13
                refine ⟨hS, ?_⟩
                try simp only [Act.put, List.setIfInBounds_toArray, List.set_cons_zero, List.set_cons_succ]
                refine anyH_one (i := 10) (by kernel_rfl) ⟨some 45, _, _, _, _, _⟩ rfl (by rfl) ?_
                go_simp
                with_reducible refine Calls.mono (HP.out _ _ _ ho9.rb (RN.lit2 h13 (by omega) (by omega))) ?_
                rintro e u14 ⟨A14, c14, rfl, ho14, hb14⟩
                replace hS := KeepN.below hb14 B _ _ _ (by decide) hS
                replace ho14 := OB.lower ho14 hsz
                replace hb := hb.trans (hb14.mono (by have := hb.size; have := HB.out; omega))
                clear hb14 ho9 h13
                refine ⟨hS, ?_⟩
                try simp only [Act.put, List.setIfInBounds_toArray, List.set_cons_zero, List.set_cons_succ]
                refine wpAnyH_take (i := 11) (oi := ⟨some 4, _, _, _, _, _⟩) (v := ?_) rfl (by kernel_rfl) (by kernel_rfl) (by kernel_rfl) (fun _ _ _ h => h) (Or.inl ⟨by rfl, ?_⟩) hS ?_
                rotate_left 1
                focus ((intro W' hS'; go_simp) <;> with_reducible rfl)
                try simp only [Act.put, List.setIfInBounds_toArray, List.set_cons_zero, List.set_cons_succ]
                refine wpAnyH_done (by kernel_rfl) ?_ _
                go_wp2_with fail
                go_meet
                case rel => exact ⟨A14, c14, rfl, ho14, hS, hb⟩
              · refine wp_litF 86 60 2 _ rfl #[(0, .int .u64 (o.val : Int)), (1, .int .u64 (o.echo : Int))] (by simp [Act.eval, Act.put]) _ (lit64_2 _ _) ?_
                intro u13 h13 hb13 z13
                replace hS := KeepN.below hb13 B _ _ _ (by decide) hS
                try replace ho := OB.below ho hb13
                try replace hr8 := RB.below hr8 hb13
                try replace ho9 := OB.below ho9 hb13
                replace hb := hb.trans (hb13.mono (by have := hb.size; have := HB.out; omega))
                replace hsz : B + 1 ≤ _ := Nat.le_trans hsz hb13.size
                clear z13 hb13
                refine ⟨hS, ?_⟩
                try simp only [Act.put, List.setIfInBounds_toArray, List.set_cons_zero, List.set_cons_succ]
                refine anyH_one (i := 2) (by kernel_rfl) ⟨some 37, _, _, _, _, _⟩ rfl (by rfl) ?_
                refine wp_append8K (.tmp 35) (.tmp 36) (B + 1) l3 [8, 10] X4 (HX4.out) rfl rfl rfl rfl ho hr8 (by have := BL_l3.out; simp only [List.length_cons, List.length_nil]; omega) hsz ?_
                intro A9 c9 u9 ho9 hb9 hk9
                replace hS := hk9 B _ _ _ (by decide) hS
                try replace h13 := hk9 _ _ _ _ (by decide) h13
                replace hb := hb.trans (hb9.mono (by omega))
                replace hsz : B + 1 ≤ _ := Nat.le_trans hsz hb9.size
                clear ho hr8 hb9 hk9
                refine ⟨hS, ?_⟩
                try simp only [Act.put, List.setIfInBounds_toArray, List.set_cons_zero, List.set_cons_succ]
                refine anyH_one (i := 10) (by kernel_rfl) ⟨some 45, _, _, _, _, _⟩ rfl (by rfl) ?_
                go_simp
                with_reducible refine Calls.mono (HP.out _ _ _ ho9.rb (RN.lit2 h13 (by omega) (by omega))) ?_
                rintro e u14 ⟨A14, c14, rfl, ho14, hb14⟩
                replace hS := KeepN.below hb14 B _ _ _ (by decide) hS
                replace ho14 := OB.lower ho14 hsz
                replace hb := hb.trans (hb14.mono (by have := hb.size; have := HB.out; omega))
                clear hb14 ho9 h13
                refine ⟨hS, ?_⟩
                try simp only [Act.put, List.setIfInBounds_toArray, List.set_cons_zero, List.set_cons_succ]
                refine wpAnyH_take (i := 11) (oi := ⟨some 4, _, _, _, _, _⟩) (v := ?_) rfl (by kernel_rfl) (by kernel_rfl) (by kernel_rfl) (fun _ _ _ h => h) (Or.inl ⟨by rfl, ?_⟩) hS ?_
                rotate_left 1
                focus ((intro W' hS'; go_simp) <;> with_reducible rfl)
                try simp only [Act.put, List.setIfInBounds_toArray, List.set_cons_zero, List.set_cons_succ]
                refine wpAnyH_done (by kernel_rfl) ?_ _
                go_wp2_with fail
                go_meet
                case rel => exact ⟨A14, c14, rfl, ho14, hS, hb⟩
            · refine wp_litF 86 60 2 _ rfl #[(0, .int .u64 (o.val : Int)), (1, .int .u64 (o.echo : Int))] (by simp [Act.eval, Act.put]) _ (lit64_2 _ _) ?_
              intro u13 h13 hb13 z13
              replace hS := KeepN.below hb13 B _ _ _ (by decide) hS
              try replace ho := OB.below ho hb13
              try replace hr8 := RB.below hr8 hb13
              try replace ho9 := OB.below ho9 hb13
              replace hb := hb.trans (hb13.mono (by have := hb.size; have := HB.out; omega))
              replace hsz : B + 1 ≤ _ := Nat.le_trans hsz hb13.size
              clear z13 hb13
              refine ⟨hS, ?_⟩
              try simp only [Act.put, List.setIfInBounds_toArray, List.set_cons_zero, List.set_cons_succ]
              refine anyH_one (i := 1) (by kernel_rfl) ⟨some 36, _, _, _, _, _⟩ rfl (by rfl) ?_
              refine wp_litF 32 5 2 _ rfl #[(0, .int .u8 8), (1, .int .u8 10)] (by simp [Act.eval, Act.put]) _ (lit8_2 8 10) ?_
              intro u8 h8 hb8 z8
              have hr8 := RB.lit h8 rfl (by simp) rfl (xs := [8, 10])
              replace hS := KeepN.below hb8 B _ _ _ (by decide) hS
              replace ho := OB.below ho hb8
              replace hb := hb.trans (hb8.mono (by have := hb.size; have := HB.out; omega))
              try replace h13 := KeepN.below hb8 _ _ _ _ (by decide) h13
              replace hsz : B + 1 ≤ _ := Nat.le_trans hsz hb8.size
              clear h8 z8 hb8
              refine ⟨hS, ?_⟩
              try simp only [Act.put, List.setIfInBounds_toArray, List.set_cons_zero, List.set_cons_succ]
              refine anyH_one (i := 2) (by kernel_rfl) ⟨some 37, _, _, _, _, _⟩ rfl (by rfl) ?_
              refine wp_append8K (.tmp 35) (.tmp 36) (B + 1) l3 [8, 10] X4 (HX4.out) rfl rfl rfl rfl ho hr8 (by have := BL_l3.out; simp only [List.length_cons, List.length_nil]; omega) hsz ?_
              intro A9 c9 u9 ho9 hb9 hk9
              replace hS := hk9 B _ _ _ (by decide) hS
              try replace h13 := hk9 _ _ _ _ (by decide) h13
              replace hb := hb.trans (hb9.mono (by omega))
              replace hsz : B + 1 ≤ _ := Nat.le_trans hsz hb9.size
              clear ho hr8 hb9 hk9
              refine ⟨hS, ?_⟩
              try simp only [Act.put, List.setIfInBounds_toArray, List.set_cons_zero, List.set_cons_succ]
              refine anyH_one (i := 10) (by kernel_rfl) ⟨some 45, _, _, _, _, _⟩ rfl (by rfl) ?_
              go_simp
              with_reducible refine Calls.mono (HP.out _ _ _ ho9.rb (RN.lit2 h13 (by omega) (by omega))) ?_
              rintro e u14 ⟨A14, c14, rfl, ho14, hb14⟩
              replace hS := KeepN.below hb14 B _ _ _ (by decide) hS
              replace ho14 := OB.lower ho14 hsz
              replace hb := hb.trans (hb14.mono (by have := hb.size; have := HB.out; omega))
              clear hb14 ho9 h13
              refine ⟨hS, ?_⟩
              try simp only [Act.put, List.setIfInBounds_toArray, List.set_cons_zero, List.set_cons_succ]
              refine wpAnyH_take (i := 11) (oi := ⟨some 4, _, _, _, _, _⟩) (v := ?_) rfl (by kernel_rfl) (by kernel_rfl) (by kernel_rfl) (fun _ _ _ h => h) (Or.inl ⟨by rfl, ?_⟩) hS ?_
              rotate_left 1
              focus ((intro W' hS'; go_simp) <;> with_reducible rfl)
              try simp only [Act.put, List.setIfInBounds_toArray, List.set_cons_zero, List.set_cons_succ]
              refine wpAnyH_done (by kernel_rfl) ?_ _
              go_wp2_with fail
              go_meet
              case rel => exact ⟨A14, c14, rfl, ho14, hS, hb⟩
        case rest =>
          obtain ⟨A, c, rfl, ho, hS, hb⟩ := hcut
          clear e0 e1 e2 e3 e4 e5 e6 e7 e8 e9 e10 e11
          obtain ⟨e0, e1, e2, e3, e4, e5, e6, e7, e8, e9, e10, e11⟩ := HPC.out _ B hS
          have hsz : B + 1 ≤ wc.heap.size := (Array.getElem?_eq_some_iff.1 hS).1
          obtain ⟨X5, hX5⟩ : ∃ X, (if decide (0 < o.sacks.length) then l4 ++ [5, UInt8.ofNat (2 + 8 * o.sacks.length)] else l4) = X := ⟨_, rfl⟩
          have HY5 := hid (show X5 ++ sackB o.sacks = l5 by rw [← hX5, ← H5.out, b5O]; cases hd : decide (0 < o.sacks.length) with | true => rfl | false => (have h0 : o.sacks = [] := List.length_eq_zero_iff.1 (by have := of_decide_eq_false hd; omega)); rw [h0]; simp [sackB])
          have LX := hid (show X5.length ≤ 1000002 by rw [← hX5]; have := BL_l4.out; split <;> simp <;> omega)
          obtain ⟨D, hD⟩ : ∃ D, UInt8.ofNat (2 + 8 * o.sacks.length) = D := ⟨_, rfl⟩
          rw [hD] at hX5
          have w5 : 2 + 8 * (o.sacks.length : Int) = (D.toNat : Int) := by rw [← hD, UInt8.toNat_ofNat']; omega
          have HX5 := hid hX5
          have W5 := hid w5
          clear hX5 hD w5
          have hcn : decide ((0 : Int) < (o.sacks.length : Int)) = decide (0 < o.sacks.length) := by rw [decide_eq_decide]; omega
          go_upto_if 50 with fail
          go_cut [4] (fun s3 wx => ∃ (A : Option Addr) (c : Nat), s3 = .slice A X5.length c ∧ OB wx (B + 1) (.slice A X5.length c) X5 ∧ wx.heap[B]? = some (.cells co 31 (0, 0)) ∧ Below B w wx)
          case first =>
            cases hm : decide (0 < o.sacks.length)
            · have hn : l4 = X5 := by rw [← HX5.out, hm]; rfl
              have HN := hid hn
              clear hn hm
              go_wp2_with fail
              go_meet
              case rel => exact ⟨A, c, by rw [HN.out], by rw [← HN.out]; exact ho, hS, hb⟩
            · have hn : l4 ++ [5, D] = X5 := by rw [← HX5.out, hm]; rfl
              have HN := hid hn
              clear hn hm
              have w5 := W5.out
              have hsl := HSL.out
              have HO2 := hid (OB.below ho (bl1 wc (.cells #[.int .u8 5, .int .u8 (D.toNat : Int)] 5)))
              have HR2 := hid (RB.lit (nw1 wc (.cells #[.int .u8 5, .int .u8 (D.toNat : Int)] 5)) rfl (by simp) rfl (xs := [5, D]))
              have HS2 := hid (KeepN.below (bl1 wc (.cells #[.int .u8 5, .int .u8 (D.toNat : Int)] 5)) B _ _ _ (by decide) hS)
              have HB2 := hid (hb.trans ((bl1 wc (.cells #[.int .u8 5, .int .u8 (D.toNat : Int)] 5)).mono (by have := hb.size; have := HB.out; omega)))
              have HZ2 := hid (show B + 1 ≤ (wc.alloc (.cells #[.int .u8 5, .int .u8 (D.toNat : Int)] 5)).heap.size from Nat.le_trans hsz (bl1 wc (.cells #[.int .u8 5, .int .u8 (D.toNat : Int)] 5)).size)
              have HLN := hid (show l4.length ≤ 1000000 from BL_l4.out)
              clear ho hS hb hsz e0 e1 e2 e3 e4 e5 e6 e7 e8 e9 e10 e11
              go_wp2_with ((with_reducible refine at_slot 57 ?_); refine append_u8 (.tmp 51) (.tmp 56) (B + 1) l4 [5, D] X5 HN.out rfl rfl rfl rfl HO2.out HR2.out (by have := HLN.out; simp only [List.length_cons, List.length_nil]; omega) HZ2.out ?_; intro A3 c3 w3 ho3 hb3 hg3 _; have hS3 := (hb3.block B (by omega)).trans HS2.out; have hbb3 := HB2.out.trans (hb3.mono (by omega)); clear hb3 hg3)
              go_meet
              case rel => exact ⟨A3, c3, rfl, ho3, hS3, hbb3⟩
          case rest =>
            obtain ⟨A, c, rfl, ho, hS, hb⟩ := hcut
            clear e0 e1 e2 e3 e4 e5 e6 e7 e8 e9 e10 e11
            obtain ⟨e0, e1, e2, e3, e4, e5, e6, e7, e8, e9, e10, e11⟩ := HPC.out _ B hS
            have hsz : B + 1 ≤ wc.heap.size := (Array.getElem?_eq_some_iff.1 hS).1
            have HO0 := hid ho
            have HS0 := hid hS
            have HB0 := hid hb
            clear ho hS hb hsz e0 e1 e2 e3 e4 e6 e7 e8 e9 e10 e11
            go_wp2_with fail
            go_loopw [4, 61] (fun s3 i wr => ∃ (k : Nat) (A : Option Addr) (c : Nat), k ≤ o.sacks.length ∧ i = .int .i64 k ∧ s3 = .slice A (X5 ++ sackB (o.sacks.take k)).length c ∧ OB wr (B + 1) (.slice A (X5 ++ sackB (o.sacks.take k)).length c) (X5 ++ sackB (o.sacks.take k)) ∧ wr.heap[B]? = some (.cells co 31 (0, 0)) ∧ Below B w wr) (fun _ i _ => o.sacks.length - (intOf i).toNat)
            case atStart => exact ⟨0, A, c, Nat.zero_le _, rfl, by simp [sackB], by simpa [sackB] using HO0.out, HS0.out, HB0.out⟩
            case round =>
              obtain ⟨k, A, c, hk, rfl, rfl, ho, hS, hb⟩ := hrel
              clear HO0 HS0 HB0
              by_cases hlt : k < o.sacks.length
              · have hrow := HRW.out _ hb
                obtain ⟨a, rfl⟩ := hrow.addr (by rw [bcs_length]; omega)
                obtain ⟨c0, c1⟩ := hrow.blk k hlt
                obtain ⟨hx, hy⟩ := HOK.out.get k hlt
                have hft : X5 ++ sackB (o.sacks.take (k + 1)) = (X5 ++ sackB (o.sacks.take k)) ++ (beB 4 (o.sacks.getD k (0, 0)).1 ++ beB 4 (o.sacks.getD k (0, 0)).2) := by rw [sackB_take _ _ hlt, List.append_assoc]
                have hcl : (X5 ++ sackB (o.sacks.take k)).length ≤ 2000000 := by rw [List.length_append, sackB_len, List.length_take]; have := LX.out; omega
                generalize X5 ++ sackB (o.sacks.take k) = cur at ho hft hcl ⊢
                generalize o.sacks.getD k (0, 0) = xy at c0 c1 hx hy hft
                obtain ⟨x, y⟩ := xy
                simp only at c0 c1 hx hy
                have HTK := hid hft
                have hki : (k : Int) < (o.sacks.length : Int) := by omega
                have hsz : B + 1 ≤ wr.heap.size := (Array.getElem?_eq_some_iff.1 hS).1
                have HO := hid ho
                have HS := hid hS
                have HBB := hid hb
                have HSZ2 := hid hsz
                have HXY := hid (And.intro hx hy)
                have HCL := hid hcl
                clear hrow hft ho hS hb hsz hcl
                have x1 : (x : Int) % 18446744073709551616 = (x : Int) := by omega
                have x2 : (y : Int) % 18446744073709551616 = (y : Int) := by omega
                clear hx hy
                go_wp2_with (first
                  | ((with_reducible refine at_slot 7 ?_); refine wpList_allocF rfl 84 rfl _ blk_zero ?_; intro w5 h5 hb5 z5; have HB5 := hid hb5; have H5' := hid h5; have Z5 := hid z5; clear h5 hb5 z5)
                  | ((with_reducible refine at_store 7 64 ?_); refine wpList_rowF rfl 84 (.tmp 7) (.tmp 64) rfl wr.heap.size 84 _ #[.int .u32 (x : Int), .int .u32 (y : Int)] rfl rfl H5'.out info_blkW rfl (by simp [Value.oneCell']) ?_; intro w6 h6 m6 z6; have d0 := cellRow h6 0; have d1 := cellRow h6 1; simp only [List.getElem?_toArray, List.getElem?_cons_zero, List.getElem?_cons_succ] at d0 d1; have HB6 := hid (Mod.below HB5.out m6 (Nat.le_refl _) (by simp)); clear h6 m6 z6 HB5 H5' Z5)
                  | ((with_reducible refine at_slot 72 ?_); refine wpList_litF rfl 86 60 2 _ rfl #[(0, .int .u64 (x : Int)), (1, .int .u64 (y : Int))] (by simp [Act.eval, Act.put]) _ (lit64_2 _ _) ?_; intro w7 h7 hb7 z7; have HB7 := hid (HB6.out.trans (hb7.mono HB6.out.size)); have H7 := hid h7; clear hb7 h7 z7 HB6))
                have HO7 := hid (OB.below HO.out HB7.out)
                have HS7 := hid ((HB7.out.block _ (by have := HSZ2.out; omega)).trans HS.out)
                have HBB7 := hid (HBB.out.trans (HB7.out.mono (by have := HBB.out.size; have := HB.out; omega)))
                have HSZ7 := hid (Nat.le_trans HSZ2.out HB7.out.size)
                clear HB7 d0 d1 HO HS HBB HSZ2
                (with_reducible refine Calls.mono (put_any _ _ cur 4 [UInt64.ofNat x, UInt64.ofNat y] _ HO7.out.rb (RN.lit2 H7.out (by have := HXY.out; omega) (by have := HXY.out; omega)) (by omega) (by omega) (by have := HCL.out; simp only [List.length_cons, List.length_nil]; omega)) ?_)
                rintro e u14 ⟨A14, c14, rfl, ho14, hb14⟩
                rw [put4_two x y (by have := HXY.out; omega) (by have := HXY.out; omega), ← HTK.out] at ho14 ⊢
                have HO14 := hid (OB.lower ho14 HSZ7.out)
                have HS14 := hid ((hb14.block _ (by have := HSZ7.out; omega)).trans HS7.out)
                have HB14 := hid (HBB7.out.trans (hb14.mono (by have := HBB7.out.size; have := HB.out; omega)))
                clear ho14 hb14 HO7 HS7 HBB7 HSZ7 H7
                go_wp2_with fail
                go_roundw
                case rel => exact ⟨k + 1, A14, c14, by omega, by go_num, by rw [List.length_append], HO14.out, HS14.out, HB14.out⟩
                case measure => simp [intOf]; omega
              · obtain rfl : k = o.sacks.length := by omega
                rw [List.take_length, HY5.out] at ho ⊢
                have hsz : B + 1 ≤ wr.heap.size := (Array.getElem?_eq_some_iff.1 hS).1
                obtain ⟨e0, e1, e2, e3, e4, e5, e6, e7, e8, e9, e10, e11⟩ := HPC.out _ B hS
                go_upto_if 76 with fail
                go_cut [4] (fun s3 wx => ∃ (A : Option Addr) (c : Nat), s3 = .slice A l6.length c ∧ OB wx (B + 1) (.slice A l6.length c) l6 ∧ wx.heap[B]? = some (.cells co 31 (0, 0)) ∧ Below B w wx)
                case first =>
                  cases hm : o.hasAO
                  · have hn : l6 = l5 := by rw [← H6.out, b6O, hm]; rfl
                    have HN := hid hn
                    clear hn hm
                    go_wp2_with fail
                    go_meet
                    case rel => exact ⟨A, c, by rw [HN.out], by rw [HN.out]; exact ho, hS, hb⟩
                  · obtain ⟨K, hK⟩ : ∃ D, UInt8.ofNat o.key = D := ⟨_, rfl⟩
                    obtain ⟨N, hN⟩ : ∃ D, UInt8.ofNat o.next = D := ⟨_, rfl⟩
                    obtain ⟨X6, hX6⟩ : ∃ X, l5 ++ ([29, 16, K, N] : List UInt8) = X := ⟨_, rfl⟩
                    have hn : X6 ++ o.mac = l6 := by rw [← hX6, ← H6.out, b6O, hm, ← hK, ← hN]; rfl
                    have hKn : (o.key : Int) = (K.toNat : Int) := by rw [← hK, UInt8.toNat_ofNat']; omega
                    have hNn : (o.next : Int) = (N.toNat : Int) := by rw [← hN, UInt8.toNat_ofNat']; omega
                    rw [hKn] at e10
                    rw [hNn] at e11
                    have HX6 := hid hX6
                    have HZ6 := hid hn
                    have LX6 := hid (show X6.length ≤ 2000000 by rw [← hX6, List.length_append]; have := LL5.out; simp only [List.length_cons, List.length_nil]; omega)
                    clear hn hm hX6 hK hN hKn hNn
                    have HO2 := hid (OB.below ho (bl1 wr (.cells #[.int .u8 29, .int .u8 16, .int .u8 (K.toNat : Int), .int .u8 (N.toNat : Int)] 5)))
                    have HR2 := hid (RB.lit (nw1 wr (.cells #[.int .u8 29, .int .u8 16, .int .u8 (K.toNat : Int), .int .u8 (N.toNat : Int)] 5)) rfl (by simp) rfl (xs := [29, 16, K, N]))
                    have HS2 := hid (KeepN.below (bl1 wr (.cells #[.int .u8 29, .int .u8 16, .int .u8 (K.toNat : Int), .int .u8 (N.toNat : Int)] 5)) B _ _ _ (by decide) hS)
                    have HB2 := hid (hb.trans ((bl1 wr (.cells #[.int .u8 29, .int .u8 16, .int .u8 (K.toNat : Int), .int .u8 (N.toNat : Int)] 5)).mono (by have := hb.size; have := HB.out; omega)))
                    have HZ2 := hid (show B + 1 ≤ (wr.alloc (.cells #[.int .u8 29, .int .u8 16, .int .u8 (K.toNat : Int), .int .u8 (N.toNat : Int)] 5)).heap.size from Nat.le_trans hsz (bl1 wr (.cells #[.int .u8 29, .int .u8 16, .int .u8 (K.toNat : Int), .int .u8 (N.toNat : Int)] 5)).size)
                    clear ho hS hb hsz
                    have HSM := slice_mac12 B
                    go_wp2_with (first
                      | ((with_reducible refine at_slot 83 ?_); refine append_u8 (.tmp 77) (.tmp 82) (B + 1) l5 [29, 16, K, N] X6 HX6.out rfl rfl rfl rfl HO2.out HR2.out (by have := LL5.out; simp only [List.length_cons, List.length_nil]; omega) HZ2.out ?_; intro A3 c3 w3 ho3 hb3 hg3 _; have HS3 := hid ((hb3.block B (by omega)).trans HS2.out); have HB3 := hid (HB2.out.trans (hb3.mono (by omega))); have HO3 := hid ho3; have HZ3 := hid (Nat.le_trans HZ2.out hb3.size); clear hb3 hg3 ho3)
                      | ((with_reducible refine at_slot 87 ?_); refine append_u8 (.tmp 84) (.tmp 86) (B + 1) X6 o.mac l6 HZ6.out rfl rfl rfl rfl HO3.out (HPM.out _ B HS3.out) (by have := LX6.out; have := HML.out; omega) HZ3.out ?_; intro A4 c4 w4 ho4 hb4 hg4 _; have HS4 := hid ((hb4.block B (by omega)).trans HS3.out); have HB4 := hid (HB3.out.trans (hb4.mono (by omega))); have HO4 := hid ho4; clear hb4 hg4 ho4))
                    go_meet
                    case rel => exact ⟨A4, c4, rfl, HO4.out, HS4.out, HB4.out⟩
                case rest =>
                  obtain ⟨A, c, rfl, ho, hS, hb⟩ := hcut
                  clear e0 e1 e2 e3 e4 e5 e6 e7 e8 e9 e10 e11
                  have HO := hid ho
                  have HS := hid hS
                  have HBB := hid hb
                  have hsz : B + 1 ≤ wc.heap.size := (Array.getElem?_eq_some_iff.1 hS).1
                  have HSS := hid hsz
                  clear ho hS hb hsz
                  obtain ⟨p, hp⟩ : ∃ p, (4 - l6.length % 4) % 4 = p := ⟨_, rfl⟩
                  have HPD := hid (show l6 ++ zeros8 p = L by rw [← HLL.out, ← hp]; rfl)
                  have HPL := hid (show sizeO o = l6.length + p by rw [HBL.out, ← HPD.out, len_zeros])
                  have hq : ((sizeO o : Nat) : Int) - (l6.length : Int) = (p : Int) := by rw [HPL.out]; omega
                  have HP4 := hid (show p ≤ 3 by omega)
                  have hwp : IntKind.i64.wrap (p : Int) = (p : Int) := by rw [IntKind.wrap_i64]; omega
                  have hp3 : p ≤ 3 := HP4.out
                  clear hp
                  go_wp2_with ((with_reducible refine at_slot 89 ?_); refine wpList_load_row rfl 31 (.tmp 1) rfl B rfl _ co _ _ HS.out Try.underlying31 rfl HI.out ?_)
                  (with_reducible refine Calls.mono (HSZ.out _ HBB.out) ?_)
                  rintro e w8 ⟨rfl, hb8⟩
                  have HO8 := hid (OB.below HO.out hb8)
                  have HB8 := hid (HBB.out.trans (hb8.mono (by have := HBB.out.size; have := HB.out; omega)))
                  have HS8 := hid (Nat.le_trans HSS.out hb8.size)
                  clear hb8 HO HS HBB HSS
                  go_wp2_with ((with_reducible refine at_slot 94 ?_); refine wpList_append_zeros8 rfl (.tmp 88) (.tmp 93) rfl (B + 1) _ l6 p rfl rfl HO8.out (by have := LL6.out; have := HP4.out; omega) HS8.out ?_; intro A9 c9 w9 ho9 hb9; have HO9 := hid ho9; have HB9 := hid (HB8.out.trans (hb9.mono (by omega))); clear ho9 hb9)
                  go_ret2
                  have ho9 := HO9.out
                  show LayRes B w o (.returned (.tuple #[.slice A9 (l6.length + (zeros8 p).length) c9, .int .i64 0])) w9
                  rw [← List.length_append]
                  rw [HPD.out] at ho9 ⊢
                  exact HLAY.out (by simp) _ A9 c9 (OB.lower ho9 (by omega)) HB9.out
end Go.Proofs.Ythnidgiogjehkaa
