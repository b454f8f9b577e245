/- Literals of bytes and of numbers, and append, at an operation alone (in regions that draw). -/
import Derived.Test.YthnidgiogjehkaaOps
import Derived.Test.YthnidgiogjehkaaOctP
namespace Go.Proofs.Ythnidgiogjehkaa
set_option linter.unusedVariables false
set_option linter.unusedSimpArgs false
open Go.RowKit

theorem wp_append8 {o : Oper} {a : Act} {K : Act → World → Prop} {Q : Exit → Act → World → Prop} (s x : Operand) (base : Nat) (xs ys zs : List UInt8) (hz : xs ++ ys = zs) {v u : Value} {w : World} (hg : o.guard = none)
    (ho : o.op = .call { callee := .builtin .append, args := #[s, x], argTypes := #[32, 32] })
    (hs : a.eval s = v) (hx : a.eval x = u) (hown : OB w base v xs) (hr : RB w u ys) (hlen : xs.length + ys.length ≤ 70368744177664) (hbase : base ≤ w.heap.size)
    (h : ∀ A' c' w', OB w' base (.slice A' zs.length c') zs → Below base w w' → K (a.put o.dst (.slice A' zs.length c')) w') : o.wp Try.prog a w K Q := by
  have hw : Region.wanted o (yielded #[] a.tmps) = true := by simp [Region.wanted, hg]
  have h1 := step_append_u8 (ops := #[]) (E := True) (Q := Q) s x base xs ys zs hz hw ho hs hx hown hr hlen hbase fun A' c' w' h1 h2 _ _ => h A' c' w' h1 h2
  rwa [if_pos hw] at h1
section
variable {P : Program} {ops : Array Oper} {rest : List Oper} {o : Oper} {a : Act} {w : World} {Q : Exit → Act → World → Prop} {K : Act → World → Prop}
theorem exec_lit (t E : TypeId) (n : Nat) (parts : Array (Nat × Operand)) (ho : o.op = .buildSlice t n parts) (vals : Array (Nat × Value)) (hp : parts.map (fun (i, x) => (i, a.eval x)) = vals) (cs : Array Value)
    (hz : ∀ w, (Instr.buildSlice t n vals).run P w = .ok (.slice (some ⟨w.heap.size, 0, none⟩) n n) (w.alloc (.cells cs E))) : (execOp a.eval o).run P w = .ok (.value (.slice (some ⟨w.heap.size, 0, none⟩) n n)) (w.alloc (.cells cs E)) := by
  unfold execOp; simp only [ho, hp, Sem.run_bind, hz, Result.andThen_ok, Sem.run_pure]
/-- A slice literal: its block, and the world behind it. -/
theorem wp_litF (t E : TypeId) (n : Nat) (parts : Array (Nat × Operand)) (ho : o.op = .buildSlice t n parts) (vals : Array (Nat × Value)) (hp : parts.map (fun (i, x) => (i, a.eval x)) = vals) (cs : Array Value)
    (hz : ∀ w, (Instr.buildSlice t n vals).run P w = .ok (.slice (some ⟨w.heap.size, 0, none⟩) n n) (w.alloc (.cells cs E)))
    (h : ∀ w', w'.heap[w.heap.size]? = some (.cells cs E (0, 0)) → Below w.heap.size w w' → w'.heap.size = w.heap.size + 1 → K (a.put o.dst (.slice (some ⟨w.heap.size, 0, none⟩) n n)) w') : o.wp P a w K Q :=
  wp_yield (exec_lit t E n parts ho vals hp cs hz) (h _ (nw1 w _) (bl1 w _) (by simp))
theorem wpList_litF (hw : Region.wanted o (yielded ops a.tmps) = true) (t E : TypeId) (n : Nat) (parts : Array (Nat × Operand)) (ho : o.op = .buildSlice t n parts) (vals : Array (Nat × Value)) (hp : parts.map (fun (i, x) => (i, a.eval x)) = vals) (cs : Array Value)
    (hz : ∀ w, (Instr.buildSlice t n vals).run P w = .ok (.slice (some ⟨w.heap.size, 0, none⟩) n n) (w.alloc (.cells cs E)))
    (h : ∀ w', w'.heap[w.heap.size]? = some (.cells cs E (0, 0)) → Below w.heap.size w w' → w'.heap.size = w.heap.size + 1 → wpList P ops Q rest (a.put o.dst (.slice (some ⟨w.heap.size, 0, none⟩) n n)) w') : wpList P ops Q (o :: rest) a w :=
  wpList_yieldG hw (exec_lit t E n parts ho vals hp cs hz) (h _ (nw1 w _) (bl1 w _) (by simp))
end
theorem lit8_1 (x : Int) : ∀ w, (Instr.buildSlice 32 1 #[(0, .int .u8 x)]).run Try.prog w = .ok (.slice (some ⟨w.heap.size, 0, none⟩) 1 1) (w.alloc (.cells #[.int .u8 x] 5)) := by intro w; kernel_rfl
theorem lit8_2 (x y : Int) : ∀ w, (Instr.buildSlice 32 2 #[(0, .int .u8 x), (1, .int .u8 y)]).run Try.prog w = .ok (.slice (some ⟨w.heap.size, 0, none⟩) 2 2) (w.alloc (.cells #[.int .u8 x, .int .u8 y] 5)) := by intro w; kernel_rfl
theorem lit8_4 (x y z u : Int) : ∀ w, (Instr.buildSlice 32 4 #[(0, .int .u8 x), (1, .int .u8 y), (2, .int .u8 z), (3, .int .u8 u)]).run Try.prog w = .ok (.slice (some ⟨w.heap.size, 0, none⟩) 4 4) (w.alloc (.cells #[.int .u8 x, .int .u8 y, .int .u8 z, .int .u8 u] 5)) := by intro w; kernel_rfl
theorem lit64_1 (x : Int) : ∀ w, (Instr.buildSlice 86 1 #[(0, .int .u64 x)]).run Try.prog w = .ok (.slice (some ⟨w.heap.size, 0, none⟩) 1 1) (w.alloc (.cells #[.int .u64 x] 60)) := by intro w; kernel_rfl
/-- A literal's bytes. -/
theorem RB.lit {w : World} {b n : Nat} {xs : List UInt8} {cs : Array Value} {T : TypeId} (h : w.heap[b]? = some (.cells cs T (0, 0))) (hn : n = xs.length) (hb : n ≤ 9223372036854775807) (hc : cs = (by8 xs).toArray) : RB w (.slice (some ⟨b, 0, none⟩) n n) xs :=
  RB.inBlock h hn (Nat.le_refl _) hb (fun j v hv => by rw [hc, Nat.zero_add]; simpa using hv)
/-- A literal's one number. -/
theorem RN.lit1 {w : World} {b : Nat} {x : Nat} {T : TypeId} (h : w.heap[b]? = some (.cells #[.int .u64 (x : Int)] T (0, 0))) (hx : x < 18446744073709551616) : RN w (.slice (some ⟨b, 0, none⟩) 1 1) [UInt64.ofNat x] := by
  refine ⟨_, 1, rfl, by simp [by64], Nat.le_refl _, by omega, fun k v hv => ⟨_, rfl, ?_⟩⟩
  have : k = 0 := by
    have := (List.getElem?_eq_some_iff.1 hv).1
    simp [by64] at this
    omega
  subst this
  rw [add_zero', cellRow h 0]
  rw [← hv]
  have hn : (UInt64.ofNat x).toNat = x := by rw [UInt64.toNat_ofNat']; omega
  simp [by64, v64]
  omega
theorem put2_one (x : Nat) (h : x < 18446744073709551616) : beL (clampN 2) [UInt64.ofNat x] = beB 2 x := by
  have hn : (UInt64.ofNat x).toNat = x := by rw [UInt64.toNat_ofNat']; omega
  simp only [beL, List.flatMap_cons, List.flatMap_nil, List.append_nil, hn]
  rfl
theorem put4_one (x : Nat) (h : x < 18446744073709551616) : beL (clampN 4) [UInt64.ofNat x] = beB 4 x := by
  have hn : (UInt64.ofNat x).toNat = x := by rw [UInt64.toNat_ofNat']; omega
  simp only [beL, List.flatMap_cons, List.flatMap_nil, List.append_nil, hn]
  rfl
theorem freeze_at {w : World} {g k : Nat} {cs : Array Value} {T : TypeId} (hg : w.heap[g]? = some (.cells cs T (0, 0))) : (w.freeze ⟨g, k, none⟩ 1).heap[g]? = some (.cells cs T (k, k + 1)) ∧ Mod [g] w (w.freeze ⟨g, k, none⟩ 1) ∧ (w.freeze ⟨g, k, none⟩ 1).heap.size = w.heap.size := by
  have hf : w.freeze ⟨g, k, none⟩ 1 = { w with heap := w.heap.modify g fun
      | .cells c elem (lo, hi) => .cells c elem (if lo == hi then (k, k + 1) else (min lo k, max hi (k + 1)))
      | o => o } := by unfold World.freeze; rw [if_neg (by decide)]; rfl
  rw [hf]
  refine ⟨?_, ⟨rfl, rfl, rfl, by simp, fun j _ hm => ?_⟩, by simp⟩
  · simp [Array.getElem?_modify, hg]
  · have : g ≠ j := by rintro rfl; exact hm (by simp)
    simp [Array.getElem?_modify, this]
theorem run_mark {w : World} {g n c : Nat} {cs : Array Value} {T : TypeId} (hg : w.heap[g]? = some (.cells cs T (0, 0))) :
    (convert 32 32 (.slice (some ⟨g, 0, none⟩) n c)).run Try.prog w = .ok (.slice (some ⟨g, 0, none⟩) n c) (w.freeze ⟨g, cs.size, none⟩ 1) := by
  have ht : Try.prog.underlying 32 = some (.slice 5) := Try.underlying32
  have he : Try.prog.underlying 5 = some (.int .u8) := Try.underlying5
  have hsh : w.shape? g = some (T, cs.size) := by unfold World.shape?; rw [hg]
  simp [convert, run_underlying ht, run_underlying he, markStringish, hsh]
/-- []byte of a constant text: the literal's block is marked behind its end. -/
theorem wpList_markF {ops : Array Oper} {rest : List Oper} {o : Oper} {a : Act} {w : World} {Q : Exit → Act → World → Prop} (hgd : o.guard = none) (x : Operand) (ho : o.op = .convert 32 32 x) (g n c : Nat) (hx : a.eval x = .slice (some ⟨g, 0, none⟩) n c) (cs : Array Value) (T : TypeId) (hg : w.heap[g]? = some (.cells cs T (0, 0)))
    (h : ∀ w', w'.heap[g]? = some (.cells cs T (cs.size, cs.size + 1)) → Mod [g] w w' → w'.heap.size = w.heap.size → wpList Try.prog ops Q rest (a.put o.dst (.slice (some ⟨g, 0, none⟩) n c)) w') : wpList Try.prog ops Q (o :: rest) a w := by
  obtain ⟨h1, h2, h3⟩ := freeze_at (k := cs.size) hg
  refine wpList_yield hgd (v := .slice (some ⟨g, 0, none⟩) n c) (w' := w.freeze ⟨g, cs.size, none⟩ 1) ?_ (h _ h1 h2 h3)
  unfold execOp
  simp only [ho, hx, Sem.run_bind, run_mark hg, Result.andThen_ok, Sem.run_pure]
end Go.Proofs.Ythnidgiogjehkaa
