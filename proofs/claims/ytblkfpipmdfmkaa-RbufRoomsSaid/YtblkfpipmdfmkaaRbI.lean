/- A buffer in memory, where one of its blocks turns. -/
import Derived.Test.YtblkfpipmdfmkaaRbE
namespace Go.Proofs.Ytblkfpipmdfmkaa
set_option linter.unusedVariables false
set_option linter.unusedSimpArgs false
open Go.RowKit

theorem Brd.one {w w' : World} {g f k : Nat} {rs : List (Nat × Nat)} {cs : Array Value} {T : TypeId} {fr : Nat × Nat} (h : Brd w g f rs) (hk : w.heap[k]? = some (.cells cs T fr)) (hT : T ≠ 81) (hg : g ≠ k) (hx : ∀ j, j < w.heap.size → j ≠ k → w'.heap[j]? = w.heap[j]?) : Brd w' g f rs := by
  obtain ⟨A, c, h1, _, h3⟩ := h
  have o := own_runs h3 hk hT hx
  obtain ⟨A', c', e, r⟩ := Row.of_own o
  injection e with e1 e2 e3
  subst e1 e3
  exact ⟨A, c, (hx g (Array.getElem?_eq_some_iff.1 h1).1 hg).trans h1, r, o⟩
theorem BufW.lt {w : World} {gb g d : Nat} {m : BufP} (h : BufW w gb g d m) : gb < w.heap.size ∧ g < w.heap.size ∧ d < w.heap.size :=
  ⟨(Array.getElem?_eq_some_iff.1 h.blk).1, h.brd.lt, (Array.getElem?_eq_some_iff.1 h.dat).1⟩
/-- A byte is laid. -/
theorem BufW.byte {w : World} {gb g d : Nat} {m : BufP} (h : BufW w gb g d m) (j : Nat) (c : UInt8) : BufW (w.setCell ⟨d, j, none⟩ (.int .u8 (c.toNat : Int))) gb g d { m with xs := m.xs.set j c } := by
  refine ⟨(rowSetCell_far h.bd.symm _ _).trans h.blk, h.brd.one h.dat (by decide) h.gd (fun k _ hk => rowSetCell_far hk.symm _ _), ?_, h.bg, h.bd, h.gd⟩
  have := rowSetCell h.dat j (.int .u8 (c.toNat : Int))
  rw [List.setIfInBounds_toArray] at this
  rw [by8_set]
  exact this
/-- A field is laid. -/
theorem BufW.field {w : World} {gb g d : Nat} {m m' : BufP} (h : BufW w gb g d m) (k : Nat) (v : Value) (hv : (bufCells m g d).setIfInBounds k v = bufCells m' g d) (hf : m'.f = m.f) (hr : m'.rs = m.rs) (hx : m'.xs = m.xs) : BufW (w.setCell ⟨gb, k, none⟩ v) gb g d m' := by
  refine ⟨?_, ?_, ?_, h.bg, h.bd, h.gd⟩
  · have := rowSetCell h.blk k v
    rw [hv] at this
    exact this
  · rw [hf, hr]
    exact h.brd.one h.blk (by decide) h.bg.symm (fun j _ hj => rowSetCell_far hj.symm _ _)
  · rw [hx]
    exact (rowSetCell_far h.bd _ _).trans h.dat
/-- The board turns. -/
theorem BufW.board {w w' : World} {gb g d : Nat} {m : BufP} (h : BufW w gb g d m) {f' : Nat} {rs' : List (Nat × Nat)} (hb : Brd w' g f' rs') (hm : Mod [g] w w') : BufW w' gb g d { m with f := f', rs := rs' } :=
  ⟨hm.keeps h.blk (by simpa using h.bg), hb, hm.keeps h.dat (by simpa using h.gd.symm), h.bg, h.bd, h.gd⟩
/-- Numbers that are so far ahead. -/
theorem aheadS_at (f x : Nat) (hf : f < M32) (hx : x < M32) : aheadS f ((f + x) % M32) = x := ahead_of f x hf hx
theorem mod_key (f n y : Nat) (h1 : f < 4294967296) (h2 : n + y < 4294967296) : ((f + y) % 4294967296 + 4294967296 - (f + 4294967296 - n) % 4294967296) % 4294967296 = n + y := by
  omega
theorem offB_at (m : BufP) (x : Nat) (hf : m.f < M32) (hx : m.n + x < M32) : offB m ((m.f + x) % M32) = m.n + x := by
  unfold offB
  rw [M32_eq] at *
  exact mod_key m.f m.n x hf hx
theorem joinOne' (f L R a b S : Nat) (rs : List (Nat × Nat)) (h1 : aheadS f R = b) (h2 : aheadS f L = a) (hab : a < b) (hb : b ≤ 65536) : addR f (aheadS f R) rs [(L, R)] = joinR rs (a, b) := by
  unfold addR
  rw [List.foldl_cons, List.foldl_nil]
  unfold addR1
  rw [h1, h2, if_pos ⟨hb, Nat.le_refl b, hab⟩]
theorem joinOne (f a b : Nat) (rs : List (Nat × Nat)) (hf : f < M32) (hab : a < b) (hb : b ≤ 65536) (hm : b < M32) : addR f (aheadS f ((f + b) % M32)) rs [((f + a) % M32, (f + b) % M32)] = joinR rs (a, b) :=
  joinOne' f _ _ a b 0 rs (aheadS_at f b hf hm) (aheadS_at f a hf (Nat.lt_trans hab hm)) hab hb
/-- How a byte is laid, then the others. -/
theorem layB_step (m : BufP) (a k : Nat) (q ys : List UInt8) (h : k < q.length) : layB m (a + k) (q.drop k) ys = layB m (a + (k + 1)) (q.drop (k + 1)) (if hasR m.rs (a + k) then ys else ys.set ((m.beg + (m.n + (a + k))) % m.R) (q.getD k 0)) := by
  rw [List.drop_eq_getElem_cons h]
  show layB m (a + k + 1) _ _ = _
  have e : q.getD k 0 = q[k] := by simp [List.getD_eq_getElem?_getD, List.getElem?_eq_getElem h]
  rw [e]
  rfl
end Go.Proofs.Ytblkfpipmdfmkaa
