/- Worlds in which only some blocks have turned. -/
import Derived.Test.YthnidgiogjehkaaBlk
import Derived.Test.YthnidgiogjehkaaU8
namespace Go.Proofs.Ythnidgiogjehkaa
set_option linter.unusedVariables false
set_option linter.unusedSimpArgs false
open Go.RowKit

/-- w' is w, but for new blocks and for what stands in the blocks of M. -/
structure Mod (M : List Nat) (w w' : World) : Prop where
  os : w'.os = w.os
  tape : w'.tape = w.tape
  output : w'.output = w.output
  size : w.heap.size ≤ w'.heap.size
  block : ∀ k, k < w.heap.size → k ∉ M → w'.heap[k]? = w.heap[k]?
section
variable {w w' w'' : World} {M N : List Nat}
theorem Mod.refl (M : List Nat) (w : World) : Mod M w w := ⟨rfl, rfl, rfl, Nat.le_refl _, fun _ _ _ => rfl⟩
theorem Mod.trans (h : Mod M w w') (h' : Mod M w' w'') : Mod M w w'' :=
  ⟨h'.os.trans h.os, h'.tape.trans h.tape, h'.output.trans h.output, Nat.le_trans h.size h'.size, fun k hk hm => (h'.block k (Nat.lt_of_lt_of_le hk h.size) hm).trans (h.block k hk hm)⟩
theorem Mod.sub (h : Mod M w w') (hs : ∀ k ∈ M, k ∈ N) : Mod N w w' := ⟨h.os, h.tape, h.output, h.size, fun k hk hm => h.block k hk fun hx => hm (hs k hx)⟩
/-- Blocks that are newer do not count. -/
theorem Mod.old (h : Mod M w w') (hs : ∀ k ∈ M, k ∈ N ∨ w.heap.size ≤ k) : Mod N w w' := ⟨h.os, h.tape, h.output, h.size, fun k hk hm => h.block k hk fun hx => by rcases hs k hx with h1 | h1; exact hm h1; omega⟩
theorem Mod.of_grown {g : Nat} (h : w.grownBy w' (some g)) : Mod [g] w w' :=
  ⟨h.os, h.tape, h.output, h.size, fun k hk hm => h.block k hk (fun e => hm (by injection e with e; simp [e]))⟩
theorem Mod.of_below (h : Below w.heap.size w w') : Mod [] w w' := ⟨h.os, h.tape, h.output, h.size, fun k hk _ => h.block k hk⟩
theorem Mod.below {B : Nat} {a : World} (hb : Below B a w) (h : Mod M w w') (hB : B ≤ a.heap.size) (hm : ∀ k ∈ M, B ≤ k) : Below B a w' :=
  ⟨h.os.trans hb.os, h.tape.trans hb.tape, h.output.trans hb.output, Nat.le_trans hb.size h.size, fun k hk => (h.block k (by have := hb.size; omega) (fun hx => by have := hm k hx; omega)).trans (hb.block k hk)⟩
theorem Mod.keeps {k : Nat} {o : Obj} (h : Mod M w w') (ho : w.heap[k]? = some o) (hm : k ∉ M) : w'.heap[k]? = some o := (h.block k (Array.getElem?_eq_some_iff.1 ho).1 hm).trans ho
theorem Mod.cell {p : Addr} {v : Value} (h : Mod M w w') (hc : w.cell? p = some v) (hm : p.block ∉ M) : w'.cell? p = some v := by
  have hb := h.block p.block (World.block_lt_of_cell? w p hc) hm
  unfold World.cell? at hc ⊢
  rw [hb]; exact hc
theorem Mod.setCell (g k : Nat) (v : Value) (hg : g ∈ M) : Mod M w (w.setCell ⟨g, k, none⟩ v) := (Mod.of_grown (grownBy_setCell w g k v)).sub (by simpa using hg)
theorem Mod.setRow (g : Nat) (ds : Array Value) (hg : g ∈ M) : Mod M w (w.setRow g ds) :=
  ⟨rfl, rfl, rfl, by rw [sizeSetRow]; exact Nat.le_refl _, fun k _ hm => rowSetRow_far (by rintro rfl; exact hm hg) ds⟩
theorem Mod.alloc (o : Obj) : Mod M w (w.alloc o) := (Mod.of_below (bl1 w o)).sub (by simp)
theorem Mod.drew : Mod M w w.drew := ⟨rfl, rfl, rfl, Nat.le_refl _, fun _ _ _ => rfl⟩
theorem Mod.drewN (n : Nat) : Mod M w (w.drewN n) := ⟨rfl, rfl, rfl, Nat.le_refl _, fun _ _ _ => rfl⟩
end
theorem keep_cell {B : Nat} {w w' : World} (h : Below B w w') {p : Addr} {v : Value} (hc : w.cell? p = some v) (hp : p.block < B) : w'.cell? p = some v := (h.cell hp).trans hc
/-- A slice's cells stand in one block. -/
def InB (A : Option Addr) (d : Nat) : Prop := ∀ ad, A = some ad → ad.block = d
theorem InB.none (d : Nat) : InB none d := fun _ h => by cases h
theorem InB.some (d o : Nat) : InB (some ⟨d, o, Option.none⟩) d := fun _ h => by injection h with h; subst h; rfl
theorem InB.drop {A : Option Addr} {d : Nat} (h : InB A d) (c k j : Nat) : InB (if c = k then A else A.map (·.add j)) d := by
  split
  · exact h
  · intro ad e
    cases A with
    | none => cases e
    | some a => injection e with e; subst e; rw [add_block]; exact h a rfl
theorem InB.drop' {A : Option Addr} {d : Nat} (h : InB A d) (j : Nat) : InB (A.map (·.add j)) d := by
  intro ad e
  cases A with
  | none => cases e
  | some a => injection e with e; subst e; rw [add_block]; exact h a rfl
section
variable {w w' : World} {M : List Nat} {sz n c d : Nat} {A : Option Addr} {vs : List Value} {xs : List UInt8}
theorem Row.mod (h : Row w sz A n c vs) (hm : Mod M w w') (hA : InB A d) (hd : d ∉ M) : Row w' sz A n c vs :=
  ⟨h.len, h.cap, h.top, fun k v hv => by
    obtain ⟨ad, e, hc⟩ := h.at_ k v hv
    exact ⟨ad, e, hm.cell hc (by rw [add_block, hA ad e]; exact hd)⟩⟩
theorem RB.mod (h : RB w (.slice A n c) xs) (hm : Mod M w w') (hA : InB A d) (hd : d ∉ M) : RB w' (.slice A n c) xs := by
  obtain ⟨A', c', e, r⟩ := h
  injection e with e1 e2 e3
  subst e1 e2 e3
  exact ⟨_, _, rfl, r.mod hm hA hd⟩
theorem OB.inb {base : Nat} (h : OB w base (.slice A n c) xs) : ∃ d, InB A d ∧ base ≤ d ∧ (0 < n → d < w.heap.size) := by
  by_cases hn : 0 < n
  · obtain ⟨g, rfl, h1, h2, _⟩ := h.blk hn
    exact ⟨g, InB.some g 0, h1, fun _ => h2⟩
  · rcases h.2 with ⟨e, _⟩ | ⟨g, cap, cur, e, hb, hg, _⟩
    · injection e with e; subst e; exact ⟨base, InB.none _, Nat.le_refl _, fun h => absurd h hn⟩
    · injection e with e; subst e; exact ⟨g, InB.some g 0, hb, fun h => absurd h hn⟩
theorem OB.inb' {base : Nat} (h : OB w base (.slice A n c) xs) (hb : base ≤ w.heap.size) : ∃ d, InB A d ∧ base ≤ d ∧ d ≤ w.heap.size ∧ (0 < c → d < w.heap.size) := by
  rcases h.2 with ⟨e, _⟩ | ⟨g, cap, cur, e, hb', hg, _⟩
  · injection e with e1 e2 e3; subst e1 e3; exact ⟨base, InB.none _, Nat.le_refl _, hb, fun h => absurd h (by omega)⟩
  · injection e with e; subst e
    have := (Array.getElem?_eq_some_iff.1 hg).1
    exact ⟨g, InB.some g 0, hb', by omega, fun _ => this⟩
end
end Go.Proofs.Ythnidgiogjehkaa
