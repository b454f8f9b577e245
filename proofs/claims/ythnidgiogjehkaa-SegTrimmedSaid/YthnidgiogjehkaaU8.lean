/- Slices of bytes at this program's own types: append, cuts. -/
import Derived.Test.YthnidgiogjehkaaProg
import Derived.Test.YthnidgiogjehkaaMem
import Derived.ArgAppend
namespace Go.Proofs.Ythnidgiogjehkaa
set_option linter.unusedVariables false
set_option linter.unusedSimpArgs false
open Go.RowKit

theorem info_u8 : (Try.prog.info? 5).map (fun i => (i.zero, i.size, i.bytes)) = some (some (.int .u8 0), 1, 1) := by kernel_rfl

/-- A row of bytes of the call's own. -/
def OB (w : World) (base : Nat) (v : Value) (xs : List UInt8) : Prop := w.ownsRow base 5 1 v xs.length (by8 xs)
theorem OB.rb {w : World} {base : Nat} {v : Value} {xs : List UInt8} (h : OB w base v xs) : RB w v xs := RB.of_own rfl h
theorem OB.below {w w' : World} {base : Nat} {v : Value} {xs : List UInt8} (h : OB w base v xs) (hb : Below w.heap.size w w') : OB w' base v xs := own_below h hb
theorem OB.drewN {w : World} {base : Nat} {v : Value} {xs : List UInt8} (h : OB w base v xs) (k : Nat) : OB (w.drewN k) base v xs := h
theorem OB.alloc {w : World} {base : Nat} {v : Value} {xs : List UInt8} (h : OB w base v xs) (o : Obj) : OB (w.alloc o) base v xs := World.ownsRow.alloc h o
theorem OB.nil (w : World) (base : Nat) : OB w base (.slice none 0 0) [] := own_nil w base _ 1
theorem OB.lower {w : World} {base base' : Nat} {v : Value} {xs : List UInt8} (h : OB w base v xs) (hb : base' ≤ base) : OB w base' v xs := by
  obtain ⟨h1, h2⟩ := h
  refine ⟨h1, ?_⟩
  rcases h2 with h2 | ⟨g, cap, cur, rfl, hg, r⟩
  · exact .inl h2
  · exact .inr ⟨g, cap, cur, rfl, Nat.le_trans hb hg, r⟩
theorem OB.slice {w : World} {base : Nat} {v : Value} {xs : List UInt8} (h : OB w base v xs) : ∃ A c, v = .slice A xs.length c := by
  obtain ⟨A, c, e, _⟩ := h.rb
  exact ⟨A, c, e⟩

theorem by8_set (xs : List UInt8) (k : Nat) (x : UInt8) : by8 (xs.set k x) = (by8 xs).set k (u8 x) := by simp [by8, List.map_set]
theorem OB.blk {w : World} {base : Nat} {A : Option Addr} {n c : Nat} {xs : List UInt8} (h : OB w base (.slice A n c) xs) (hn : 0 < n) : ∃ g, A = some ⟨g, 0, none⟩ ∧ base ≤ g ∧ g < w.heap.size ∧ n = xs.length := by
  rcases h.2 with ⟨h1, _⟩ | ⟨g, cap, cur, h1, hb, hg, _⟩
  · injection h1 with h1 h2; omega
  · injection h1 with h1 h2
    exact ⟨g, h1, hb, (Array.getElem?_eq_some_iff.1 hg).1, h2⟩
/-- What a store into a row of the call's own asks, and leaves. -/
theorem OB.store {w : World} {base g n c : Nat} {xs : List UInt8} (h : OB w base (.slice (some ⟨g, 0, none⟩) n c) xs) (k : Nat) (hk : k < xs.length) :
    w.cell? ⟨g, k, none⟩ = some (.int .u8 ((xs.getD k 0).toNat : Int)) ∧ w.frozen? ⟨g, k, none⟩ = false ∧
    ∀ (x : UInt8) (n' : Int), n' = (x.toNat : Int) → OB (w.setCell ⟨g, k, none⟩ (.int .u8 n')) base (.slice (some ⟨g, 0, none⟩) n c) (xs.set k x) := by
  rcases h.2 with ⟨h1, _⟩ | ⟨g', cap, cur, h1, hb, hg, hn, hc, hs, ht⟩
  · injection h1 with h1; cases h1
  · injection h1 with h1 h2 h3
    injection h1 with h1
    injection h1 with h1
    subst h1 h2 h3
    have hcell : ∀ j, w.cell? ⟨g, j, none⟩ = cur[j]? := fun j => cell_of_row w g j cur _ (0, 0) hg
    refine ⟨?_, ?_, fun x n' hn' => ⟨by simp [by8_length], .inr ⟨g, c, cur.setIfInBounds k (u8 x), by simp, hb, ?_, by simpa using hn, hc, by simpa using hs, ?_⟩⟩⟩
    · have h4 := by8_get xs k hk
      rw [← ht, List.getElem?_take, if_pos (by omega), Array.getElem?_toList] at h4
      rw [hcell, h4]
    · simp [World.frozen?, hg]
    · subst hn'
      show (w.setCell ⟨g, k, none⟩ (u8 x)).heap[g]? = _
      simp [World.setCell, Array.getElem?_modify, hg]
    · rw [by8_set, ← ht, Array.toList_setIfInBounds, List.length_set, List.take_set]
/-- append(v, u...): v of the call's own (from base on), u any bytes. -/
theorem append_u8 {ops : Array Oper} {rest : List Oper} {o : Oper} {a : Act} {Q : Exit → Act → World → Prop} (s x : Operand) (base : Nat) (xs ys zs : List UInt8) (hz : xs ++ ys = zs) {v u : Value} {w : World} (hw : Region.wanted o (yielded ops a.tmps) = true)
    (ho : o.op = .call { callee := .builtin .append, args := #[s, x], argTypes := #[32, 32] })
    (hs : a.eval s = v) (hx : a.eval x = u) (hown : OB w base v xs) (hr : RB w u ys) (hlen : xs.length + ys.length ≤ 70368744177664) (hbase : base ≤ w.heap.size)
    (h : ∀ A' c' w', OB w' base (.slice A' zs.length c') zs → Below base w w' → w.grownBy w' v.ownBlock → ((Value.slice A' zs.length c').ownBlock = v.ownBlock ∨ (Value.slice A' zs.length c').ownBlock = some w.heap.size) → wpList Try.prog ops Q rest (a.put o.dst (.slice A' zs.length c')) w') : wpList Try.prog ops Q (o :: rest) a w := by
  obtain ⟨i0, hi0, hz0, hz1, hz2⟩ := info_parts info_u8
  obtain ⟨A, c, rfl, hrow⟩ := hr
  refine wpList_append_g w hw s x _ ho base 5 i0 _ 1 1 Try.underlying32 hi0 hz0 hz1 hz2 rfl (by omega) v xs.length (by8 xs) hs hown A ys.length c (by8 ys) hx hrow (one_by8 _) (by unfold maxLen; omega) (by omega) hbase ?_
  intro v' w' h1 h2 h3
  have h4 : OB w' base v' zs := by
    unfold OB
    rw [← hz, by8_append, List.length_append]
    exact h1
  obtain ⟨A', c', rfl⟩ := h4.slice
  exact h A' c' w' h4 ((Below.refl _ _).grown h2 hbase (fun k hk => own_ge hown k hk)) h2 h3
/-- append_u8 at a step of a region that draws. -/
theorem step_append_u8 {ops : Array Oper} {o : Oper} {a : Act} {K : Act → World → Prop} {Q : Exit → Act → World → Prop} {E : Prop} (s x : Operand) (base : Nat) (xs ys zs : List UInt8) (hz : xs ++ ys = zs) {v u : Value} {w : World} (hw : Region.wanted o (yielded ops a.tmps) = true)
    (ho : o.op = .call { callee := .builtin .append, args := #[s, x], argTypes := #[32, 32] })
    (hs : a.eval s = v) (hx : a.eval x = u) (hown : OB w base v xs) (hr : RB w u ys) (hlen : xs.length + ys.length ≤ 70368744177664) (hbase : base ≤ w.heap.size)
    (h : ∀ A' c' w', OB w' base (.slice A' zs.length c') zs → Below base w w' → w.grownBy w' v.ownBlock → ((Value.slice A' zs.length c').ownBlock = v.ownBlock ∨ (Value.slice A' zs.length c').ownBlock = some w.heap.size) → K (a.put o.dst (.slice A' zs.length c')) w') :
    if Region.wanted o (yielded ops a.tmps) = true then Oper.wp Try.prog o a w K Q else E := by
  obtain ⟨i0, hi0, hz0, hz1, hz2⟩ := info_parts info_u8
  obtain ⟨A, c, rfl, hrow⟩ := hr
  refine step_append_row w hw s x _ ho base 5 i0 _ 1 1 Try.underlying32 hi0 hz0 hz1 hz2 rfl (by omega) v xs.length (by8 xs) hs hown A ys.length c (by8 ys) hx hrow (one_by8 _) (by unfold maxLen; omega) (by omega) hbase ?_
  intro v' w' h1 h2 h3
  have h4 : OB w' base v' zs := by
    unfold OB
    rw [← hz, by8_append, List.length_append]
    exact h1
  obtain ⟨A', c', rfl⟩ := h4.slice
  exact h A' c' w' h4 ((Below.refl _ _).grown h2 hbase (fun k hk => own_ge hown k hk)) h2 h3
/-- append(v, u...) where v has no room: a new row. -/
theorem append_u8_full {ops : Array Oper} {rest : List Oper} {o : Oper} {a : Act} {Q : Exit → Act → World → Prop} (s x : Operand) (xs ys zs : List UInt8) (hz : xs ++ ys = zs) {A : Option Addr} {c : Nat} {u : Value} {w : World} (hg : o.guard = none)
    (ho : o.op = .call { callee := .builtin .append, args := #[s, x], argTypes := #[32, 32] })
    (hs : a.eval s = .slice A xs.length c) (hx : a.eval x = u) (hv : RB w (.slice A xs.length c) xs) (hc : c < xs.length + ys.length) (hnil : A = none → c = 0) (hr : RB w u ys) (hlen : xs.length + ys.length ≤ 70368744177664)
    (h : ∀ A' c' w', OB w' w.heap.size (.slice A' zs.length c') zs → Below w.heap.size w w' → wpList Try.prog ops Q rest (a.put o.dst (.slice A' zs.length c')) w') : wpList Try.prog ops Q (o :: rest) a w := by
  obtain ⟨i0, hi0, hz0, hz1, hz2⟩ := info_parts info_u8
  obtain ⟨A0, c0, e0, hrow⟩ := hv
  injection e0 with e1 e2 e3
  subst e1 e3
  obtain ⟨A1, c1, rfl, hrow1⟩ := hr
  have hcap := hrow.cap
  obtain ⟨ad, rfl⟩ := hrow1.addr (by rw [hrow1.len]; omega)
  refine wpList_append_grows w hg s x _ ho 5 i0 _ 1 1 Try.underlying32 hi0 hz0 hz1 hz2 rfl (by omega) A xs.length c (by8 xs) hs (fun hn => ⟨by have := hnil hn; omega, hnil hn⟩) (by simp [by8_length]) (fun b hb j v hj => ?_) ad ys.length c1 (by8 ys) hx (by simp [by8_length]) (fun j v hj => hrow1.get j v hj) (one_by8 _) (by omega) (by unfold maxLen; omega) (by omega) ?_
  · subst hb; exact hrow.get j v hj
  · intro v' w' h1 h2
    have h4 : OB w' w.heap.size v' zs := by
      unfold OB
      rw [← hz, by8_append, List.length_append]
      exact h1
    obtain ⟨A', c', rfl⟩ := h4.slice
    exact h A' c' w' h4 ((Below.refl _ _).grown h2 (Nat.le_refl _) (fun k hk => by cases hk))
/-- Bytes inside a block: a part of an array in a struct. -/
theorem RB.inBlock {w : World} {b o n c : Nat} {cs : Array Value} {T : TypeId} {fz : Nat × Nat} {xs : List UInt8} (hb : w.heap[b]? = some (.cells cs T fz)) (hn : n = xs.length) (hc : n ≤ c) (hc' : c ≤ 9223372036854775807)
    (hx : ∀ (j : Nat) (v : Value), (by8 xs)[j]? = some v → cs[o + j]? = some v) : RB w (.slice (some ⟨b, o, none⟩) n c) xs := by
  subst hn
  refine ⟨_, _, rfl, by simp [by8_length], hc, hc', fun k v hv => ⟨_, rfl, ?_⟩⟩
  have : (⟨b, o, none⟩ : Addr).add k = ⟨b, o + k, none⟩ := by unfold Addr.add; split <;> simp_all
  rw [this, cell_of_row w b (o + k) cs T fz hb]
  exact hx k v hv
end Go.Proofs.Ythnidgiogjehkaa
