/- Slices of bytes at this program's own types: append, cuts. -/
import Derived.Test.YtkflolbphiffbaaProg
import Derived.Test.YtkflolbphiffbaaMem
import Derived.ArgAppend
namespace Go.Proofs.Ytkflolbphiffbaa
set_option linter.unusedVariables false
set_option linter.unusedSimpArgs false
open Go.RowKit

theorem info_u8 : (Try.prog.info? 5).map (fun i => (i.zero, i.size, i.bytes)) = some (some (.int .u8 0), 1, 1) := by kernel_rfl

/-- A row of bytes of the call's own. -/
def OB (w : World) (base : Nat) (v : Value) (xs : List UInt8) : Prop := w.ownsRow base 5 1 v xs.length (by8 xs)
theorem OB.rb {w : World} {base : Nat} {v : Value} {xs : List UInt8} (h : OB w base v xs) : RB w v xs := RB.of_own rfl h
theorem OB.below {w w' : World} {base : Nat} {v : Value} {xs : List UInt8} (h : OB w base v xs) (hb : Below w.heap.size w w') : OB w' base v xs := own_below h hb
theorem OB.drewN {w : World} {base : Nat} {v : Value} {xs : List UInt8} (h : OB w base v xs) (k : Nat) : OB (w.drewN k) base v xs := h
theorem OB.alloc {w : World} {base : Nat} {v : Value} {xs : List UInt8} (h : OB w base v xs) (o : Obj) : OB (w.alloc o) base v xs := World.ownsRow.alloc h o
theorem OB.nil (w : World) (base : Nat) : OB w base (.slice none 0 0) [] := own_nil w base _ 1
theorem OB.lower {w : World} {base base' : Nat} {v : Value} {xs : List UInt8} (h : OB w base v xs) (hb : base' ≤ base) : OB w base' v xs := by
  obtain ⟨h1, h2⟩ := h
  refine ⟨h1, ?_⟩
  rcases h2 with h2 | ⟨g, cap, cur, rfl, hg, r⟩
  · exact .inl h2
  · exact .inr ⟨g, cap, cur, rfl, Nat.le_trans hb hg, r⟩
theorem OB.slice {w : World} {base : Nat} {v : Value} {xs : List UInt8} (h : OB w base v xs) : ∃ A c, v = .slice A xs.length c := by
  obtain ⟨A, c, e, _⟩ := h.rb
  exact ⟨A, c, e⟩

theorem by8_set (xs : List UInt8) (k : Nat) (x : UInt8) : by8 (xs.set k x) = (by8 xs).set k (u8 x) := by simp [by8, List.map_set]
theorem OB.blk {w : World} {base : Nat} {A : Option Addr} {n c : Nat} {xs : List UInt8} (h : OB w base (.slice A n c) xs) (hn : 0 < n) : ∃ g, A = some ⟨g, 0, none⟩ ∧ base ≤ g ∧ g < w.heap.size ∧ n = xs.length := by
  rcases h.2 with ⟨h1, _⟩ | ⟨g, cap, cur, h1, hb, hg, _⟩
  · injection h1 with h1 h2; omega
  · injection h1 with h1 h2
    exact ⟨g, h1, hb, (Array.getElem?_eq_some_iff.1 hg).1, h2⟩
/-- What a store into a row of the call's own asks, and leaves. -/
theorem OB.store {w : World} {base g n c : Nat} {xs : List UInt8} (h : OB w base (.slice (some ⟨g, 0, none⟩) n c) xs) (k : Nat) (hk : k < xs.length) :
    w.cell? ⟨g, k, none⟩ = some (.int .u8 ((xs.getD k 0).toNat : Int)) ∧ w.frozen? ⟨g, k, none⟩ = false ∧
    ∀ (x : UInt8) (n' : Int), n' = (x.toNat : Int) → OB (w.setCell ⟨g, k, none⟩ (.int .u8 n')) base (.slice (some ⟨g, 0, none⟩) n c) (xs.set k x) := by
  rcases h.2 with ⟨h1, _⟩ | ⟨g', cap, cur, h1, hb, hg, hn, hc, hs, ht⟩
  · injection h1 with h1; cases h1
  · injection h1 with h1 h2 h3
    injection h1 with h1
    injection h1 with h1
    subst h1 h2 h3
    have hcell : ∀ j, w.cell? ⟨g, j, none⟩ = cur[j]? := fun j => cell_of_row w g j cur _ (0, 0) hg
    refine ⟨?_, ?_, fun x n' hn' => ⟨by simp [by8_length], .inr ⟨g, c, cur.setIfInBounds k (u8 x), by simp, hb, ?_, by simpa using hn, hc, by simpa using hs, ?_⟩⟩⟩
    · have h4 := by8_get xs k hk
      rw [← ht, List.getElem?_take, if_pos (by omega), Array.getElem?_toList] at h4
      rw [hcell, h4]
    · simp [World.frozen?, hg]
    · subst hn'
      show (w.setCell ⟨g, k, none⟩ (u8 x)).heap[g]? = _
      simp [World.setCell, Array.getElem?_modify, hg]
    · rw [by8_set, ← ht, Array.toList_setIfInBounds, List.length_set, List.take_set]
/-- Bytes inside a block: a part of an array in a struct. -/
theorem RB.inBlock {w : World} {b o n c : Nat} {cs : Array Value} {T : TypeId} {fz : Nat × Nat} {xs : List UInt8} (hb : w.heap[b]? = some (.cells cs T fz)) (hn : n = xs.length) (hc : n ≤ c) (hc' : c ≤ 9223372036854775807)
    (hx : ∀ (j : Nat) (v : Value), (by8 xs)[j]? = some v → cs[o + j]? = some v) : RB w (.slice (some ⟨b, o, none⟩) n c) xs := by
  subst hn
  refine ⟨_, _, rfl, by simp [by8_length], hc, hc', fun k v hv => ⟨_, rfl, ?_⟩⟩
  have : (⟨b, o, none⟩ : Addr).add k = ⟨b, o + k, none⟩ := by unfold Addr.add; split <;> simp_all
  rw [this, cell_of_row w b (o + k) cs T fz hb]
  exact hx k v hv
end Go.Proofs.Ytkflolbphiffbaa
