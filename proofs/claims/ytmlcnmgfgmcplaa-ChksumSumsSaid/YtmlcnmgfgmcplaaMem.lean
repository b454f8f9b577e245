/- Slices that are read: words over memory that speak of no program. -/
import Derived.WalkKit
import Derived.WalkSpells
import Derived.Deep.AppendLies
import Derived.Deep.Draws
import Derived.LaidMore
namespace Go.Proofs.Ytmlcnmgfgmcplaa
set_option linter.unusedVariables false
set_option linter.unusedSimpArgs false
open Go.RowKit

/-- A fact is laid aside. -/
theorem hid {p : Prop} (h : p) : Hid p := h
theorem ret_int {k : IntKind} {a b : Int} (h : a = b) : Ending.returned (.int k a) = .returned (.int k b) := by rw [h]
theorem add_block (a : Addr) (n : Nat) : (a.add n).block = a.block := by unfold Addr.add; split <;> rfl
theorem add_add (a : Addr) (i j : Nat) : (a.add i).add j = a.add (i + j) := by
  unfold Addr.add
  by_cases hi : i = 0 <;> by_cases hj : j = 0 <;> simp [hi, hj, Nat.add_assoc]
theorem add_zero' (a : Addr) : a.add 0 = a := by simp [Addr.add]

/-- A slice's row: n elements of sz cells each, within cap c, whose cells are vs. -/
structure Row (w : World) (sz : Nat) (A : Option Addr) (n c : Nat) (vs : List Value) : Prop where
  len : vs.length = n * sz
  cap : n ≤ c
  top : c ≤ 9223372036854775807
  at_ : ∀ (k : Nat) (v : Value), vs[k]? = some v → ∃ ad, A = some ad ∧ w.cell? (ad.add k) = some v

section
variable {w w' : World} {sz n c : Nat} {A : Option Addr} {vs : List Value}
theorem Row.keep (h : Row w sz A n c vs) (hk : ∀ (p : Addr) (v : Value), w.cell? p = some v → w'.cell? p = some v) : Row w' sz A n c vs :=
  ⟨h.len, h.cap, h.top, fun k v hv => by obtain ⟨ad, e, hc⟩ := h.at_ k v hv; exact ⟨ad, e, hk _ _ hc⟩⟩
theorem Row.below (h : Row w sz A n c vs) (hb : Below w.heap.size w w') : Row w' sz A n c vs :=
  h.keep fun p _ hp => (hb.cell (World.block_lt_of_cell? w p hp)).trans hp
theorem Row.drewN (h : Row w sz A n c vs) (k : Nat) : Row (w.drewN k) sz A n c vs := h.keep fun _ _ h => h
theorem Row.drew (h : Row w sz A n c vs) : Row w.drew sz A n c vs := h.keep fun _ _ h => h
theorem Row.alloc (h : Row w sz A n c vs) (o : Obj) : Row (w.alloc o) sz A n c vs :=
  h.keep fun p v hp => (World.cell?_alloc_lt w o p (World.block_lt_of_cell? w p hp)).trans hp
theorem Row.nil (w : World) (sz : Nat) : Row w sz none 0 0 [] := ⟨by simp, Nat.le_refl _, by omega, fun k v h => by simp at h⟩
theorem Row.take (h : Row w sz A n c vs) {m : Nat} (hm : m ≤ n) : Row w sz A m c (vs.take (m * sz)) :=
  ⟨by rw [List.length_take, h.len]; exact Nat.min_eq_left (Nat.mul_le_mul_right _ hm), Nat.le_trans hm h.cap, h.top, fun k v hv => by
    rw [List.getElem?_take] at hv
    split at hv
    · exact h.at_ k v hv
    · cases hv⟩
theorem Row.drop (h : Row w sz A n c vs) {k : Nat} (hk : k ≤ n) :
    Row w sz (if c = k then A else A.map (·.add (k * sz))) (n - k) (c - k) (vs.drop (k * sz)) := by
  refine ⟨by rw [List.length_drop, h.len, Nat.sub_mul], Nat.sub_le_sub_right h.cap k, Nat.le_trans (Nat.sub_le _ _) h.top, fun j v hv => ?_⟩
  have hlt : k * sz + j < n * sz := by
    have := (List.getElem?_eq_some_iff.1 hv).1
    rw [List.length_drop, h.len] at this; omega
  have hkn : k ≠ n := by rintro rfl; omega
  have hck : c ≠ k := by have := h.cap; omega
  rw [if_neg hck]
  rw [List.getElem?_drop] at hv
  obtain ⟨ad, rfl, hc⟩ := h.at_ _ v hv
  exact ⟨ad.add (k * sz), rfl, by rw [add_add]; exact hc⟩
/-- The one address of a row that has a cell. -/
theorem Row.addr (h : Row w sz A n c vs) (hn : 0 < vs.length) : ∃ ad, A = some ad := by
  obtain ⟨ad, e, _⟩ := h.at_ 0 _ (List.getElem?_eq_getElem hn)
  exact ⟨ad, e⟩
theorem Row.get {ad : Addr} (h : Row w sz (some ad) n c vs) (k : Nat) (v : Value) (hv : vs[k]? = some v) : w.cell? (ad.add k) = some v := by
  obtain ⟨ad', e, hc⟩ := h.at_ k v hv
  injection e with e
  subst e
  exact hc
/-- The same at a literal's place, in the walk's own spelling. -/
theorem Row.lit {ad : Addr} (h : Row w sz (some ad) n c vs) (k : Nat) (v : Value) (hk : 0 < k) (hv : vs[k]? = some v) : w.cell? ⟨ad.block, ad.off + k, none⟩ = some v := by
  have := h.get k v hv
  rwa [Addr.add, if_neg (by omega)] at this
end

/-- A byte's value. -/
def u8 (x : UInt8) : Value := .int .u8 (x.toNat : Int)
def by8 (xs : List UInt8) : List Value := xs.map u8
theorem by8_length (xs : List UInt8) : (by8 xs).length = xs.length := by simp [by8]
theorem by8_get (xs : List UInt8) (k : Nat) (h : k < xs.length) : (by8 xs)[k]? = some (.int .u8 ((xs.getD k 0).toNat : Int)) := by
  simp [by8, u8, List.getElem?_map, List.getElem?_eq_getElem h, List.getD_eq_getElem?_getD]
theorem by8_take (xs : List UInt8) (k : Nat) : (by8 xs).take k = by8 (xs.take k) := by simp [by8, List.map_take]
theorem by8_drop (xs : List UInt8) (k : Nat) : (by8 xs).drop k = by8 (xs.drop k) := by simp [by8, List.map_drop]
theorem by8_append (xs ys : List UInt8) : by8 (xs ++ ys) = by8 xs ++ by8 ys := by simp [by8]

/-- A slice of bytes that reads as xs. -/
def RB (w : World) (v : Value) (xs : List UInt8) : Prop := ∃ A c, v = .slice A xs.length c ∧ Row w 1 A xs.length c (by8 xs)
/-- A slice of slices of bytes. -/
def RBB (w : World) (v : Value) (pp : List (List UInt8)) : Prop :=
  ∃ A c vs, v = .slice A pp.length c ∧ Row w 1 A pp.length c vs ∧ ∀ (i : Nat) xs, pp[i]? = some xs → ∃ u, vs[i]? = some u ∧ RB w u xs

section
variable {w w' : World} {v : Value} {xs : List UInt8} {pp : List (List UInt8)}
theorem RB.below (h : RB w v xs) (hb : Below w.heap.size w w') : RB w' v xs := by
  obtain ⟨A, c, e, hr⟩ := h; exact ⟨A, c, e, hr.below hb⟩
theorem RB.drewN (h : RB w v xs) (k : Nat) : RB (w.drewN k) v xs := by
  obtain ⟨A, c, e, hr⟩ := h; exact ⟨A, c, e, hr.drewN k⟩
theorem RB.drew (h : RB w v xs) : RB w.drew v xs := by
  obtain ⟨A, c, e, hr⟩ := h; exact ⟨A, c, e, hr.drew⟩
theorem RB.alloc (h : RB w v xs) (o : Obj) : RB (w.alloc o) v xs := by
  obtain ⟨A, c, e, hr⟩ := h; exact ⟨A, c, e, hr.alloc o⟩
theorem RBB.below (h : RBB w v pp) (hb : Below w.heap.size w w') : RBB w' v pp := by
  obtain ⟨A, c, vs, e, hr, hi⟩ := h
  exact ⟨A, c, vs, e, hr.below hb, fun i xs hx => by obtain ⟨u, hu, hru⟩ := hi i xs hx; exact ⟨u, hu, hru.below hb⟩⟩
theorem RBB.drewN (h : RBB w v pp) (k : Nat) : RBB (w.drewN k) v pp := by
  obtain ⟨A, c, vs, e, hr, hi⟩ := h
  exact ⟨A, c, vs, e, hr.drewN k, fun i xs hx => by obtain ⟨u, hu, hru⟩ := hi i xs hx; exact ⟨u, hu, hru.drewN k⟩⟩
theorem RB.nil (w : World) : RB w (.slice none 0 0) [] := ⟨none, 0, rfl, Row.nil w 1⟩
end
theorem cell_new (w : World) (cs : Array Value) (T : TypeId) (k : Nat) : (w.alloc (.cells cs T)).cell? ⟨w.heap.size, k, none⟩ = cs[k]? :=
  cell_of_row _ w.heap.size k cs T (0, 0) (heap_alloc_new w _)
theorem Row.new (w : World) (cs : Array Value) (T : TypeId) (sz n : Nat) (vs : List Value) (hl : vs.length = n * sz) (hn : n ≤ 9223372036854775807) (hc : ∀ (k : Nat) (v : Value), vs[k]? = some v → cs[k]? = some v) :
    Row (w.alloc (.cells cs T)) sz (some ⟨w.heap.size, 0, none⟩) n n vs :=
  ⟨hl, Nat.le_refl _, hn, fun k v hv => ⟨_, rfl, by
    have : (⟨w.heap.size, 0, none⟩ : Addr).add k = ⟨w.heap.size, k, none⟩ := by unfold Addr.add; split <;> simp_all
    rw [this, cell_new]; exact hc k v hv⟩⟩
/-- A literal of bytes in a block of its own. -/
theorem RB.new (w : World) (b : Nat) (xs : List UInt8) (cs : Array Value) (T : TypeId) (n : Nat) (hb : b = w.heap.size) (hn : n = xs.length) (hn' : n ≤ 9223372036854775807) (hc : cs = (by8 xs).toArray) :
    RB (w.alloc (.cells cs T)) (.slice (some ⟨b, 0, none⟩) n n) xs := by
  subst hn hb
  refine ⟨_, _, rfl, Row.new w cs T 1 xs.length (by8 xs) (by simp [by8]) hn' (fun k v hv => ?_)⟩
  rw [hc]; simpa using hv
/-- A literal of slices of bytes in a block of its own. -/
theorem RBB.new (w : World) (b : Nat) (pp : List (List UInt8)) (cs : Array Value) (T : TypeId) (n : Nat) (hb : b = w.heap.size) (hn : n = pp.length) (hn' : n ≤ 9223372036854775807) (hs : cs.size = n)
    (hi : ∀ (i : Nat) xs, pp[i]? = some xs → ∃ u, cs[i]? = some u ∧ RB w u xs) : RBB (w.alloc (.cells cs T)) (.slice (some ⟨b, 0, none⟩) n n) pp := by
  subst hn hb
  refine ⟨_, _, cs.toList, rfl, Row.new w cs T 1 pp.length cs.toList (by simp [hs]) hn' (fun k v hv => by simpa using hv), fun i xs hx => ?_⟩
  obtain ⟨u, hu, hr⟩ := hi i xs hx
  exact ⟨u, by simpa using hu, hr.alloc _⟩
theorem below_drewN {B : Nat} {a w : World} (h : Below B a w) (n : Nat) : Below B a (w.drewN n) := ⟨h.os, h.tape, h.output, h.size, h.block⟩
theorem below_alloc {B : Nat} {a w : World} (h : Below B a w) (o : Obj) (hB : B ≤ a.heap.size) : Below B a (w.alloc o) := h.alloc (Nat.le_trans hB h.size) o
theorem below_after {B : Nat} {a w w' : World} (h : Below B a w) (h' : Below w.heap.size w w') (hB : B ≤ a.heap.size) : Below B a w' := h.trans (h'.mono (Nat.le_trans hB h.size))
theorem RBB.new1 (w : World) (b : Nat) (xs : List UInt8) (u : Value) (T : TypeId) (hb : b = w.heap.size) (hr : RB w u xs) : RBB (w.alloc (.cells #[u] T)) (.slice (some ⟨b, 0, none⟩) 1 1) [xs] :=
  RBB.new w b [xs] #[u] T 1 hb rfl (by omega) rfl (fun i ys hy => by
    match i, hy with
    | 0, hy => simp at hy; subst hy; exact ⟨u, rfl, hr⟩)
theorem RBB.new2 (w : World) (b : Nat) (xs ys : List UInt8) (u v : Value) (T : TypeId) (hb : b = w.heap.size) (hr : RB w u xs) (hs : RB w v ys) : RBB (w.alloc (.cells #[u, v] T)) (.slice (some ⟨b, 0, none⟩) 2 2) [xs, ys] :=
  RBB.new w b [xs, ys] #[u, v] T 2 hb rfl (by omega) rfl (fun i zs hy => by
    match i, hy with
    | 0, hy => simp at hy; subst hy; exact ⟨u, rfl, hr⟩
    | 1, hy => simp at hy; subst hy; exact ⟨v, rfl, hs⟩)
/-- How many elements a slice's value says. -/
def lenV : Value → Nat | .slice _ n _ => n | _ => 0

section
variable {P : Program}
theorem slice_from (t e : TypeId) (kl : IntKind) {i : TypeInfo} (ht : P.underlying t = some (.slice e)) (hi : P.info? e = some i) (size : Nat) (hsz : i.size = size) (A : Option Addr) (n c : Nat) (j : Nat) (hm : j ≤ n) :
    ∀ W : World, (Instr.slice t (.slice A n c) (some (.int kl (j : Int))) none none).run P W = .ok (.slice (if c = j then A else A.map (·.add (j * size))) (n - j) (c - j)) W := by
  intro W
  have hel : P.elem t = e := by simp [Program.elem, ht]
  have hu : P.underlying t = some (.slice (P.elem t)) := by rw [hel]; exact ht
  rw [run_slice_l W t A n c hu kl j (by omega) (by omega), hel]
  simp [sizeOf, typeInfo, hi, hsz, sliced, Result.andThen]
end
end Go.Proofs.Ytmlcnmgfgmcplaa
