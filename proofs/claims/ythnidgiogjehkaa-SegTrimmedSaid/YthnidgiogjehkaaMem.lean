/- Slices that are read: words over memory that speak of no program. -/
import Derived.WalkKit
import Derived.WalkSpells
import Derived.Deep.AppendLies
import Derived.Deep.Draws
import Derived.LaidMore
import Derived.Maps.AppendAt
import Derived.RegionTactic
import Derived.OwnWalk
namespace Go.Proofs.Ythnidgiogjehkaa
set_option linter.unusedVariables false
set_option linter.unusedSimpArgs false
open Go.RowKit

/-- A fact is laid aside. -/
theorem hid {p : Prop} (h : p) : Hid p := h
theorem ret_int {k : IntKind} {a b : Int} (h : a = b) : Ending.returned (.int k a) = .returned (.int k b) := by rw [h]
theorem add_block (a : Addr) (n : Nat) : (a.add n).block = a.block := by unfold Addr.add; split <;> rfl
theorem add_add (a : Addr) (i j : Nat) : (a.add i).add j = a.add (i + j) := by
  unfold Addr.add
  by_cases hi : i = 0 <;> by_cases hj : j = 0 <;> simp [hi, hj, Nat.add_assoc]
theorem add_zero' (a : Addr) : a.add 0 = a := by simp [Addr.add]

/-- A slice's row: n elements of sz cells each, within cap c, whose cells are vs. -/
structure Row (w : World) (sz : Nat) (A : Option Addr) (n c : Nat) (vs : List Value) : Prop where
  len : vs.length = n * sz
  cap : n ≤ c
  top : c ≤ 9223372036854775807
  at_ : ∀ (k : Nat) (v : Value), vs[k]? = some v → ∃ ad, A = some ad ∧ w.cell? (ad.add k) = some v

section
variable {w w' : World} {sz n c : Nat} {A : Option Addr} {vs : List Value}
theorem Row.keep (h : Row w sz A n c vs) (hk : ∀ (p : Addr) (v : Value), w.cell? p = some v → w'.cell? p = some v) : Row w' sz A n c vs :=
  ⟨h.len, h.cap, h.top, fun k v hv => by obtain ⟨ad, e, hc⟩ := h.at_ k v hv; exact ⟨ad, e, hk _ _ hc⟩⟩
theorem Row.keep' (h : Row w sz A n c vs) (hk : ∀ (k : Nat) (v : Value), vs[k]? = some v → ∀ ad : Addr, w.cell? (ad.add k) = some v → w'.cell? (ad.add k) = some v) : Row w' sz A n c vs :=
  ⟨h.len, h.cap, h.top, fun k v hv => by obtain ⟨ad, e, hc⟩ := h.at_ k v hv; exact ⟨ad, e, hk k v hv ad hc⟩⟩
theorem Row.below (h : Row w sz A n c vs) (hb : Below w.heap.size w w') : Row w' sz A n c vs :=
  h.keep fun p _ hp => (hb.cell (World.block_lt_of_cell? w p hp)).trans hp
theorem Row.drewN (h : Row w sz A n c vs) (k : Nat) : Row (w.drewN k) sz A n c vs := h.keep fun _ _ h => h
theorem Row.drew (h : Row w sz A n c vs) : Row w.drew sz A n c vs := h.keep fun _ _ h => h
theorem Row.alloc (h : Row w sz A n c vs) (o : Obj) : Row (w.alloc o) sz A n c vs :=
  h.keep fun p v hp => (World.cell?_alloc_lt w o p (World.block_lt_of_cell? w p hp)).trans hp
theorem Row.nil (w : World) (sz : Nat) : Row w sz none 0 0 [] := ⟨by simp, Nat.le_refl _, by omega, fun k v h => by simp at h⟩
theorem Row.take (h : Row w sz A n c vs) {m : Nat} (hm : m ≤ n) : Row w sz A m c (vs.take (m * sz)) :=
  ⟨by rw [List.length_take, h.len]; exact Nat.min_eq_left (Nat.mul_le_mul_right _ hm), Nat.le_trans hm h.cap, h.top, fun k v hv => by
    rw [List.getElem?_take] at hv
    split at hv
    · exact h.at_ k v hv
    · cases hv⟩
theorem Row.drop (h : Row w sz A n c vs) {k : Nat} (hk : k ≤ n) :
    Row w sz (if c = k then A else A.map (·.add (k * sz))) (n - k) (c - k) (vs.drop (k * sz)) := by
  refine ⟨by rw [List.length_drop, h.len, Nat.sub_mul], Nat.sub_le_sub_right h.cap k, Nat.le_trans (Nat.sub_le _ _) h.top, fun j v hv => ?_⟩
  have hlt : k * sz + j < n * sz := by
    have := (List.getElem?_eq_some_iff.1 hv).1
    rw [List.length_drop, h.len] at this; omega
  have hkn : k ≠ n := by rintro rfl; omega
  have hck : c ≠ k := by have := h.cap; omega
  rw [if_neg hck]
  rw [List.getElem?_drop] at hv
  obtain ⟨ad, rfl, hc⟩ := h.at_ _ v hv
  exact ⟨ad.add (k * sz), rfl, by rw [add_add]; exact hc⟩
theorem Row.recap (h : Row w sz A n c vs) {c' : Nat} (h1 : n ≤ c') (h2 : c' ≤ 9223372036854775807) : Row w sz A n c' vs := ⟨h.len, h1, h2, h.at_⟩
/-- The one address of a row that has a cell. -/
theorem Row.addr (h : Row w sz A n c vs) (hn : 0 < vs.length) : ∃ ad, A = some ad := by
  obtain ⟨ad, e, _⟩ := h.at_ 0 _ (List.getElem?_eq_getElem hn)
  exact ⟨ad, e⟩
theorem Row.get {ad : Addr} (h : Row w sz (some ad) n c vs) (k : Nat) (v : Value) (hv : vs[k]? = some v) : w.cell? (ad.add k) = some v := by
  obtain ⟨ad', e, hc⟩ := h.at_ k v hv
  injection e with e
  subst e
  exact hc
/-- The same at a literal's place, in the walk's own spelling. -/
theorem Row.lit {ad : Addr} (h : Row w sz (some ad) n c vs) (k : Nat) (v : Value) (hk : 0 < k) (hv : vs[k]? = some v) : w.cell? ⟨ad.block, ad.off + k, none⟩ = some v := by
  have := h.get k v hv
  rwa [Addr.add, if_neg (by omega)] at this
end

/-- A byte's value. -/
def u8 (x : UInt8) : Value := .int .u8 (x.toNat : Int)
def by8 (xs : List UInt8) : List Value := xs.map u8
theorem by8_length (xs : List UInt8) : (by8 xs).length = xs.length := by simp [by8]
theorem by8_get (xs : List UInt8) (k : Nat) (h : k < xs.length) : (by8 xs)[k]? = some (.int .u8 ((xs.getD k 0).toNat : Int)) := by
  simp [by8, u8, List.getElem?_map, List.getElem?_eq_getElem h, List.getD_eq_getElem?_getD]
theorem by8_take (xs : List UInt8) (k : Nat) : (by8 xs).take k = by8 (xs.take k) := by simp [by8, List.map_take]
theorem by8_drop (xs : List UInt8) (k : Nat) : (by8 xs).drop k = by8 (xs.drop k) := by simp [by8, List.map_drop]
theorem by8_append (xs ys : List UInt8) : by8 (xs ++ ys) = by8 xs ++ by8 ys := by simp [by8]

/-- A slice of bytes that reads as xs. -/
def RB (w : World) (v : Value) (xs : List UInt8) : Prop := ∃ A c, v = .slice A xs.length c ∧ Row w 1 A xs.length c (by8 xs)
/-- A slice of slices of bytes. -/
def RBB (w : World) (v : Value) (pp : List (List UInt8)) : Prop :=
  ∃ A c vs, v = .slice A pp.length c ∧ Row w 1 A pp.length c vs ∧ ∀ (i : Nat) xs, pp[i]? = some xs → ∃ u, vs[i]? = some u ∧ RB w u xs

section
variable {w w' : World} {v : Value} {xs : List UInt8} {pp : List (List UInt8)}
theorem RB.below (h : RB w v xs) (hb : Below w.heap.size w w') : RB w' v xs := by
  obtain ⟨A, c, e, hr⟩ := h; exact ⟨A, c, e, hr.below hb⟩
theorem RB.drewN (h : RB w v xs) (k : Nat) : RB (w.drewN k) v xs := by
  obtain ⟨A, c, e, hr⟩ := h; exact ⟨A, c, e, hr.drewN k⟩
theorem RB.drew (h : RB w v xs) : RB w.drew v xs := by
  obtain ⟨A, c, e, hr⟩ := h; exact ⟨A, c, e, hr.drew⟩
theorem RB.alloc (h : RB w v xs) (o : Obj) : RB (w.alloc o) v xs := by
  obtain ⟨A, c, e, hr⟩ := h; exact ⟨A, c, e, hr.alloc o⟩
theorem RBB.below (h : RBB w v pp) (hb : Below w.heap.size w w') : RBB w' v pp := by
  obtain ⟨A, c, vs, e, hr, hi⟩ := h
  exact ⟨A, c, vs, e, hr.below hb, fun i xs hx => by obtain ⟨u, hu, hru⟩ := hi i xs hx; exact ⟨u, hu, hru.below hb⟩⟩
theorem RBB.drewN (h : RBB w v pp) (k : Nat) : RBB (w.drewN k) v pp := by
  obtain ⟨A, c, vs, e, hr, hi⟩ := h
  exact ⟨A, c, vs, e, hr.drewN k, fun i xs hx => by obtain ⟨u, hu, hru⟩ := hi i xs hx; exact ⟨u, hu, hru.drewN k⟩⟩
theorem RB.nil (w : World) : RB w (.slice none 0 0) [] := ⟨none, 0, rfl, Row.nil w 1⟩
end
theorem cell_new (w : World) (cs : Array Value) (T : TypeId) (k : Nat) : (w.alloc (.cells cs T)).cell? ⟨w.heap.size, k, none⟩ = cs[k]? :=
  cell_of_row _ w.heap.size k cs T (0, 0) (heap_alloc_new w _)
theorem Row.new (w : World) (cs : Array Value) (T : TypeId) (sz n : Nat) (vs : List Value) (hl : vs.length = n * sz) (hn : n ≤ 9223372036854775807) (hc : ∀ (k : Nat) (v : Value), vs[k]? = some v → cs[k]? = some v) :
    Row (w.alloc (.cells cs T)) sz (some ⟨w.heap.size, 0, none⟩) n n vs :=
  ⟨hl, Nat.le_refl _, hn, fun k v hv => ⟨_, rfl, by
    have : (⟨w.heap.size, 0, none⟩ : Addr).add k = ⟨w.heap.size, k, none⟩ := by unfold Addr.add; split <;> simp_all
    rw [this, cell_new]; exact hc k v hv⟩⟩
/-- A literal of bytes in a block of its own. -/
theorem RB.new (w : World) (b : Nat) (xs : List UInt8) (cs : Array Value) (T : TypeId) (n : Nat) (hb : b = w.heap.size) (hn : n = xs.length) (hn' : n ≤ 9223372036854775807) (hc : cs = (by8 xs).toArray) :
    RB (w.alloc (.cells cs T)) (.slice (some ⟨b, 0, none⟩) n n) xs := by
  subst hn hb
  refine ⟨_, _, rfl, Row.new w cs T 1 xs.length (by8 xs) (by simp [by8]) hn' (fun k v hv => ?_)⟩
  rw [hc]; simpa using hv
/-- A literal of slices of bytes in a block of its own. -/
theorem RBB.new (w : World) (b : Nat) (pp : List (List UInt8)) (cs : Array Value) (T : TypeId) (n : Nat) (hb : b = w.heap.size) (hn : n = pp.length) (hn' : n ≤ 9223372036854775807) (hs : cs.size = n)
    (hi : ∀ (i : Nat) xs, pp[i]? = some xs → ∃ u, cs[i]? = some u ∧ RB w u xs) : RBB (w.alloc (.cells cs T)) (.slice (some ⟨b, 0, none⟩) n n) pp := by
  subst hn hb
  refine ⟨_, _, cs.toList, rfl, Row.new w cs T 1 pp.length cs.toList (by simp [hs]) hn' (fun k v hv => by simpa using hv), fun i xs hx => ?_⟩
  obtain ⟨u, hu, hr⟩ := hi i xs hx
  exact ⟨u, by simpa using hu, hr.alloc _⟩
theorem below_drewN {B : Nat} {a w : World} (h : Below B a w) (n : Nat) : Below B a (w.drewN n) := ⟨h.os, h.tape, h.output, h.size, h.block⟩
theorem below_alloc {B : Nat} {a w : World} (h : Below B a w) (o : Obj) (hB : B ≤ a.heap.size) : Below B a (w.alloc o) := h.alloc (Nat.le_trans hB h.size) o
theorem below_after {B : Nat} {a w w' : World} (h : Below B a w) (h' : Below w.heap.size w w') (hB : B ≤ a.heap.size) : Below B a w' := h.trans (h'.mono (Nat.le_trans hB h.size))
theorem RBB.new1 (w : World) (b : Nat) (xs : List UInt8) (u : Value) (T : TypeId) (hb : b = w.heap.size) (hr : RB w u xs) : RBB (w.alloc (.cells #[u] T)) (.slice (some ⟨b, 0, none⟩) 1 1) [xs] :=
  RBB.new w b [xs] #[u] T 1 hb rfl (by omega) rfl (fun i ys hy => by
    match i, hy with
    | 0, hy => simp at hy; subst hy; exact ⟨u, rfl, hr⟩)
theorem RBB.new2 (w : World) (b : Nat) (xs ys : List UInt8) (u v : Value) (T : TypeId) (hb : b = w.heap.size) (hr : RB w u xs) (hs : RB w v ys) : RBB (w.alloc (.cells #[u, v] T)) (.slice (some ⟨b, 0, none⟩) 2 2) [xs, ys] :=
  RBB.new w b [xs, ys] #[u, v] T 2 hb rfl (by omega) rfl (fun i zs hy => by
    match i, hy with
    | 0, hy => simp at hy; subst hy; exact ⟨u, rfl, hr⟩
    | 1, hy => simp at hy; subst hy; exact ⟨v, rfl, hs⟩)
/-- How many elements a slice's value says. -/
def lenV : Value → Nat | .slice _ n _ => n | _ => 0

section
variable {P : Program}
theorem slice_fromZ (t e : TypeId) (kl : IntKind) {i : TypeInfo} (ht : P.underlying t = some (.slice e)) (hi : P.info? e = some i) (size : Nat) (hsz : i.size = size) (A : Option Addr) (n c : Nat) (j : Int) (h0 : 0 ≤ j) (hm : j ≤ n) :
    ∀ W : World, (Instr.slice t (.slice A n c) (some (.int kl j)) none none).run P W = .ok (.slice (if c = j.toNat then A else A.map (·.add (j.toNat * size))) (n - j.toNat) (c - j.toNat)) W := by
  intro W
  have hel : P.elem t = e := by simp [Program.elem, ht]
  have hu : P.underlying t = some (.slice (P.elem t)) := by rw [hel]; exact ht
  rw [run_slice_l W t A n c hu kl j h0 hm, hel]
  simp [sizeOf, typeInfo, hi, hsz, sliced, Result.andThen]
theorem slice_from (t e : TypeId) (kl : IntKind) {i : TypeInfo} (ht : P.underlying t = some (.slice e)) (hi : P.info? e = some i) (size : Nat) (hsz : i.size = size) (A : Option Addr) (n c : Nat) (j : Nat) (hm : j ≤ n) :
    ∀ W : World, (Instr.slice t (.slice A n c) (some (.int kl (j : Int))) none none).run P W = .ok (.slice (if c = j then A else A.map (·.add (j * size))) (n - j) (c - j)) W := by
  intro W
  have hel : P.elem t = e := by simp [Program.elem, ht]
  have hu : P.underlying t = some (.slice (P.elem t)) := by rw [hel]; exact ht
  rw [run_slice_l W t A n c hu kl j (by omega) (by omega), hel]
  simp [sizeOf, typeInfo, hi, hsz, sliced, Result.andThen]
end

/-! ### Rows of the call's own, and append -/
section
variable {P : Program} {w w' : World}
theorem Row.of_own {base : Nat} {e : TypeId} {sz n : Nat} {v : Value} {xs : List Value} (h : w.ownsRow base e sz v n xs) : ∃ A c, v = .slice A n c ∧ Row w sz A n c xs := by
  have h0 := h
  obtain ⟨hl, hv⟩ := h
  rcases hv with ⟨rfl, rfl⟩ | ⟨g, cap, cur, rfl, hb, hg, hn, hc, hs, ht⟩
  · exact ⟨none, 0, rfl, ⟨hl, Nat.le_refl _, by omega, fun k v hk => by
      have : xs = [] := List.eq_nil_of_length_eq_zero (by simpa using hl)
      subst this; simp at hk⟩⟩
  · exact ⟨some ⟨g, 0, none⟩, cap, rfl, ⟨hl, hn, hc, fun k v hk => ⟨_, rfl, h0.cells (g := g) rfl k v hk⟩⟩⟩
theorem RB.of_own {base : Nat} {e : TypeId} {n : Nat} {v : Value} {xs : List UInt8} (hn : n = xs.length) (h : w.ownsRow base e 1 v n (by8 xs)) : RB w v xs := by
  subst hn
  obtain ⟨A, c, e, hr⟩ := Row.of_own h
  exact ⟨A, c, e, hr⟩
theorem grownBy_setCell (w : World) (g i : Nat) (u : Value) : w.grownBy (w.setCell ⟨g, i, none⟩ u) (some g) :=
  ⟨rfl, rfl, rfl, by simp [World.setCell], fun k _ hne => Below.heap_setCell w ⟨g, i, none⟩ u k (fun e => hne (by rw [e]))⟩
theorem size_setCell (w : World) (a : Addr) (u : Value) : (w.setCell a u).heap.size = w.heap.size := by simp [World.setCell]
theorem own_nil (w : World) (base : Nat) (e : TypeId) (sz : Nat) : w.ownsRow base e sz (.slice none 0 0) 0 [] := World.ownsRow_nil w base e sz
theorem own_below {base : Nat} {e : TypeId} {sz n : Nat} {v : Value} {xs : List Value} (h : w.ownsRow base e sz v n xs) (hb : Below w.heap.size w w') : w'.ownsRow base e sz v n xs := by
  obtain ⟨h1, h2⟩ := h
  refine ⟨h1, ?_⟩
  rcases h2 with h2 | ⟨g, cap, cur, rfl, hg, hh, r⟩
  · exact .inl h2
  · exact .inr ⟨g, cap, cur, rfl, hg, (hb.block g (Array.getElem?_eq_some_iff.1 hh).1).trans hh, r⟩
theorem own_drewN {base : Nat} {e : TypeId} {sz n : Nat} {v : Value} {xs : List Value} (h : w.ownsRow base e sz v n xs) (k : Nat) : (w.drewN k).ownsRow base e sz v n xs := h
theorem own_ge {base : Nat} {e : TypeId} {sz n : Nat} {v : Value} {xs : List Value} (h : w.ownsRow base e sz v n xs) : ∀ k, v.ownBlock = some k → base ≤ k := fun k hk => (h.lt k hk).1
theorem below_grown {B : Nat} {a w w1 : World} {base : Nat} {e : TypeId} {sz n : Nat} {v : Value} {xs : List Value} (hb : Below B a w) (h : w.ownsRow base e sz v n xs) (hg : w.grownBy w1 v.ownBlock) (hB : B ≤ base) (hB' : B ≤ a.heap.size) : Below B a w1 :=
  hb.grown hg (Nat.le_trans hB' hb.size) (fun k hk => Nat.le_trans hB (own_ge h k hk))
theorem RB.grown {base : Nat} {e : TypeId} {sz n : Nat} {v u : Value} {xs : List Value} {ys : List UInt8} (hr : RB w u ys) (h : w.ownsRow base e sz v n xs) (hg : w.grownBy w' v.ownBlock) (hne : ∀ A m c, u = .slice (some A) m c → 0 < m → A.block < base) : RB w' u ys := by
  obtain ⟨A, c, rfl, r⟩ := hr
  refine ⟨A, c, rfl, r.len, r.cap, r.top, fun k x hx => ?_⟩
  obtain ⟨ad, rfl, hc⟩ := r.at_ k x hx
  refine ⟨ad, rfl, hg.cell hc (fun hk => ?_)⟩
  have h1 := hne ad _ _ rfl (by have := (List.getElem?_eq_some_iff.1 hx).1; rw [by8_length] at this; omega)
  have h2 := own_ge h _ hk.symm
  rw [add_block] at h2
  omega
theorem RB.lt {v : Value} {ys : List UInt8} (hr : RB w v ys) : ∀ A m c, v = .slice (some A) m c → 0 < m → A.block < w.heap.size := by
  intro A m c hv hm
  obtain ⟨A', c', e, r⟩ := hr
  rw [hv] at e
  injection e with e1 e2 e3
  subst e1 e2
  obtain ⟨ad, e4, hc⟩ := r.at_ 0 _ (List.getElem?_eq_getElem (by rw [by8_length]; exact hm))
  injection e4 with e4
  subst e4
  have := World.block_lt_of_cell? w _ hc
  rwa [add_block] at this

theorem run_append_of_nil (base : Nat) (t ty e : TypeId) (i : TypeInfo) (size : Nat) (ht : P.underlying t = some (.slice e)) (hi : P.info? e = some i)
    (v : Value) (n : Nat) (xs : List Value) (hown : w.ownsRow base e size v n xs) (c : Nat) : (Builtin.append_ #[t, t] ty #[v, .slice none 0 c]).run P w = .ok v w := by
  rcases hown.2 with ⟨rfl, rfl⟩ | ⟨g, cap, cur, rfl, _, _, hnc, _⟩
  · simp [Builtin.append_, run_underlying ht, sizeOf, typeInfo, hi, Builtin.lenOf, Builtin.firstCells]
  · simp [Builtin.append_, run_underlying ht, sizeOf, typeInfo, hi, Builtin.lenOf, Builtin.firstCells, hnc, storeCells]

/-- append(v, src...), v a row of the call's own, src any row that is read. -/
theorem run_append_row (w : World) (base : Nat) (t ty e : TypeId) (i : TypeInfo) (z : Value) (size bytes : Nat) (ht : P.underlying t = some (.slice e)) (hi : P.info? e = some i) (hz : i.zero = some z)
    (hsize : i.size = size) (hby : i.bytes = bytes) (hzs : z.cells.size = size) (hsz : 0 < size)
    (v : Value) (n : Nat) (xs : List Value) (hown : w.ownsRow base e size v n xs)
    (A : Option Addr) (m c : Nat) (news : List Value) (hr : Row w size A m c news) (h1 : ∀ u ∈ news, u.oneCell' = true)
    (h63 : n + m ≤ maxLen) (hbytes : (n + m) * bytes ≤ 140737488355328) (hbase : base ≤ w.heap.size) :
    ∃ v' w', (Builtin.append_ #[t, t] ty #[v, .slice A m c]).run P w = .ok v' w' ∧ w'.ownsRow base e size v' (n + m) (xs ++ news) ∧ w.grownBy w' v.ownBlock ∧
      (v'.ownBlock = v.ownBlock ∨ v'.ownBlock = some w.heap.size) := by
  rcases A with _ | ad
  · have hn : news = [] := by
      rcases news with _ | ⟨x, l⟩
      · rfl
      · obtain ⟨ad, h, _⟩ := hr.at_ 0 x rfl
        cases h
    subst hn
    have hm : m = 0 := by
      have := hr.len
      rcases Nat.eq_zero_or_pos m with h0 | h0
      · exact h0
      · have := Nat.mul_pos h0 hsz; simp at *; omega
    subst hm
    exact ⟨v, w, run_append_of_nil base t ty e i size ht hi v n xs hown c, by simpa using hown, World.grownBy.refl w _, .inl rfl⟩
  · obtain ⟨v', w', hrun, h2, h3, _, h5⟩ := run_append_own_at (P := P) w base t ty e i z size bytes ht hi hz hsize hby hzs hsz v n xs hown ad m c news hr.len (fun j u hu => hr.get j u hu) h1 h63 hbytes hbase
    exact ⟨v', w', hrun, h2, h3, h5⟩

theorem wp_append_row {o : Oper} {a : Act} {K : Act → World → Prop} {Q : Exit → Act → World → Prop} (w : World) (s x : Operand) (t : TypeId)
    (ho : o.op = .call { callee := .builtin .append, args := #[s, x], argTypes := #[t, t] })
    (base : Nat) (e : TypeId) (i : TypeInfo) (z : Value) (size bytes : Nat) (ht : P.underlying t = some (.slice e)) (hi : P.info? e = some i) (hz : i.zero = some z)
    (hsize : i.size = size) (hby : i.bytes = bytes) (hzs : z.cells.size = size) (hsz : 0 < size)
    (v : Value) (n : Nat) (xs : List Value) (hs : a.eval s = v) (hown : w.ownsRow base e size v n xs)
    (A : Option Addr) (m c : Nat) (news : List Value) (hx : a.eval x = .slice A m c) (hr : Row w size A m c news) (h1 : ∀ u ∈ news, u.oneCell' = true)
    (h63 : n + m ≤ maxLen) (hbytes : (n + m) * bytes ≤ 140737488355328) (hbase : base ≤ w.heap.size)
    (h : ∀ v' w', w'.ownsRow base e size v' (n + m) (xs ++ news) → w.grownBy w' v.ownBlock → (v'.ownBlock = v.ownBlock ∨ v'.ownBlock = some w.heap.size) → K (a.put o.dst v') w') : o.wp P a w K Q := by
  obtain ⟨v', w', hrun, h2, h3, h4⟩ := run_append_row (P := P) w base t o.type e i z size bytes ht hi hz hsize hby hzs hsz v n xs hown A m c news hr h1 h63 hbytes hbase
  unfold Oper.wp execOp
  simp only [ho, resolve, invoke, builtin, Sem.run_bind, Sem.run_pure, Result.andThen_ok, List.map_toArray, List.map_cons, List.map_nil, hs, hx, hrun]
  exact h v' w' h2 h3 h4

theorem wpList_append_row {ops : Array Oper} {rest : List Oper} {o : Oper} {a : Act} {Q : Exit → Act → World → Prop} (w : World) (hgd : o.guard = none) (s x : Operand) (t : TypeId)
    (ho : o.op = .call { callee := .builtin .append, args := #[s, x], argTypes := #[t, t] })
    (base : Nat) (e : TypeId) (i : TypeInfo) (z : Value) (size bytes : Nat) (ht : P.underlying t = some (.slice e)) (hi : P.info? e = some i) (hz : i.zero = some z)
    (hsize : i.size = size) (hby : i.bytes = bytes) (hzs : z.cells.size = size) (hsz : 0 < size)
    (v : Value) (n : Nat) (xs : List Value) (hs : a.eval s = v) (hown : w.ownsRow base e size v n xs)
    (A : Option Addr) (m c : Nat) (news : List Value) (hx : a.eval x = .slice A m c) (hr : Row w size A m c news) (h1 : ∀ u ∈ news, u.oneCell' = true)
    (h63 : n + m ≤ maxLen) (hbytes : (n + m) * bytes ≤ 140737488355328) (hbase : base ≤ w.heap.size)
    (h : ∀ v' w', w'.ownsRow base e size v' (n + m) (xs ++ news) → w.grownBy w' v.ownBlock → (v'.ownBlock = v.ownBlock ∨ v'.ownBlock = some w.heap.size) → wpList P ops Q rest (a.put o.dst v') w') : wpList P ops Q (o :: rest) a w :=
  wpList_plain hgd fun _ hK => wp_append_row w s x t ho base e i z size bytes ht hi hz hsize hby hzs hsz v n xs hs hown A m c news hx hr h1 h63 hbytes hbase fun v' w' h2 h3 h4 => hK _ _ (h v' w' h2 h3 h4)
/-- The same at an operation whose guard says yes (or that has none). -/
theorem step_append_row {ops : Array Oper} {o : Oper} {a : Act} {K : Act → World → Prop} {Q : Exit → Act → World → Prop} {E : Prop} (w : World) (hw : Region.wanted o (yielded ops a.tmps) = true) (s x : Operand) (t : TypeId)
    (ho : o.op = .call { callee := .builtin .append, args := #[s, x], argTypes := #[t, t] })
    (base : Nat) (e : TypeId) (i : TypeInfo) (z : Value) (size bytes : Nat) (ht : P.underlying t = some (.slice e)) (hi : P.info? e = some i) (hz : i.zero = some z)
    (hsize : i.size = size) (hby : i.bytes = bytes) (hzs : z.cells.size = size) (hsz : 0 < size)
    (v : Value) (n : Nat) (xs : List Value) (hs : a.eval s = v) (hown : w.ownsRow base e size v n xs)
    (A : Option Addr) (m c : Nat) (news : List Value) (hx : a.eval x = .slice A m c) (hr : Row w size A m c news) (h1 : ∀ u ∈ news, u.oneCell' = true)
    (h63 : n + m ≤ maxLen) (hbytes : (n + m) * bytes ≤ 140737488355328) (hbase : base ≤ w.heap.size)
    (h : ∀ v' w', w'.ownsRow base e size v' (n + m) (xs ++ news) → w.grownBy w' v.ownBlock → (v'.ownBlock = v.ownBlock ∨ v'.ownBlock = some w.heap.size) → K (a.put o.dst v') w') :
    if Region.wanted o (yielded ops a.tmps) = true then Oper.wp P o a w K Q else E := by
  rw [if_pos hw]
  exact wp_append_row w s x t ho base e i z size bytes ht hi hz hsize hby hzs hsz v n xs hs hown A m c news hx hr h1 h63 hbytes hbase h
theorem wpList_append_g {ops : Array Oper} {rest : List Oper} {o : Oper} {a : Act} {Q : Exit → Act → World → Prop} (w : World) (hw : Region.wanted o (yielded ops a.tmps) = true) (s x : Operand) (t : TypeId)
    (ho : o.op = .call { callee := .builtin .append, args := #[s, x], argTypes := #[t, t] })
    (base : Nat) (e : TypeId) (i : TypeInfo) (z : Value) (size bytes : Nat) (ht : P.underlying t = some (.slice e)) (hi : P.info? e = some i) (hz : i.zero = some z)
    (hsize : i.size = size) (hby : i.bytes = bytes) (hzs : z.cells.size = size) (hsz : 0 < size)
    (v : Value) (n : Nat) (xs : List Value) (hs : a.eval s = v) (hown : w.ownsRow base e size v n xs)
    (A : Option Addr) (m c : Nat) (news : List Value) (hx : a.eval x = .slice A m c) (hr : Row w size A m c news) (h1 : ∀ u ∈ news, u.oneCell' = true)
    (h63 : n + m ≤ maxLen) (hbytes : (n + m) * bytes ≤ 140737488355328) (hbase : base ≤ w.heap.size)
    (h : ∀ v' w', w'.ownsRow base e size v' (n + m) (xs ++ news) → w.grownBy w' v.ownBlock → (v'.ownBlock = v.ownBlock ∨ v'.ownBlock = some w.heap.size) → wpList P ops Q rest (a.put o.dst v') w') : wpList P ops Q (o :: rest) a w :=
  wpList_step fun K hK => step_append_row w hw s x t ho base e i z size bytes ht hi hz hsize hby hzs hsz v n xs hs hown A m c news hx hr h1 h63 hbytes hbase fun v' w' h2 h3 h4 => hK _ _ (h v' w' h2 h3 h4)
theorem one_by8 (xs : List UInt8) : ∀ u ∈ by8 xs, u.oneCell' = true := by
  intro u hu
  obtain ⟨x, _, rfl⟩ := List.mem_map.1 hu
  rfl
end

/-! ### A struct or array read out of memory, its cells known one by one -/
section
variable {P : Program}
theorem run_loadVar_at (w : World) (ad : Addr) (ty : TypeId) (cs : Array Value) (d : TypeDesc) (hc : ∀ (j : Nat) u, cs[j]? = some u → w.cell? (ad.add j) = some u)
    (hu : P.underlying ty = some d) (hd : (match d with | .struct _ | .array _ _ => true | _ => false) = true) (hi : (P.info? ty).map (·.size) = some cs.size) :
    (loadVar ty ad).run P w = .ok (.agg cs) w := by
  have hl : (loadCells ad cs.toList.length).run P w = .ok cs.toList.toArray w :=
    run_loadCells_list (P := P) w ad cs.toList (fun j v hv => hc j v (by simpa using hv))
  cases hq : P.info? ty with
  | none => simp [hq] at hi
  | some i =>
    have hs : i.size = cs.size := by simpa [hq] using hi
    have hagg : (isAgg ty).run P w = .ok true w := by
      unfold isAgg
      rw [Sem.run_bind, run_underlying hu w]
      cases d <;> simp_all
    simp only [Array.length_toList, Array.toArray_toList] at hl
    simp [loadVar, Sem.run_bind, hagg, sizeOf, typeInfo, hq, hs, hl]
theorem wp_load_at {o : Oper} {a : Act} {w : World} {K : Act → World → Prop} {Q : Exit → Act → World → Prop} (ty : TypeId) (x : Operand) (ho : o.op = .load ty x)
    (ad : Addr) (hx : a.eval x = .pointer (some ad)) (cs : Array Value) (d : TypeDesc) (hc : ∀ (j : Nat) u, cs[j]? = some u → w.cell? (ad.add j) = some u)
    (hu : P.underlying ty = some d) (hd : (match d with | .struct _ | .array _ _ => true | _ => false) = true) (hi : (P.info? ty).map (·.size) = some cs.size)
    (h : K (a.put o.dst (.agg cs)) w) : o.wp P a w K Q := by
  unfold Oper.wp execOp
  simp only [ho, hx, Instr.loadAt, Instr.sureAddr, Sem.run_bind, Sem.run_pure, Result.andThen_ok, run_loadVar_at w ad ty cs d hc hu hd hi]
  exact h
theorem wpList_load_at {ops : Array Oper} {rest : List Oper} {o : Oper} {a : Act} {w : World} {Q : Exit → Act → World → Prop} (ty : TypeId) (x : Operand) (hgd : o.guard = none) (ho : o.op = .load ty x)
    (ad : Addr) (hx : a.eval x = .pointer (some ad)) (cs : Array Value) (d : TypeDesc) (hc : ∀ (j : Nat) u, cs[j]? = some u → w.cell? (ad.add j) = some u)
    (hu : P.underlying ty = some d) (hd : (match d with | .struct _ | .array _ _ => true | _ => false) = true) (hi : (P.info? ty).map (·.size) = some cs.size)
    (h : wpList P ops Q rest (a.put o.dst (.agg cs)) w) : wpList P ops Q (o :: rest) a w :=
  wpList_plain hgd fun _ hK => wp_load_at ty x ho ad hx cs d hc hu hd hi (hK _ _ h)
/-- A part of a block that is known whole. -/
theorem cells_part {w : World} {b o : Nat} {cs ds : Array Value} {T : TypeId} {fz : Nat × Nat} (hb : w.heap[b]? = some (.cells cs T fz)) (hp : ∀ (j : Nat) u, ds[j]? = some u → cs[o + j]? = some u) :
    ∀ (j : Nat) u, ds[j]? = some u → w.cell? ((⟨b, o, none⟩ : Addr).add j) = some u := by
  intro j u hu
  have : (⟨b, o, none⟩ : Addr).add j = ⟨b, o + j, none⟩ := by unfold Addr.add; split <;> simp_all
  rw [this, cell_of_row w b (o + j) cs T fz hb]
  exact hp j u hu
end
/-- Two blocks laid one behind the other. -/
theorem two_blocks (w : World) (o1 o2 : Obj) : ∃ W, W = (w.alloc o1).alloc o2 ∧ W.heap[w.heap.size]? = some o1 ∧ W.heap[w.heap.size + 1]? = some o2 ∧ Below w.heap.size w W ∧ W.heap.size = w.heap.size + 2 := by
  refine ⟨_, rfl, ?_, ?_, below_alloc (below_alloc (Below.refl _ _) _ (Nat.le_refl _)) _ (Nat.le_refl _), by simp⟩
  · rw [Below.heap_alloc _ _ _ (by simp)]; exact heap_alloc_new w _
  · have := heap_alloc_new (w.alloc o1) o2
    simpa using this
end Go.Proofs.Ythnidgiogjehkaa
