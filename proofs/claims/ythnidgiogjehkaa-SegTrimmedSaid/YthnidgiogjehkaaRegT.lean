/- Regions that draw their order, whose calls may make memory, and whose last operation writes: one walk of the text's order serves every order. -/
import Derived.Test.YthnidgiogjehkaaReg
namespace Go.Proofs.Ythnidgiogjehkaa
set_option linter.unusedVariables false
set_option linter.unusedSimpArgs false
open Go.RowKit

/-- Every wait of a region points back; guards of all but the last point at others than it; each operation but the last has one behind it that waits for it. -/
def backB (l : List Oper) : Bool :=
  (List.range l.length).all fun i => ((l[i]?).map fun o => o.after.all fun e => !Region.binds .any e || decide (e.on < i)).getD false
def guardsB (hd : List Oper) : Bool := hd.all fun o => match o.guard with | none => true | some (j, _) => decide (j < hd.length)
def awaitedB (l : List Oper) (n : Nat) : Bool :=
  (List.range n).all fun i => (List.range (n + 1)).any fun j => decide (i < j) && ((l[j]?).map fun o => o.after.any fun e => Region.binds .any e && e.on == i).getD false

section
variable {P : Program} {C : World → Prop} {hd : List Oper} {o : Oper} {Q : Exit → Act → World → Prop} {L : Array Bool}
theorem push_get (L : Array Bool) (j : Nat) (d : Bool) (h : j < L.size) : (L.push false).getD j d = L.getD j d := by
  simp [Array.getElem?_push, h, Nat.ne_of_lt h]
theorem getD_replicate_f (n j : Nat) : (Array.replicate n false).getD j false = false := by
  rcases Nat.lt_or_ge j n with h | h
  · simp [h]
  · simp [h]
theorem push_last (L : Array Bool) (d : Bool) : (L.push false).getD L.size d = false := by simp
theorem push_set (L : Array Bool) (i : Nat) (h : i < L.size) : (L.push false).setIfInBounds i true = (L.setIfInBounds i true).push false := by
  apply Array.ext
  · simp
  · intro k h1 h2
    simp only [Array.size_setIfInBounds, Array.size_push] at h1 h2
    by_cases hk : k = L.size
    · subst hk
      rw [Array.getElem_setIfInBounds_ne (by simp) (by omega)]
      simp [Array.getElem_push]
    · by_cases hik : i = k
      · subst hik
        simp [Array.getElem_push, h]
      · rw [Array.getElem_setIfInBounds_ne (by simpa using h1) hik]
        simp only [Array.getElem_push]
        have : k < L.size := by omega
        simp [this, Array.getElem_setIfInBounds_ne, hik]
/-- What is listed has all that it waits for listed. -/
structure Shut (hd : List Oper) (L : Array Bool) : Prop where
  size : L.size = hd.length
  shut : ∀ (j : Nat) oj, hd[j]? = some oj → L.getD j false = true → ∀ e ∈ oj.after, Region.binds .any e = true → L.getD e.on false = true
def AllIn (n : Nat) (L : Array Bool) : Prop := ∀ i, i < n → L.getD i false = true
theorem ops_hd (i : Nat) (h : i < hd.length) : ((hd ++ [o]).toArray)[i]? = hd.toArray[i]? := by simp [List.getElem?_append_left h]
theorem ops_last : ((hd ++ [o]).toArray)[hd.length]? = some o := by simp
theorem back_spec {l : List Oper} (hb : backB l = true) (i : Nat) (oi : Oper) (h : l[i]? = some oi) (e : Edge) (he : e ∈ oi.after) (hx : Region.binds .any e = true) : e.on < i := by
  have hi := (List.getElem?_eq_some_iff.1 h).1
  have h1 := List.all_eq_true.1 hb i (List.mem_range.2 hi)
  rw [h] at h1
  simp only [Option.map_some, Option.getD_some] at h1
  have h2 := Array.all_eq_true_iff_forall_mem.1 h1 e he
  simpa [hx] using h2
theorem in_ready {ops : Array Oper} {i : Nat} : i ∈ Region.ready .any ops L → i < ops.size := fun h => by
  obtain ⟨_, oi, h1, _⟩ := mem_ready.1 h
  exact (Array.getElem?_eq_some_iff.1 h1).1
theorem ready_hd (hb : backB (hd ++ [o]) = true) (hz : L.size = hd.length) (i : Nat) (hi : i < hd.length) : i ∈ Region.ready .any (hd ++ [o]).toArray (L.push false) ↔ i ∈ Region.ready .any hd.toArray L := by
  rw [mem_ready, mem_ready, ops_hd i hi, push_get L i true (by omega)]
  constructor
  · rintro ⟨h1, oi, h2, h3⟩
    refine ⟨h1, oi, h2, fun e he hx => ?_⟩
    have := back_spec hb i oi (by simpa [List.getElem?_append_left hi] using h2) e he hx
    rw [← push_get L e.on false (by omega)]
    exact h3 e he hx
  · rintro ⟨h1, oi, h2, h3⟩
    refine ⟨h1, oi, h2, fun e he hx => ?_⟩
    have := back_spec hb i oi (by simpa [List.getElem?_append_left hi] using h2) e he hx
    rw [push_get L e.on false (by omega)]
    exact h3 e he hx
theorem getD_of_false {i : Nat} (hi : i < L.size) (h : ¬ L.getD i false = true) : L.getD i true = false := by
  simp [hi] at h ⊢; exact h
/-- Where none of the head is ready, all are in. -/
theorem all_of_none (hb : backB (hd ++ [o]) = true) (hs : L.size = hd.length) (hr : Region.ready .any hd.toArray L = []) : AllIn hd.length L := by
  intro i
  induction i using Nat.strongRecOn with
  | _ i ih =>
    intro hi
    by_cases h : L.getD i false = true
    · exact h
    · have : i ∈ Region.ready .any hd.toArray L := mem_ready.2 ⟨getD_of_false (by omega) h, hd[i], by simp [List.getElem?_eq_getElem hi], fun e he hx => by
        have := back_spec hb i hd[i] (by rw [List.getElem?_append_left hi]; exact List.getElem?_eq_getElem hi) e he hx
        exact ih e.on this (by omega)⟩
      rw [hr] at this
      cases this
/-- Where the last is ready, all of the head are in. -/
theorem all_of_last (hw : awaitedB (hd ++ [o]) hd.length = true) (hs : Shut hd L) (hr : hd.length ∈ Region.ready .any (hd ++ [o]).toArray (L.push false)) : AllIn hd.length L := by
  obtain ⟨_, ol, h1, h2⟩ := mem_ready.1 hr
  rw [ops_last] at h1
  injection h1 with h1
  subst h1
  have key : ∀ d i, hd.length - i = d → i < hd.length → L.getD i false = true := by
    intro d
    induction d using Nat.strongRecOn with
    | _ d ih =>
      intro i hd' hi
      have h3 := List.all_eq_true.1 hw i (List.mem_range.2 hi)
      obtain ⟨j, hj, h4⟩ := List.any_eq_true.1 h3
      have hjn := List.mem_range.1 hj
      simp only [Bool.and_eq_true, decide_eq_true_eq] at h4
      obtain ⟨hij, h4⟩ := h4
      by_cases hjl : j = hd.length
      · subst hjl
        simp only [List.getElem?_append_right (Nat.le_refl _), Nat.sub_self, List.getElem?_cons_zero, Option.map_some, Option.getD_some] at h4
        obtain ⟨e, he, h5⟩ := Array.any_eq_true'.1 h4
        simp only [Bool.and_eq_true, beq_iff_eq] at h5
        have := h2 e he h5.1
        rw [h5.2, push_get L i false (by rw [hs.size]; exact hi)] at this
        exact this
      · have hjl' : j < hd.length := by omega
        rw [List.getElem?_append_left hjl', List.getElem?_eq_getElem hjl'] at h4
        simp only [Option.map_some, Option.getD_some] at h4
        obtain ⟨e, he, h5⟩ := Array.any_eq_true'.1 h4
        simp only [Bool.and_eq_true, beq_iff_eq] at h5
        have h6 := ih (hd.length - j) (by omega) j rfl hjl'
        have := hs.shut j _ (List.getElem?_eq_getElem hjl') h6 e he h5.1
        rwa [h5.2] at this
  exact fun i hi => key _ i rfl hi
theorem Shut.set {i : Nat} (hs : Shut hd L) (hr : i ∈ Region.ready .any hd.toArray L) : Shut hd (L.setIfInBounds i true) := by
  obtain ⟨_, oi, h1, h2⟩ := mem_ready.1 hr
  refine ⟨by simp [hs.size], fun j oj hj hl e he hx => ?_⟩
  by_cases hij : i = j
  · subst hij
    have : oj = oi := by
      rw [show hd.toArray[i]? = hd[i]? by simp] at h1
      exact Option.some.inj (hj.symm.trans h1)
    subst this
    exact getD_set_true (h2 e he hx)
  · rw [getD_set_ne false hij] at hl
    exact getD_set_true (hs.shut j oj hj hl e he hx)
theorem wanted_hd (hg : guardsB hd = true) (oi : Oper) (hm : oi ∈ hd) (tmps : Array Value) : Region.wanted oi (yielded (hd ++ [o]).toArray tmps) = Region.wanted oi (yielded hd.toArray tmps) := by
  have h := List.all_eq_true.1 hg oi hm
  unfold Region.wanted
  cases hgd : oi.guard with
  | none => rfl
  | some p =>
    obtain ⟨j, b⟩ := p
    rw [hgd] at h
    simp only [decide_eq_true_eq] at h
    show (yielded _ tmps j == some b) = (yielded _ tmps j == some b)
    unfold yielded
    rw [ops_hd j h]
theorem wpOp_hd (hg : guardsB hd = true) {i : Nat} (hi : i < hd.length) {K : Act → World → Prop} {a : Act} {w : World} (h : wpOp P hd.toArray Q i K a w) : wpOp P (hd ++ [o]).toArray Q i K a w := by
  unfold wpOp at *
  rw [ops_hd i hi]
  have h1 : hd.toArray[i]? = some hd[i] := by simp [List.getElem?_eq_getElem hi]
  rw [h1] at h ⊢
  simp only at h ⊢
  rw [wanted_hd hg _ (List.getElem_mem hi)]
  exact h
theorem any_all (hz : L.size = hd.length) (hA : AllIn hd.length L) : Region.ready .any (hd ++ [o]).toArray ((L.push false).setIfInBounds hd.length true) = [] := by
  apply List.eq_nil_iff_forall_not_mem.2
  intro i hi
  have hlt := in_ready hi
  obtain ⟨h1, _⟩ := mem_ready.1 hi
  simp at hlt
  by_cases hil : i = hd.length
  · subst hil
    have : ((L.push false).setIfInBounds hd.length true).getD hd.length true = true := by simp [hz]
    rw [this] at h1; cases h1
  · rw [getD_set_ne true (fun h => hil h.symm), push_get L i true (by omega)] at h1
    have := hA i (by omega)
    have hi' : i < L.size := by omega
    simp [hi'] at this h1
    rw [this] at h1; cases h1
theorem any_last (hz : L.size = hd.length) (hA : AllIn hd.length L) (hb : backB (hd ++ [o]) = true) {a : Act} {w : World} (h : wpList P (hd ++ [o]).toArray Q [o] a w) : ∀ k, wpAny P .any (hd ++ [o]).toArray Q (k + 1) (L.push false) a w := by
  intro k
  have hn : hd.length ∈ Region.ready .any (hd ++ [o]).toArray (L.push false) := by
    refine mem_ready.2 ⟨by rw [← hz]; exact push_last L true, o, ops_last, fun e he hx => ?_⟩
    have := back_spec hb hd.length o (by simp) e he hx
    rw [push_get L e.on false (by omega)]
    exact hA _ this
  refine ⟨fun h0 => (by rw [h0] at hn; cases hn), fun i hi => ?_⟩
  have hlt := in_ready hi
  simp at hlt
  have hin : i = hd.length := by
    by_cases hil : i = hd.length
    · exact hil
    · obtain ⟨h1, _⟩ := mem_ready.1 hi
      have hi' : i < L.size := by omega
      rw [push_get L i true hi'] at h1
      have := hA i (by omega)
      simp [hi'] at this h1
      rw [this] at h1; cases h1
  subst hin
  have hw : wpOp P (hd ++ [o]).toArray Q hd.length (wpList P (hd ++ [o]).toArray Q []) a w := by
    unfold wpOp
    rw [ops_last]
    exact h
  refine wpOp_mono (fun a' w' h' => ?_) hw
  have h' : Q .normal a' w' := h'
  have hr := any_all (o := o) hz hA
  cases k with
  | zero => exact ⟨hr, h'⟩
  | succ k => exact ⟨fun _ => h', fun i hi => (by rw [hr] at hi; cases hi)⟩
theorem any_tail (hb : backB (hd ++ [o]) = true) (hg : guardsB hd = true) (hw : awaitedB (hd ++ [o]) hd.length = true) {K : Act → Prop} (hK : ∀ a w, C w → K a → wpList P (hd ++ [o]).toArray Q [o] a w) :
    ∀ (f : Nat) (L : Array Bool) (a : Act) (w : World), Shut hd L → C w → wpAnyQ P .any hd.toArray C K f L a → wpAny P .any (hd ++ [o]).toArray Q (f + 1) (L.push false) a w
  | 0, L, a, w, hs, hc, h => any_last hs.size (all_of_none hb hs.size h.1) hb (hK a w hc h.2) 0
  | f + 1, L, a, w, hs, hc, h => by
    by_cases hr : Region.ready .any hd.toArray L = []
    · exact any_last hs.size (all_of_none hb hs.size hr) hb (hK a w hc (h.1 hr)) (f + 1)
    · refine ⟨fun h0 => ?_, fun i hi => ?_⟩
      · obtain ⟨i, hi⟩ := List.exists_mem_of_ne_nil _ hr
        have hlt := in_ready hi
        have := (ready_hd hb hs.size i (by simpa using hlt)).2 hi
        rw [h0] at this; cases this
      · have hlt := in_ready hi
        simp at hlt
        by_cases hil : i = hd.length
        · subst hil
          have hA := all_of_last hw hs hi
          exfalso
          apply hr
          apply List.eq_nil_iff_forall_not_mem.2
          intro j hj
          have hjl := in_ready hj
          obtain ⟨h1, _⟩ := mem_ready.1 hj
          have hj' : j < L.size := by rw [hs.size]; simpa using hjl
          have := hA j (by simpa using hjl)
          simp [hj'] at this h1
          rw [this] at h1; cases h1
        · have hi' : i < hd.length := by omega
          have hir := (ready_hd hb hs.size i hi').1 hi
          rw [push_set L i (by rw [hs.size]; exact hi')]
          exact wpOp_hd hg hi' (wpOp_of_qOp hc (fun a' w' hc' hk => any_tail hb hg hw hK f _ a' w' (hs.set hir) hc' hk) (h.2 i hir))
end
section
variable {P : Program} {w : World}
/-- A region whose last operation writes (n: how many stand ahead of it). -/
theorem wp_region_tail {id : Nat} {Q : Exit → Act → World → Prop} {a : Act} {hd : List Oper} {o : Oper} {l : List Oper} (B : Nat) (hB : B ≤ w.heap.size) (hl : l = hd ++ [o]) (hm : P.follows .mixedOrders = true) (hb : backB (hd ++ [o]) = true) (hg : guardsB hd = true) (hw : awaitedB (hd ++ [o]) hd.length = true) (hL : Region.lexB .any hd.toArray = true)
    (h : wpQuiet P hd.toArray (fun w' => ∃ x : Later B w, w' = x.wd) (fun a' => ∀ w', (∃ x : Later B w, w' = x.wd) → wpList P (hd ++ [o]).toArray Q [o] a' w') hd a) : (Code.region id l.toArray true).wp P Q a w := by
  subst hl
  simp only [Region.lexB, Bool.and_eq_true] at hL
  refine wp_region_any hm ?_
  have h1 := wpAnyQ_lex (C := fun w' => ∃ x : Later B w, w' = x.wd) (md := .any) hL.1 hd 0 (Array.replicate hd.length false) a (by simp) (by simpa using hL.2) h
  have h2 := any_tail (o := o) (Q := Q) hb hg hw (fun a w hc hk => hk w hc) hd.length (Array.replicate hd.length false) a { w with drawn := w.drawn + 1 }
    ⟨by simp, fun j oj _ hj => by rw [getD_replicate_f] at hj; cases hj⟩ ⟨⟨_, below_drewN (Below.refl B w) 1⟩, rfl⟩ h1
  have e : (Array.replicate hd.length false).push false = Array.replicate (hd ++ [o]).toArray.size false := by simp [Array.replicate_succ]
  rw [e] at h2
  simpa using h2
end
end Go.Proofs.Ythnidgiogjehkaa
