/- Options in plain words: what bytes are parsed as. Options in plain words: what is parsed may be; what is laid is parsed as it. -/
import Derived.Test.YthnidgiogjehkaaMay12
import Derived.Test.YthnidgiogjehkaaOptZ
import Derived.Test.YthnidgiogjehkaaSamP
namespace Go.Proofs.Ythnidgiogjehkaa
set_option linter.unusedVariables false
set_option linter.unusedSimpArgs false
open Go.RowKit

def sizesI (k : UInt8) : Int := if k = 2 then 4 else if k = 3 then 3 else if k = 4 then 2 else if k = 8 then 10 else if k = 29 then 16 else if k = 5 then 0 else -1
def rightO (k : UInt8) (n : Nat) : Bool := if n < 2 then false else if 0 < sizesI k then decide ((n : Int) = sizesI k) else if sizesI k = 0 then decide (n % 8 = 2) && decide (2 < n) && decide (n ≤ 34) else true
def blocksO : Nat → List UInt8 → List (Nat × Nat)
  | 0, _ => []
  | n + 1, xs => (be (xs.take 4), be ((xs.drop 4).take 4)) :: blocksO n (xs.drop 8)
/-- Options with one more, of its bytes behind the first two. -/
def takeO (o : OptM) (k : UInt8) (xs : List UInt8) : OptM :=
  if k = 2 then { o with hasMSS := true, mss := be (xs.take 2) }
  else if k = 3 then { o with hasScale := true, scale := min (be (xs.take 1)) 14 }
  else if k = 4 then { o with sackOK := true }
  else if k = 8 then { o with hasTime := true, val := be (xs.take 4), echo := be ((xs.drop 4).take 4) }
  else if k = 29 then { o with hasAO := true, key := be (xs.take 1), next := be ((xs.drop 1).take 1), mac := (xs.drop 2).take 12 }
  else if k = 5 then { o with sacks := o.sacks ++ blocksO (xs.length / 8) xs }
  else o
/-- What one option does: none, if it is cut off. -/
def oneO (o : OptM) (met : List Bool) : List UInt8 → Option (Bool × Nat × OptM × List Bool × List UInt8)
  | [] => none
  | k :: ys =>
    if decide (k = 0) || decide (k = 1) then some (decide (k = 1), 0, o, met, ys)
    else match ys with
      | [] => none
      | n :: zs =>
        if !rightO k n.toNat then some (false, 3, o, met, zs)
        else if decide (zs.length < n.toNat - 2) then none
        else if decide (0 ≤ sizesI k) && met.getD k.toNat false then some (false, 7, o, met, zs.drop (n.toNat - 2))
        else some (true, 0, takeO o k (zs.take (n.toNat - 2)), met.set k.toNat true, zs.drop (n.toNat - 2))
def parseL : Nat → OptM → List Bool → List UInt8 → Option (Nat × OptM)
  | 0, o, _, _ => some (0, o)
  | f + 1, o, met, xs =>
    if xs = [] then some (0, o)
    else match oneO o met xs with
      | none => none
      | some (more, e, o', met', ys) => if more && e == 0 then parseL f o' met' ys else some (e, o')
theorem oneO_short {o o' : OptM} {met met' : List Bool} {xs ys : List UInt8} {m : Bool} {e : Nat} (h : oneO o met xs = some (m, e, o', met', ys)) : ys.length < xs.length := by
  cases xs with
  | nil => simp [oneO] at h
  | cons k xs =>
    simp only [oneO] at h
    split at h
    · simp only [Option.some.injEq, Prod.mk.injEq] at h
      obtain ⟨_, _, _, _, rfl⟩ := h
      simp
    · cases xs with
      | nil => simp at h
      | cons n zs =>
        simp only at h
        split at h
        · simp only [Option.some.injEq, Prod.mk.injEq] at h
          obtain ⟨_, _, _, _, rfl⟩ := h
          simp
          omega
        · split at h
          · simp at h
          · split at h
            · simp only [Option.some.injEq, Prod.mk.injEq] at h
              obtain ⟨_, _, _, _, rfl⟩ := h
              simp
              omega
            · simp only [Option.some.injEq, Prod.mk.injEq] at h
              obtain ⟨_, _, _, _, rfl⟩ := h
              simp
              omega
theorem parseL_fuel : ∀ (f g : Nat) (o : OptM) (met : List Bool) (xs : List UInt8), xs.length ≤ f → xs.length ≤ g → parseL f o met xs = parseL g o met xs
  | 0, 0, _, _, _, _, _ => rfl
  | 0, g + 1, o, met, xs, h, _ => by
    have : xs = [] := List.length_eq_zero_iff.1 (by omega)
    subst this
    simp [parseL]
  | f + 1, 0, o, met, xs, _, h => by
    have : xs = [] := List.length_eq_zero_iff.1 (by omega)
    subst this
    simp [parseL]
  | f + 1, g + 1, o, met, xs, h, h' => by
    unfold parseL
    split
    · rfl
    · cases hx : oneO o met xs with
      | none => rfl
      | some r =>
        obtain ⟨m, e, o', met', ys⟩ := r
        have := oneO_short hx
        simp only
        split
        · exact parseL_fuel f g o' met' ys (by omega) (by omega)
        · rfl
/-- What bytes are parsed as: none, if the last is cut off. -/
def parseX (o : OptM) (met : List Bool) (xs : List UInt8) : Option (Nat × OptM) := parseL xs.length o met xs
theorem parseX_nil (o : OptM) (met : List Bool) : parseX o met [] = some (0, o) := rfl
theorem parseX_one {o o' : OptM} {met met' : List Bool} {xs ys : List UInt8} {m : Bool} {e : Nat} (h : oneO o met xs = some (m, e, o', met', ys)) : parseX o met xs = if m && e == 0 then parseX o' met' ys else some (e, o') := by
  have hs := oneO_short h
  unfold parseX
  cases xs with
  | nil => simp at hs
  | cons x xs =>
    have hs : ys.length < xs.length + 1 := hs
    show parseL (xs.length + 1) o met (x :: xs) = _
    conv => lhs; unfold parseL
    rw [if_neg (by simp), h]
    simp only
    rw [parseL_fuel xs.length ys.length o' met' ys (by omega) (Nat.le_refl _)]
theorem parseX_cut {o : OptM} {met : List Bool} {xs : List UInt8} (hx : xs ≠ []) (h : oneO o met xs = none) : parseX o met xs = none := by
  unfold parseX
  cases xs with
  | nil => exact absurd rfl hx
  | cons x xs =>
    show parseL (xs.length + 1) o met (x :: xs) = _
    conv => lhs; unfold parseL
    rw [if_neg (by simp), h]
def met0 : List Bool := List.replicate 256 false
def endO (r : Option (Nat × OptM)) : Nat × OptM := match r with
  | none => (3, noOpt)
  | some (e, o) => if e = 0 then (0, o) else (e, noOpt)
def parseO (b : List UInt8) : Nat × OptM := if 40 < b.length then (3, noOpt) else endO (parseX noOpt met0 b)
/-! ### What is laid is parsed -/
theorem parseX_zeros (o : OptM) (met : List Bool) (n : Nat) : parseX o met (List.replicate n 0) = some (0, o) := by
  cases n with
  | zero => rfl
  | succ n =>
    rw [List.replicate_succ, parseX_one (ys := List.replicate n 0) (m := false) (e := 0) (o' := o) (met' := met) rfl]
    rfl
theorem parseX_opt (o : OptM) (met : List Bool) (k n : UInt8) (body rest : List UInt8) (h0 : k ≠ 0) (h1 : k ≠ 1) (hr : rightO k n.toNat = true) (hn : body.length = n.toNat - 2) (hm : met.getD k.toNat false = false) :
    parseX o met (k :: n :: (body ++ rest)) = parseX (takeO o k body) (met.set k.toNat true) rest := by
  have : oneO o met (k :: n :: (body ++ rest)) = some (true, 0, takeO o k body, met.set k.toNat true, rest) := by
    simp only [oneO]
    rw [decide_eq_false h0, decide_eq_false h1, hr, hm, decide_eq_false (by rw [List.length_append]; omega), ← hn, List.take_left, List.drop_left, Bool.and_false]
    rfl
  rw [parseX_one this]
  rfl
def c1O (o : OptM) : List UInt8 := if o.hasMSS then [2, 4] ++ beB 2 o.mss else []
def c2O (o : OptM) : List UInt8 := if o.hasScale then [3, 3, UInt8.ofNat o.scale] else []
def c3O (o : OptM) : List UInt8 := if o.sackOK then [4, 2] else []
def c4O (o : OptM) : List UInt8 := if o.hasTime then [8, 10] ++ (beB 4 o.val ++ beB 4 o.echo) else []
def c5O (o : OptM) : List UInt8 := if decide (0 < o.sacks.length) then [5, UInt8.ofNat (2 + 8 * o.sacks.length)] ++ sackB o.sacks else []
def c6O (o : OptM) : List UInt8 := if o.hasAO then [29, 16, UInt8.ofNat o.key, UInt8.ofNat o.next] ++ o.mac else []
def coreO (o : OptM) : List UInt8 := c1O o ++ (c2O o ++ (c3O o ++ (c4O o ++ (c5O o ++ c6O o))))
theorem b2O_c (o : OptM) (l : List UInt8) : b2O o l = l ++ c2O o := by unfold b2O c2O; split <;> simp
theorem b3O_c (o : OptM) (l : List UInt8) : b3O o l = l ++ c3O o := by unfold b3O c3O; split <;> simp
theorem b4O_c (o : OptM) (l : List UInt8) : b4O o l = l ++ c4O o := by unfold b4O c4O; split <;> simp
theorem b5O_c (o : OptM) (l : List UInt8) : b5O o l = l ++ c5O o := by unfold b5O c5O; split <;> simp
theorem b6O_c (o : OptM) (l : List UInt8) : b6O o l = l ++ c6O o := by unfold b6O c6O; split <;> simp
theorem bytesO_core (o : OptM) : bytesO o = padO (coreO o) := by
  unfold bytesO
  rw [b6O_c, b5O_c, b4O_c, b3O_c, b2O_c]
  show padO (((((c1O o ++ _) ++ _) ++ _) ++ _) ++ _) = _
  simp only [List.append_assoc]
  rfl
/-- How many bytes options have, without what fills them up. -/
def lenO (o : OptM) : Nat := (if o.hasMSS then 4 else 0) + (if o.hasScale then 3 else 0) + (if o.sackOK then 2 else 0) + (if o.hasTime then 10 else 0) + (if o.hasAO then 16 else 0) + (if decide (0 < o.sacks.length) then 2 + 8 * o.sacks.length else 0)
theorem coreO_len (o : OptM) (hm : o.mac.length = 12) : (coreO o).length = lenO o := by
  unfold coreO c1O c2O c3O c4O c5O c6O lenO
  simp only [List.length_append, apply_ite List.length, sackB_len, beB_length, List.length_cons, List.length_nil, hm]
  cases o.hasMSS <;> cases o.hasScale <;> cases o.sackOK <;> cases o.hasTime <;> cases o.hasAO <;> simp <;> omega
theorem padO_len (l : List UInt8) : (padO l).length = (l.length + 3) / 4 * 4 := by
  unfold padO
  rw [List.length_append, List.length_replicate]
  omega
def sizeO (o : OptM) : Nat := (lenO o + 3) / 4 * 4
theorem bytesO_len (o : OptM) (hm : o.mac.length = 12) : (bytesO o).length = sizeO o := by
  rw [bytesO_core, padO_len, coreO_len o hm]
  rfl
theorem met_set (m : List Bool) (i j : Nat) (t : Bool) (h : i ≠ j) : (if t then m.set i true else m).getD j false = m.getD j false := by
  cases t
  · rfl
  · simp [List.getD_eq_getElem?_getD, List.getElem?_set, h]
theorem rep_get (n j : Nat) : (List.replicate n false).getD j false = false := by
  rw [List.getD_eq_getElem?_getD, List.getElem?_replicate]
  split <;> rfl
theorem met0_get (j : Nat) : met0.getD j false = false := rep_get 256 j
theorem be_two (n : Nat) (h : n < 65536) : be ((beB 2 n).take 2) = n := by
  rw [List.take_of_length_le (by rw [beB_length]; exact Nat.le_refl _), be_beB]; exact Nat.mod_eq_of_lt h
theorem be_four (n : Nat) (l : List UInt8) (h : n < 4294967296) : be ((beB 4 n ++ l).take 4) = n := by
  rw [List.take_left' (beB_length 4 n), be_beB]; exact Nat.mod_eq_of_lt h
theorem be_one (n : Nat) (h : n < 256) : be [UInt8.ofNat n] = n := by
  simp [be]; omega
theorem blocks_sackB : ∀ (ss : List (Nat × Nat)), OkB ss → blocksO ss.length (sackB ss) = ss
  | [], _ => rfl
  | (x, y) :: ss, h => by
    have h1 := h (x, y) (by simp)
    have e : sackB ((x, y) :: ss) = beB 4 x ++ (beB 4 y ++ sackB ss) := by simp [sackB]
    show (be ((sackB ((x, y) :: ss)).take 4), be (((sackB ((x, y) :: ss)).drop 4).take 4)) :: blocksO ss.length ((sackB ((x, y) :: ss)).drop 8) = _
    rw [e, be_four _ _ h1.1, List.drop_left' (beB_length 4 x), be_four _ _ h1.2]
    rw [show (beB 4 x ++ (beB 4 y ++ sackB ss)).drop 8 = sackB ss by
      rw [show 8 = 4 + 4 by rfl, ← List.drop_drop, List.drop_left' (beB_length 4 x), List.drop_left' (beB_length 4 y)]]
    rw [blocks_sackB ss fun b hb => h b (by simp [hb])]
/-- What options leave out they do not have. -/
structure KeptP (o : OptM) : Prop where
  mss : o.hasMSS = false → o.mss = 0
  scale : o.hasScale = false → o.scale = 0
  time : o.hasTime = false → o.val = 0 ∧ o.echo = 0
  ao : o.hasAO = false → o.key = 0 ∧ o.next = 0 ∧ o.mac = zeros12
theorem kept_P {o : OptM} (h : sameO (keptO o) o = true) : KeptP o := by
  obtain ⟨h1, h2, h3, h4, h5, h6, h7, h8, h9, h10, h11, h12, h13⟩ := (sameO_iff _ _).1 h
  rw [keptO_eq] at h3 h5 h8 h9 h11 h12 h13
  simp only at h3 h5 h8 h9 h11 h12 h13
  refine ⟨fun hm => ?_, fun hm => ?_, fun hm => ⟨?_, ?_⟩, fun hm => ⟨?_, ?_, ?_⟩⟩
  · rw [← h3, hm]; rfl
  · rw [← h5, hm]; rfl
  · rw [← h8, hm]; rfl
  · rw [← h9, hm]; rfl
  · rw [← h11, hm]; rfl
  · rw [← h12, hm]; rfl
  · rw [← h13, hm]; rfl
theorem KeptP.same {o : OptM} (h : KeptP o) : keptO o = o := by
  rw [keptO_eq]
  obtain ⟨h1, h2, h3, h4⟩ := h
  obtain ⟨a, b, c, d, e, f, g, h, i, j, k, l, m, n, p⟩ := o
  simp only at h1 h2 h3 h4 ⊢
  congr 1
  · cases a with | true => rfl | false => exact (h1 rfl).symm
  · cases c with | true => rfl | false => exact (h2 rfl).symm
  · cases i with | true => rfl | false => exact (h3 rfl).1.symm
  · cases i with | true => rfl | false => exact (h3 rfl).2.symm
  · cases l with | true => rfl | false => exact (h4 rfl).1.symm
  · cases l with | true => rfl | false => exact (h4 rfl).2.1.symm
  · cases l with | true => rfl | false => exact (h4 rfl).2.2.symm
theorem sameO_self (o : OptM) (A : Option Addr) (c : Nat) : sameO o { o with A := A, c := c } = true := (sameO_iff _ _).2 ⟨rfl, rfl, rfl, rfl, rfl, rfl, rfl, rfl, rfl, rfl, rfl, rfl, rfl⟩
theorem mayO_iff (o : OptM) : mayO o = true ↔ KeptP o ∧ o.scale ≤ 14 ∧ o.sacks.length ≤ 4 ∧ (bytesO o).length ≤ 40 := by
  unfold mayO
  simp only [Bool.and_eq_true, decide_eq_true_eq]
  constructor
  · rintro ⟨⟨⟨h1, h2⟩, h3⟩, h4⟩
    exact ⟨kept_P h1, h2, h3, h4⟩
  · rintro ⟨h1, h2, h3, h4⟩
    refine ⟨⟨⟨?_, h2⟩, h3⟩, h4⟩
    rw [h1.same]
    exact (sameO_iff _ _).2 ⟨rfl, rfl, rfl, rfl, rfl, rfl, rfl, rfl, rfl, rfl, rfl, rfl, rfl⟩
theorem lay_parseX (o : OptM) (hk : KeptP o) (h1 : o.mss < 65536) (h2 : o.scale ≤ 14) (h3 : o.val < 4294967296) (h4 : o.echo < 4294967296) (h5 : o.key < 256) (h6 : o.next < 256) (hm : o.mac.length = 12) (hs : o.sacks.length ≤ 4) (hb : OkB o.sacks) (n : Nat) :
    parseX noOpt met0 (coreO o ++ List.replicate n 0) = some (0, { o with A := none, c := 0 }) := by
  unfold coreO
  simp only [List.append_assoc]
  have s1 : ∀ rest, parseX noOpt met0 (c1O o ++ rest) = parseX { noOpt with hasMSS := o.hasMSS, mss := o.mss } (if o.hasMSS then met0.set 2 true else met0) rest := by
    intro rest
    unfold c1O
    cases ht : o.hasMSS with
    | false => rw [hk.mss ht]; rfl
    | true =>
      show parseX noOpt met0 (2 :: 4 :: (beB 2 o.mss ++ rest)) = _
      rw [parseX_opt _ _ 2 4 (beB 2 o.mss) rest (by decide) (by decide) (by decide) (beB_length 2 _) (met0_get _)]
      have : takeO noOpt 2 (beB 2 o.mss) = { noOpt with hasMSS := true, mss := o.mss } := by
        show { noOpt with hasMSS := true, mss := be ((beB 2 o.mss).take 2) } = _
        rw [be_two _ h1]
      rw [this]
      rfl
  rw [s1]
  clear s1
  generalize hm1 : (if o.hasMSS then met0.set 2 true else met0) = m1
  have g1 : ∀ j, j ≠ 2 → m1.getD j false = false := fun j hj => by rw [← hm1, met_set _ _ _ _ (Ne.symm hj), met0_get]
  have s2 : ∀ rest, parseX { noOpt with hasMSS := o.hasMSS, mss := o.mss } m1 (c2O o ++ rest) = parseX { noOpt with hasMSS := o.hasMSS, mss := o.mss, hasScale := o.hasScale, scale := o.scale } (if o.hasScale then m1.set 3 true else m1) rest := by
    intro rest
    unfold c2O
    cases ht : o.hasScale with
    | false => rw [hk.scale ht]; rfl
    | true =>
      show parseX _ m1 (3 :: 3 :: ([UInt8.ofNat o.scale] ++ rest)) = _
      rw [parseX_opt _ _ 3 3 [UInt8.ofNat o.scale] rest (by decide) (by decide) (by decide) rfl (g1 _ (by decide))]
      have : takeO { noOpt with hasMSS := o.hasMSS, mss := o.mss } 3 [UInt8.ofNat o.scale] = { noOpt with hasMSS := o.hasMSS, mss := o.mss, hasScale := true, scale := o.scale } := by
        show { noOpt with hasMSS := o.hasMSS, mss := o.mss, hasScale := true, scale := min (be [UInt8.ofNat o.scale]) 14 } = _
        rw [be_one _ (by omega), Nat.min_eq_left h2]
      rw [this]
      rfl
  rw [s2]
  clear s2
  generalize hm2 : (if o.hasScale then m1.set 3 true else m1) = m2
  have g2 : ∀ j, j ≠ 2 → j ≠ 3 → m2.getD j false = false := fun j hj hj2 => by rw [← hm2, met_set _ _ _ _ (Ne.symm hj2), g1 j hj]
  have s3 : ∀ rest, parseX { noOpt with hasMSS := o.hasMSS, mss := o.mss, hasScale := o.hasScale, scale := o.scale } m2 (c3O o ++ rest) = parseX { noOpt with hasMSS := o.hasMSS, mss := o.mss, hasScale := o.hasScale, scale := o.scale, sackOK := o.sackOK } (if o.sackOK then m2.set 4 true else m2) rest := by
    intro rest
    unfold c3O
    cases ht : o.sackOK with
    | false => rfl
    | true =>
      show parseX _ m2 (4 :: 2 :: ([] ++ rest)) = _
      rw [parseX_opt _ _ 4 2 [] rest (by decide) (by decide) (by decide) rfl (g2 _ (by decide) (by decide))]
      rfl
  rw [s3]
  clear s3
  generalize hm3 : (if o.sackOK then m2.set 4 true else m2) = m3
  have g3 : ∀ j, j ≠ 2 → j ≠ 3 → j ≠ 4 → m3.getD j false = false := fun j hj hj2 hj3 => by rw [← hm3, met_set _ _ _ _ (Ne.symm hj3), g2 j hj hj2]
  have s4 : ∀ rest, parseX { noOpt with hasMSS := o.hasMSS, mss := o.mss, hasScale := o.hasScale, scale := o.scale, sackOK := o.sackOK } m3 (c4O o ++ rest) = parseX { noOpt with hasMSS := o.hasMSS, mss := o.mss, hasScale := o.hasScale, scale := o.scale, sackOK := o.sackOK, hasTime := o.hasTime, val := o.val, echo := o.echo } (if o.hasTime then m3.set 8 true else m3) rest := by
    intro rest
    unfold c4O
    cases ht : o.hasTime with
    | false => rw [(hk.time ht).1, (hk.time ht).2]; rfl
    | true =>
      show parseX _ m3 (8 :: 10 :: ((beB 4 o.val ++ beB 4 o.echo) ++ rest)) = _
      rw [parseX_opt _ _ 8 10 (beB 4 o.val ++ beB 4 o.echo) rest (by decide) (by decide) (by decide) rfl (g3 _ (by decide) (by decide) (by decide))]
      have : takeO { noOpt with hasMSS := o.hasMSS, mss := o.mss, hasScale := o.hasScale, scale := o.scale, sackOK := o.sackOK } 8 (beB 4 o.val ++ beB 4 o.echo) = { noOpt with hasMSS := o.hasMSS, mss := o.mss, hasScale := o.hasScale, scale := o.scale, sackOK := o.sackOK, hasTime := true, val := o.val, echo := o.echo } := by
        show { noOpt with hasMSS := o.hasMSS, mss := o.mss, hasScale := o.hasScale, scale := o.scale, sackOK := o.sackOK, hasTime := true, val := be ((beB 4 o.val ++ beB 4 o.echo).take 4), echo := be (((beB 4 o.val ++ beB 4 o.echo).drop 4).take 4) } = _
        have := be_four o.echo [] h4
        rw [List.append_nil] at this
        rw [be_four _ _ h3, List.drop_left' (beB_length 4 o.val), this]
      rw [this]
      rfl
  rw [s4]
  clear s4
  generalize hm4 : (if o.hasTime then m3.set 8 true else m3) = m4
  have g4 : ∀ j, j ≠ 2 → j ≠ 3 → j ≠ 4 → j ≠ 8 → m4.getD j false = false := fun j hj hj2 hj3 hj4 => by rw [← hm4, met_set _ _ _ _ (Ne.symm hj4), g3 j hj hj2 hj3]
  have s5 : ∀ rest, parseX { noOpt with hasMSS := o.hasMSS, mss := o.mss, hasScale := o.hasScale, scale := o.scale, sackOK := o.sackOK, hasTime := o.hasTime, val := o.val, echo := o.echo } m4 (c5O o ++ rest) = parseX { noOpt with hasMSS := o.hasMSS, mss := o.mss, hasScale := o.hasScale, scale := o.scale, sackOK := o.sackOK, hasTime := o.hasTime, val := o.val, echo := o.echo, sacks := o.sacks } (if decide (0 < o.sacks.length) then m4.set 5 true else m4) rest := by
    intro rest
    unfold c5O
    cases ht : decide (0 < o.sacks.length) with
    | false =>
      have : o.sacks = [] := List.length_eq_zero_iff.1 (by have := of_decide_eq_false ht; omega)
      rw [this]
      rfl
    | true =>
      have hp := of_decide_eq_true ht
      have hn : (UInt8.ofNat (2 + 8 * o.sacks.length)).toNat = 2 + 8 * o.sacks.length := by rw [UInt8.toNat_ofNat']; omega
      show parseX _ m4 (5 :: UInt8.ofNat (2 + 8 * o.sacks.length) :: (sackB o.sacks ++ rest)) = _
      rw [parseX_opt _ _ 5 _ (sackB o.sacks) rest (by decide) (by decide) (by
          rw [hn]
          have : o.sacks.length = 1 ∨ o.sacks.length = 2 ∨ o.sacks.length = 3 ∨ o.sacks.length = 4 := by omega
          rcases this with h | h | h | h <;> rw [h] <;> decide) (by rw [hn, sackB_len]; omega) (g4 _ (by decide) (by decide) (by decide) (by decide))]
      have : takeO { noOpt with hasMSS := o.hasMSS, mss := o.mss, hasScale := o.hasScale, scale := o.scale, sackOK := o.sackOK, hasTime := o.hasTime, val := o.val, echo := o.echo } 5 (sackB o.sacks) = { noOpt with hasMSS := o.hasMSS, mss := o.mss, hasScale := o.hasScale, scale := o.scale, sackOK := o.sackOK, hasTime := o.hasTime, val := o.val, echo := o.echo, sacks := o.sacks } := by
        show { noOpt with hasMSS := o.hasMSS, mss := o.mss, hasScale := o.hasScale, scale := o.scale, sackOK := o.sackOK, hasTime := o.hasTime, val := o.val, echo := o.echo, sacks := [] ++ blocksO ((sackB o.sacks).length / 8) (sackB o.sacks) } = _
        rw [sackB_len, show 8 * o.sacks.length / 8 = o.sacks.length by omega, blocks_sackB _ hb, List.nil_append]
      rw [this]
      rfl
  rw [s5]
  clear s5
  generalize hm5 : (if decide (0 < o.sacks.length) then m4.set 5 true else m4) = m5
  have g5 : m5.getD 29 false = false := by rw [← hm5, met_set _ _ _ _ (by decide), g4 29 (by decide) (by decide) (by decide) (by decide)]
  unfold c6O
  cases ht : o.hasAO with
  | false =>
    rw [if_neg (by decide), List.nil_append, parseX_zeros]
    obtain ⟨e1, e2, e3⟩ := hk.ao ht
    obtain ⟨a, b, c, d, e, f, g, h, i, j, k, l, m, n, p⟩ := o
    simp only at ht e1 e2 e3
    subst ht e1 e2 e3
    rfl
  | true =>
    show parseX _ m5 (29 :: 16 :: (([UInt8.ofNat o.key, UInt8.ofNat o.next] ++ o.mac) ++ List.replicate n 0)) = _
    rw [parseX_opt _ _ 29 16 ([UInt8.ofNat o.key, UInt8.ofNat o.next] ++ o.mac) _ (by decide) (by decide) (by decide) (by simp [hm]) g5, parseX_zeros]
    show some (0, ({ noOpt with hasMSS := o.hasMSS, mss := o.mss, hasScale := o.hasScale, scale := o.scale, sackOK := o.sackOK, hasTime := o.hasTime, val := o.val, echo := o.echo, sacks := o.sacks, hasAO := true, key := be [UInt8.ofNat o.key], next := be [UInt8.ofNat o.next], mac := o.mac.take 12 } : OptM)) = _
    rw [be_one _ h5, be_one _ h6, List.take_of_length_le (by omega), ← ht]
    rfl
theorem lay_parse {w : World} {o : OptM} (ho : OptOk w o) (h : mayO o = true) : parseO (bytesO o) = (0, { o with A := none, c := 0 }) := by
  obtain ⟨hk, h2, h3, h4⟩ := (mayO_iff o).1 h
  unfold parseO
  rw [if_neg (by omega), bytesO_core]
  unfold padO
  rw [lay_parseX o hk ho.mss h2 ho.val ho.echo ho.key ho.next ho.mac h3 ho.ok]
  rfl
end Go.Proofs.Ythnidgiogjehkaa
namespace Go.Proofs.Ythnidgiogjehkaa
set_option linter.unusedVariables false
set_option linter.unusedSimpArgs false
open Go.RowKit

theorem be_tk_lt (xs : List UInt8) (k : Nat) : be (xs.take k) < 256 ^ k := Nat.lt_of_lt_of_le (be_lt _) (Nat.pow_le_pow_right (by omega) (by rw [List.length_take]; omega))
theorem blocksO_ok (n : Nat) : ∀ xs : List UInt8, OkB (blocksO n xs) := by
  induction n with
  | zero => intro xs b hb; simp [blocksO] at hb
  | succ n ih =>
    intro xs b hb
    rcases List.mem_cons.1 hb with rfl | hb
    · exact ⟨be_tk_lt xs 4, be_tk_lt (xs.drop 4) 4⟩
    · exact ih _ b hb
theorem blocksO_length (k : Nat) : ∀ xs : List UInt8, (blocksO k xs).length = k := by
  induction k with
  | zero => intro xs; rfl
  | succ k ih => intro xs; simp [blocksO, ih]
/-- Options as a parse leaves them. -/
structure PlainOk (o : OptM) : Prop where
  mss : o.mss < 65536
  scale : o.scale ≤ 14
  val : o.val < 4294967296
  echo : o.echo < 4294967296
  key : o.key < 256
  next : o.next < 256
  mac : o.mac.length = 12
  ok : OkB o.sacks
  sl : o.sacks.length ≤ 4
  kept : KeptP o
theorem noOpt_plain : PlainOk noOpt := ⟨by decide, by decide, by decide, by decide, by decide, by decide, rfl, fun b h => (by cases h), by decide, ⟨fun _ => rfl, fun _ => rfl, fun _ => ⟨rfl, rfl⟩, fun _ => ⟨rfl, rfl, rfl⟩⟩⟩
def GoodP (o : OptM) (met : List Bool) : Prop := PlainOk o ∧ met.length = 256 ∧ (met.getD 5 false = false → o.sacks = [])
theorem get_set (m : List Bool) (i : Nat) (h : (m.set i true).getD 5 false = false) : m.getD 5 false = false := by
  by_cases hi : i = 5
  · subst hi
    rw [List.getD_eq_getElem?_getD, List.getElem?_set] at h
    rw [List.getD_eq_getElem?_getD]
    by_cases hl : 5 < m.length
    · simp [hl] at h
    · simp [List.getElem?_eq_none (Nat.le_of_not_lt hl)]
  · rwa [List.getD_eq_getElem?_getD, List.getElem?_set, if_neg hi, ← List.getD_eq_getElem?_getD] at h
theorem takeO_good {o : OptM} {met : List Bool} {k : UInt8} {xs : List UInt8} (h : GoodP o met) (hr : rightO k (xs.length + 2) = true) (hm : (decide (0 ≤ sizesI k) && met.getD k.toNat false) = false) : GoodP (takeO o k xs) (met.set k.toNat true) := by
  obtain ⟨h1, hl, h2⟩ := h
  have hl2 : (met.set k.toNat true).length = 256 := by rw [List.length_set]; exact hl
  unfold takeO
  by_cases k2 : k = 2
  · rw [if_pos k2]
    exact ⟨⟨be_tk_lt xs 2, h1.scale, h1.val, h1.echo, h1.key, h1.next, h1.mac, h1.ok, h1.sl, ⟨fun hx => (by cases hx), h1.kept.scale, h1.kept.time, h1.kept.ao⟩⟩, hl2, fun hx => h2 (get_set _ _ hx)⟩
  rw [if_neg k2]
  by_cases k3 : k = 3
  · rw [if_pos k3]
    exact ⟨⟨h1.mss, Nat.min_le_right _ _, h1.val, h1.echo, h1.key, h1.next, h1.mac, h1.ok, h1.sl, ⟨h1.kept.mss, fun hx => (by cases hx), h1.kept.time, h1.kept.ao⟩⟩, hl2, fun hx => h2 (get_set _ _ hx)⟩
  rw [if_neg k3]
  by_cases k4 : k = 4
  · rw [if_pos k4]
    exact ⟨⟨h1.mss, h1.scale, h1.val, h1.echo, h1.key, h1.next, h1.mac, h1.ok, h1.sl, ⟨h1.kept.mss, h1.kept.scale, h1.kept.time, h1.kept.ao⟩⟩, hl2, fun hx => h2 (get_set _ _ hx)⟩
  rw [if_neg k4]
  by_cases k8 : k = 8
  · rw [if_pos k8]
    exact ⟨⟨h1.mss, h1.scale, be_tk_lt xs 4, be_tk_lt (xs.drop 4) 4, h1.key, h1.next, h1.mac, h1.ok, h1.sl, ⟨h1.kept.mss, h1.kept.scale, fun hx => (by cases hx), h1.kept.ao⟩⟩, hl2, fun hx => h2 (get_set _ _ hx)⟩
  rw [if_neg k8]
  by_cases k29 : k = 29
  · rw [if_pos k29]
    subst k29
    have h : rightO 29 (xs.length + 2) = decide (((xs.length + 2 : Nat) : Int) = 16) := by unfold rightO; rw [if_neg (by omega)]; rfl
    rw [h] at hr
    have := of_decide_eq_true hr
    exact ⟨⟨h1.mss, h1.scale, h1.val, h1.echo, be_tk_lt xs 1, be_tk_lt (xs.drop 1) 1, (by show ((xs.drop 2).take 12).length = 12; rw [List.length_take, List.length_drop]; omega), h1.ok, h1.sl, ⟨h1.kept.mss, h1.kept.scale, h1.kept.time, fun hx => (by cases hx)⟩⟩, hl2, fun hx => h2 (get_set _ _ hx)⟩
  rw [if_neg k29]
  by_cases k5 : k = 5
  · rw [if_pos k5]
    subst k5
    have h5 : o.sacks = [] := h2 hm
    have h : rightO 5 (xs.length + 2) = (decide ((xs.length + 2) % 8 = 2) && decide (2 < xs.length + 2) && decide (xs.length + 2 ≤ 34)) := by unfold rightO; rw [if_neg (by omega)]; rfl
    rw [h] at hr
    simp only [Bool.and_eq_true, decide_eq_true_eq] at hr
    refine ⟨⟨h1.mss, h1.scale, h1.val, h1.echo, h1.key, h1.next, h1.mac, ?_, ?_, ⟨h1.kept.mss, h1.kept.scale, h1.kept.time, h1.kept.ao⟩⟩, hl2, fun hx => ?_⟩
    · show OkB (o.sacks ++ _)
      rw [h5, List.nil_append]
      exact blocksO_ok _ _
    · show (o.sacks ++ _).length ≤ 4
      rw [h5, List.nil_append, blocksO_length]
      omega
    · exfalso
      have e := hx
      rw [List.getD_eq_getElem?_getD, List.getElem?_set] at e
      simp [show (5 : UInt8).toNat = 5 from rfl, hl] at e
  rw [if_neg k5]
  exact ⟨h1, hl2, fun hx => h2 (get_set _ _ hx)⟩
theorem oneO_good {o o' : OptM} {met met' : List Bool} {xs ys : List UInt8} {m : Bool} {e : Nat} (h : oneO o met xs = some (m, e, o', met', ys)) (hg : GoodP o met) : GoodP o' met' := by
  cases xs with
  | nil => simp [oneO] at h
  | cons k xs =>
    simp only [oneO] at h
    split at h
    · simp only [Option.some.injEq, Prod.mk.injEq] at h
      obtain ⟨_, _, rfl, rfl, _⟩ := h
      exact hg
    · cases xs with
      | nil => simp at h
      | cons n zs =>
        simp only at h
        split at h
        · simp only [Option.some.injEq, Prod.mk.injEq] at h
          obtain ⟨_, _, rfl, rfl, _⟩ := h
          exact hg
        · split at h
          · simp at h
          · split at h
            · simp only [Option.some.injEq, Prod.mk.injEq] at h
              obtain ⟨_, _, rfl, rfl, _⟩ := h
              exact hg
            · rename_i hr hc hs
              simp only [Option.some.injEq, Prod.mk.injEq] at h
              obtain ⟨_, _, rfl, rfl, _⟩ := h
              have h2 : ¬ zs.length < n.toNat - 2 := by simpa using hc
              have hr' : rightO k n.toNat = true := by simpa using hr
              have hn2 : 2 ≤ n.toNat := by
                unfold rightO at hr'
                split at hr'
                · cases hr'
                · omega
              refine takeO_good hg ?_ (by simpa using hs)
              rw [List.length_take, Nat.min_eq_left (by omega), show n.toNat - 2 + 2 = n.toNat by omega]
              exact hr'
theorem parseL_good : ∀ (f : Nat) (o o' : OptM) (met : List Bool) (xs : List UInt8) (e : Nat), GoodP o met → parseL f o met xs = some (e, o') → PlainOk o'
  | 0, o, o', met, xs, e, hg, h => by
    simp only [parseL, Option.some.injEq, Prod.mk.injEq] at h
    obtain ⟨_, rfl⟩ := h
    exact hg.1
  | f + 1, o, o', met, xs, e, hg, h => by
    unfold parseL at h
    split at h
    · simp only [Option.some.injEq, Prod.mk.injEq] at h
      obtain ⟨_, rfl⟩ := h
      exact hg.1
    · cases hx : oneO o met xs with
      | none => rw [hx] at h; simp at h
      | some r =>
        obtain ⟨m, e1, o1, met1, ys⟩ := r
        rw [hx] at h
        simp only at h
        have hg1 := oneO_good hx hg
        split at h
        · exact parseL_good f o1 o' met1 ys e hg1 h
        · simp only [Option.some.injEq, Prod.mk.injEq] at h
          obtain ⟨_, rfl⟩ := h
          exact hg1.1
theorem parseO_ok (b : List UInt8) : PlainOk (parseO b).2 := by
  unfold parseO
  split
  · exact noOpt_plain
  · unfold endO
    cases hx : parseX noOpt met0 b with
    | none => exact noOpt_plain
    | some r =>
      obtain ⟨e, o⟩ := r
      have hp := parseL_good _ _ _ _ _ _ (show GoodP noOpt met0 from ⟨noOpt_plain, by unfold met0; rw [List.length_replicate], fun _ => rfl⟩) hx
      show PlainOk (if e = 0 then (0, o) else (e, noOpt)).2
      split
      · exact hp
      · exact noOpt_plain
/-- What is parsed and fits may be. -/
theorem PlainOk.may {o : OptM} (h : PlainOk o) : mayO o = decide (sizeO o ≤ 40) := by
  rw [Bool.eq_iff_iff, decide_eq_true_eq, mayO_iff, bytesO_len o h.mac]
  exact ⟨fun h => h.2.2.2, fun h2 => ⟨h.kept, h.scale, h.sl, h2⟩⟩
theorem PlainOk.opt {w : World} {o : OptM} (h : PlainOk o) (hr : Row w 2 o.A o.sacks.length o.c (bcs o.sacks)) : OptOk w o := ⟨h.mss, by have := h.scale; omega, h.val, h.echo, h.key, h.next, h.mac, hr, h.ok⟩
theorem PlainOk.addr {o : OptM} (h : PlainOk o) (A : Option Addr) (c : Nat) : PlainOk { o with A := A, c := c } := ⟨h.mss, h.scale, h.val, h.echo, h.key, h.next, h.mac, h.ok, h.sl, ⟨h.kept.mss, h.kept.scale, h.kept.time, h.kept.ao⟩⟩
end Go.Proofs.Ythnidgiogjehkaa
