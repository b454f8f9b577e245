/- A segment's parts, in plain words: they tell its fields. -/
import Derived.Test.YtfliddlcbnaoiaaDumP
namespace Go.Proofs.Ytfliddlcbnaoiaa
set_option linter.unusedVariables false
set_option linter.unusedSimpArgs false

/-- A part that may be missing: it begins with a word that nothing behind it begins with. -/
theorem opt_inj {k : List UInt8} {a b : Bool} {X Y R S : List (List UInt8)} (hR : R.head? ≠ some k) (hS : S.head? ≠ some k)
    (h : (if a then k :: X else []) ++ R = (if b then k :: Y else []) ++ S) : a = b ∧ (a = true → X ++ R = Y ++ S) ∧ (a = false → R = S) := by
  cases a <;> cases b
  · exact ⟨rfl, (fun h => by cases h), fun _ => h⟩
  · exfalso
    have h : R = k :: (Y ++ S) := h
    exact hR (by rw [h]; rfl)
  · exfalso
    have h : k :: (X ++ R) = S := h
    exact hS (by rw [← h]; rfl)
  · refine ⟨rfl, fun _ => ?_, (fun h => by cases h)⟩
    have h : k :: (X ++ R) = k :: (Y ++ S) := h
    injection h
/-- A segment's fields that its line tells. -/
structure SegD where
  src : Nat
  dst : Nat
  flags : Nat
  seq : Nat
  ack : Nat
  win : Nat
  hasMSS : Bool
  mss : Nat
  hasScale : Bool
  scale : Nat
  sackOK : Bool
  hasTime : Bool
  val : Nat
  echo : Nat
  sacks : List (Nat × Nat)
  hasAO : Bool
  key : Nat
  next : Nat
  mac : List UInt8
  size : Nat
def wTcp : List UInt8 := [116, 99, 112]
def wGt : List UInt8 := [62]
def wSeq : List UInt8 := [115, 101, 113]
def wAck : List UInt8 := [97, 99, 107]
def wWin : List UInt8 := [119, 105, 110]
def wMss : List UInt8 := [109, 115, 115]
def wScale : List UInt8 := [115, 99, 97, 108, 101]
def wSackok : List UInt8 := [115, 97, 99, 107, 111, 107]
def wTime : List UInt8 := [116, 105, 109, 101]
def wSack : List UInt8 := [115, 97, 99, 107]
def wAo : List UInt8 := [97, 111]
def wData : List UInt8 := [100, 97, 116, 97]
def flagsS (f : Nat) : List UInt8 :=
  let l := (if f / 2 % 2 = 1 then [83] else []) ++ (if f % 2 = 1 then [70] else []) ++ (if f / 4 % 2 = 1 then [82] else []) ++ (if f / 8 % 2 = 1 then [80] else []) ++ (if f / 16 % 2 = 1 then [65] else []) ++ (if f / 32 % 2 = 1 then [85] else [])
  if l = [] then [45] else l
def SegD.hasAck (s : SegD) : Bool := decide (s.flags / 16 % 2 = 1)
theorem flagsS_inj : ∀ a b : Fin 64, flagsS a.val = flagsS b.val → a = b := by decide +kernel
theorem flagsS_ok : ∀ a : Fin 64, flagsS a.val ≠ [] ∧ (32 : UInt8) ∉ flagsS a.val := by decide +kernel
def sackT (x : Nat × Nat) : List UInt8 := tenS x.1 ++ 45 :: tenS x.2
theorem split_dash : ∀ (x y r s : List UInt8), (45 : UInt8) ∉ x → (45 : UInt8) ∉ y → x ++ 45 :: r = y ++ 45 :: s → x = y ∧ r = s
  | [], [], r, s, _, _, h => by injection h with _ h; exact ⟨rfl, h⟩
  | [], b :: y, r, s, _, hy, h => by injection h with h _; subst h; simp at hy
  | a :: x, [], r, s, hx, _, h => by injection h with h _; subst h; simp at hx
  | a :: x, b :: y, r, s, hx, hy, h => by
    injection h with h1 h2
    subst h1
    have := split_dash x y r s (fun m => hx (List.mem_cons_of_mem _ m)) (fun m => hy (List.mem_cons_of_mem _ m)) h2
    exact ⟨by rw [this.1], this.2⟩
theorem no_dash (n : Nat) : (45 : UInt8) ∉ tenS n := fun h => by have := tenS_digits n _ h; simp at this
theorem ten_no_blank (n : Nat) : (32 : UInt8) ∉ tenS n := fun h => by have := tenS_digits n _ h; simp at this
theorem sackT_inj (x y : Nat × Nat) (h : sackT x = sackT y) : x = y := by
  have := split_dash _ _ _ _ (no_dash _) (no_dash _) h
  exact Prod.ext (tenS_inj this.1) (tenS_inj this.2)
theorem runs_inj {α : Type} (f : α → List UInt8) (hf : ∀ x y, f x = f y → x = y) : ∀ (xs ys : List α) (R S : List (List UInt8)), (∀ x, R.head? ≠ some (f x)) → (∀ x, S.head? ≠ some (f x)) →
    xs.map f ++ R = ys.map f ++ S → xs = ys ∧ R = S
  | [], [], _, _, _, _, h => ⟨rfl, h⟩
  | [], y :: ys, R, S, hR, _, h => by
    have h : R = f y :: (ys.map f ++ S) := h
    exact absurd (by rw [h]; rfl) (hR y)
  | x :: xs, [], R, S, _, hS, h => by
    have h : f x :: (xs.map f ++ R) = S := h
    exact absurd (by rw [← h]; rfl) (hS x)
  | x :: xs, y :: ys, R, S, hR, hS, h => by
    have h : f x :: (xs.map f ++ R) = f y :: (ys.map f ++ S) := h
    injection h with h1 h2
    have := runs_inj f hf xs ys R S hR hS h2
    exact ⟨by rw [hf x y h1, this.1], this.2⟩
def SegD.w9 (s : SegD) : List (List UInt8) := (if decide (0 < s.size) then wData :: [tenS s.size] else []) ++ []
def SegD.w8 (s : SegD) : List (List UInt8) := (if s.hasAO then wAo :: [tenS s.key, tenS s.next, s.mac] else []) ++ s.w9
def SegD.w7 (s : SegD) : List (List UInt8) := (if decide (s.sacks ≠ []) then wSack :: s.sacks.map sackT else []) ++ s.w8
def SegD.w6 (s : SegD) : List (List UInt8) := (if s.hasTime then wTime :: [tenS s.val, tenS s.echo] else []) ++ s.w7
def SegD.w5 (s : SegD) : List (List UInt8) := (if s.sackOK then wSackok :: [] else []) ++ s.w6
def SegD.w4 (s : SegD) : List (List UInt8) := (if s.hasScale then wScale :: [tenS s.scale] else []) ++ s.w5
def SegD.w3 (s : SegD) : List (List UInt8) := (if s.hasMSS then wMss :: [tenS s.mss] else []) ++ s.w4
def SegD.w2 (s : SegD) : List (List UInt8) := wWin :: tenS s.win :: s.w3
def SegD.w1 (s : SegD) : List (List UInt8) := (if s.hasAck then wAck :: [tenS s.ack] else []) ++ s.w2
/-- A segment's parts. -/
def SegD.words (s : SegD) : List (List UInt8) := wTcp :: tenS s.src :: wGt :: tenS s.dst :: flagsS s.flags :: wSeq :: tenS s.seq :: s.w1
/-- What the parts behind may begin with. -/
theorem SegD.h9 (s : SegD) (k : List UInt8) (h : k ≠ wData) : s.w9.head? ≠ some k := by
  unfold SegD.w9; split <;> simp [Ne.symm h]
theorem SegD.h8 (s : SegD) (k : List UInt8) (h : k ≠ wAo) (h' : k ≠ wData) : s.w8.head? ≠ some k := by
  unfold SegD.w8; split
  · simp [Ne.symm h]
  · exact s.h9 k h'
theorem SegD.h7 (s : SegD) (k : List UInt8) (h0 : k ≠ wSack) (h : k ≠ wAo) (h' : k ≠ wData) : s.w7.head? ≠ some k := by
  unfold SegD.w7; split
  · simp [Ne.symm h0]
  · exact s.h8 k h h'
theorem SegD.h6 (s : SegD) (k : List UInt8) (h6 : k ≠ wTime) (h0 : k ≠ wSack) (h : k ≠ wAo) (h' : k ≠ wData) : s.w6.head? ≠ some k := by
  unfold SegD.w6; split
  · simp [Ne.symm h6]
  · exact s.h7 k h0 h h'
theorem SegD.h5 (s : SegD) (k : List UInt8) (h5 : k ≠ wSackok) (h6 : k ≠ wTime) (h0 : k ≠ wSack) (h : k ≠ wAo) (h' : k ≠ wData) : s.w5.head? ≠ some k := by
  unfold SegD.w5; split
  · simp [Ne.symm h5]
  · exact s.h6 k h6 h0 h h'
theorem SegD.h4 (s : SegD) (k : List UInt8) (h4 : k ≠ wScale) (h5 : k ≠ wSackok) (h6 : k ≠ wTime) (h0 : k ≠ wSack) (h : k ≠ wAo) (h' : k ≠ wData) : s.w4.head? ≠ some k := by
  unfold SegD.w4; split
  · simp [Ne.symm h4]
  · exact s.h5 k h5 h6 h0 h h'
theorem sackT_kw (x : Nat × Nat) : sackT x ≠ wAo ∧ sackT x ≠ wData := by
  have hm : (45 : UInt8) ∈ sackT x := by unfold sackT; simp
  constructor <;> intro h <;> rw [h] at hm <;> exact absurd hm (by decide)
theorem SegD.words_inj (s t : SegD) (hs : s.flags < 64) (ht : t.flags < 64) (h : s.words = t.words) :
    s.src = t.src ∧ s.dst = t.dst ∧ s.flags = t.flags ∧ s.seq = t.seq ∧ (s.hasAck = true → s.ack = t.ack) ∧ s.win = t.win ∧
      s.hasMSS = t.hasMSS ∧ (s.hasMSS = true → s.mss = t.mss) ∧ s.hasScale = t.hasScale ∧ (s.hasScale = true → s.scale = t.scale) ∧ s.sackOK = t.sackOK ∧
      s.hasTime = t.hasTime ∧ (s.hasTime = true → s.val = t.val ∧ s.echo = t.echo) ∧ s.sacks = t.sacks ∧
      s.hasAO = t.hasAO ∧ (s.hasAO = true → s.key = t.key ∧ s.next = t.next ∧ s.mac = t.mac) ∧ s.size = t.size := by
  unfold SegD.words at h
  injection h with _ h; injection h with a1 h; injection h with _ h; injection h with a2 h; injection h with a3 h; injection h with _ h; injection h with a4 h
  have f3 : s.flags = t.flags := by
    have := flagsS_inj ⟨s.flags, hs⟩ ⟨t.flags, ht⟩ a3
    injection this
  have hw2 : ∀ x : SegD, x.w2.head? ≠ some wAck := by intro x h; injection h with h; exact absurd h (by decide)
  obtain ⟨_, b1, b0⟩ := opt_inj (hw2 s) (hw2 t) h
  have h2 : s.w2 = t.w2 ∧ (s.hasAck = true → s.ack = t.ack) := by
    cases ha : s.hasAck
    · exact ⟨b0 ha, fun h => by cases h⟩
    · have := b1 ha
      injection this with e this
      exact ⟨this, fun _ => tenS_inj e⟩
  have h := h2.1
  unfold SegD.w2 at h
  injection h with _ h; injection h with a5 h
  obtain ⟨c3, b1, b0⟩ := opt_inj (s.h4 wMss (by decide) (by decide) (by decide) (by decide) (by decide) (by decide)) (t.h4 wMss (by decide) (by decide) (by decide) (by decide) (by decide) (by decide)) h
  have h3 : s.w4 = t.w4 ∧ (s.hasMSS = true → s.mss = t.mss) := by
    cases ha : s.hasMSS
    · exact ⟨b0 ha, fun h => by cases h⟩
    · have := b1 ha
      injection this with e this
      exact ⟨this, fun _ => tenS_inj e⟩
  obtain ⟨c4, b1, b0⟩ := opt_inj (s.h5 wScale (by decide) (by decide) (by decide) (by decide) (by decide)) (t.h5 wScale (by decide) (by decide) (by decide) (by decide) (by decide)) h3.1
  have h4 : s.w5 = t.w5 ∧ (s.hasScale = true → s.scale = t.scale) := by
    cases ha : s.hasScale
    · exact ⟨b0 ha, fun h => by cases h⟩
    · have := b1 ha
      injection this with e this
      exact ⟨this, fun _ => tenS_inj e⟩
  obtain ⟨c5, b1, b0⟩ := opt_inj (s.h6 wSackok (by decide) (by decide) (by decide) (by decide)) (t.h6 wSackok (by decide) (by decide) (by decide) (by decide)) h4.1
  have h5 : s.w6 = t.w6 := by
    cases ha : s.sackOK
    · exact b0 ha
    · exact b1 ha
  obtain ⟨c6, b1, b0⟩ := opt_inj (s.h7 wTime (by decide) (by decide) (by decide)) (t.h7 wTime (by decide) (by decide) (by decide)) h5
  have h6 : s.w7 = t.w7 ∧ (s.hasTime = true → s.val = t.val ∧ s.echo = t.echo) := by
    cases ha : s.hasTime
    · exact ⟨b0 ha, fun h => by cases h⟩
    · have := b1 ha
      injection this with e this
      injection this with e' this
      exact ⟨this, fun _ => ⟨tenS_inj e, tenS_inj e'⟩⟩
  obtain ⟨c7, b1, b0⟩ := opt_inj (s.h8 wSack (by decide) (by decide)) (t.h8 wSack (by decide) (by decide)) h6.1
  have h7 : s.sacks = t.sacks ∧ s.w8 = t.w8 := by
    by_cases ha : s.sacks = []
    · have hb : t.sacks = [] := by
        have : decide (t.sacks ≠ []) = false := by rw [← c7]; simp [ha]
        simpa using this
      exact ⟨by rw [ha, hb], b0 (by simp [ha])⟩
    · exact runs_inj sackT sackT_inj _ _ _ _ (fun x => s.h8 _ (sackT_kw x).1 (sackT_kw x).2) (fun x => t.h8 _ (sackT_kw x).1 (sackT_kw x).2) (b1 (by simp [ha]))
  obtain ⟨c8, b1, b0⟩ := opt_inj (s.h9 wAo (by decide)) (t.h9 wAo (by decide)) h7.2
  have h8 : s.w9 = t.w9 ∧ (s.hasAO = true → s.key = t.key ∧ s.next = t.next ∧ s.mac = t.mac) := by
    cases ha : s.hasAO
    · exact ⟨b0 ha, fun h => by cases h⟩
    · have := b1 ha
      injection this with e this
      injection this with e' this
      injection this with e'' this
      exact ⟨this, fun _ => ⟨tenS_inj e, tenS_inj e', e''⟩⟩
  obtain ⟨c9, b1, b0⟩ := opt_inj (k := wData) (R := []) (S := []) (by simp) (by simp) h8.1
  have h9 : s.size = t.size := by
    by_cases ha : 0 < s.size
    · have := b1 (by simp [ha])
      injection this with e _
      exact tenS_inj e
    · have : decide (0 < t.size) = false := by rw [← c9]; simp [ha]
      have : ¬ 0 < t.size := of_decide_eq_false this
      omega
  exact ⟨tenS_inj a1, tenS_inj a2, f3, tenS_inj a4, h2.2, tenS_inj a5, c3, h3.2, c4, h4.2, c5, c6, h6.2, h7.1, c8, h8.2, h9⟩
end Go.Proofs.Ytfliddlcbnaoiaa
