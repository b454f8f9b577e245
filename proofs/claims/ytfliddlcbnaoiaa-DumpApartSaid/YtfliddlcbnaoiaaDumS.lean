/- A segment's line tells its fields: the law DumpApart in plain words. -/
import Derived.Test.YtfliddlcbnaoiaaLinF
import Derived.Test.YtfliddlcbnaoiaaSam13
import Derived.Test.YtfliddlcbnaoiaaSamP
namespace Go.Proofs.Ytfliddlcbnaoiaa
set_option linter.unusedVariables false
set_option linter.unusedSimpArgs false
open Go.RowKit

def toD (s : SegM) : SegD := ⟨s.src, s.dst, s.flags, s.seq, s.ack, s.win, s.o.hasMSS, s.o.mss, s.o.hasScale, s.o.scale, s.o.sackOK, s.o.hasTime, s.o.val, s.o.echo, s.o.sacks, s.o.hasAO, s.o.key, s.o.next, hexOf s.o.mac, s.data.length⟩
theorem optN_fold (t : Bool) (l wd : List UInt8) (ns : List Nat) : optN t l wd ns = (if t then wd :: ns.map tenS else []).foldl addS l := by cases t <;> rfl
theorem optS_fold (t : Bool) (l p : List UInt8) : optS t l p = (if t then [p] else []).foldl addS l := by cases t <;> rfl
theorem dataN_fold (l : List UInt8) (n : Nat) : dataN l n = (if decide (0 < n) then wData :: [tenS n] else []).foldl addS l := by
  unfold dataN
  by_cases h : 0 < n
  · rw [if_pos h, decide_eq_true h]; rfl
  · rw [if_neg h, decide_eq_false h]; rfl
theorem sack_fold (l : List UInt8) (ss : List (Nat × Nat)) : sacksN (optS (decide (0 < ss.length)) l wSack) ss = (if decide (ss ≠ []) then wSack :: ss.map sackT else []).foldl addS l := by
  cases ss with
  | nil => rfl
  | cons x xs => rfl
theorem ao_fold (t : Bool) (l : List UInt8) (a b : Nat) (m : List UInt8) : optS t (optN t l wAo [a, b]) m = (if t then wAo :: [tenS a, tenS b, m] else []).foldl addS l := by cases t <;> rfl
theorem segN_fold (s : SegM) : segN s = (toD s).words.foldl addS [] := by
  unfold segN optsN
  rw [ao_fold, sack_fold, dataN_fold, optN_fold, optN_fold, optN_fold, optN_fold, optS_fold]
  unfold SegD.words SegD.w1 SegD.w2 SegD.w3 SegD.w4 SegD.w5 SegD.w6 SegD.w7 SegD.w8 SegD.w9
  simp only [List.foldl_cons, List.foldl_append, List.foldl_nil]
  rfl
theorem dig_ne : ∀ k : Fin 16, dig k.val ≠ 32 := by decide +kernel
theorem dig_inj : ∀ j k : Fin 16, dig j.val = dig k.val → j = k := by decide +kernel
theorem hexOf_inj : ∀ (xs ys : List UInt8), hexOf xs = hexOf ys → xs = ys
  | [], [], _ => rfl
  | [], y :: ys, h => by have := congrArg List.length h; rw [hexOf_length, hexOf_length] at this; simp at this
  | x :: xs, [], h => by have := congrArg List.length h; rw [hexOf_length, hexOf_length] at this; simp at this
  | x :: xs, y :: ys, h => by
    have h : dig (x.toNat / 16) :: dig (x.toNat % 16) :: hexOf xs = dig (y.toNat / 16) :: dig (y.toNat % 16) :: hexOf ys := h
    injection h with h1 h
    injection h with h2 h
    have hx := x.toNat_lt
    have hy := y.toNat_lt
    have e1 := congrArg Fin.val (dig_inj ⟨x.toNat / 16, by omega⟩ ⟨y.toNat / 16, by omega⟩ h1)
    have e2 := congrArg Fin.val (dig_inj ⟨x.toNat % 16, by omega⟩ ⟨y.toNat % 16, by omega⟩ h2)
    simp only at e1 e2
    rw [hexOf_inj xs ys h, UInt8.toNat_inj.1 (show x.toNat = y.toNat by omega)]
theorem hexOf_tok (xs : List UInt8) (h : xs ≠ []) : Tok (hexOf xs) := by
  refine ⟨fun e => ?_, fun hm => ?_⟩
  · have := congrArg List.length e
    rw [hexOf_length] at this
    cases xs with
    | nil => exact h rfl
    | cons x l => simp at this
  · unfold hexOf at hm
    obtain ⟨x, _, hx⟩ := List.mem_flatMap.1 hm
    have hl := x.toNat_lt
    have h1 := dig_ne ⟨x.toNat / 16, by omega⟩
    have h2 := dig_ne ⟨x.toNat % 16, by omega⟩
    simp only at h1 h2
    simp only [hex1, List.mem_cons, List.not_mem_nil, or_false] at hx
    rcases hx with hx | hx
    · exact h1 hx.symm
    · exact h2 hx.symm
theorem segN_line (s : SegM) (hf : s.flags < 64) (hm : s.o.mac.length = 12) : segN s = (toD s).line := by
  rw [segN_fold, SegD.line]
  refine foldS_all _ fun y hy => ?_
  exact ((toD s).words_ok hf (fun _ => hexOf_tok _ (fun e => by rw [e] at hm; simp at hm)) y hy).1
/-- A segment without what its line does not tell. -/
def bareS (s : SegM) (D : Option Addr) (dc : Nat) : SegM := { s with urg := 0, D := D, dc := dc, data := List.replicate s.data.length 0, ack := if s.flags / 16 % 2 = 1 then s.ack else 0 }
/-- What the laws of a segment that may be leave of its options. -/
def KeptS (s : SegM) : Prop := s.flags < 64 ∧ (s.o.hasMSS = false → s.o.mss = 0) ∧ (s.o.hasScale = false → s.o.scale = 0) ∧ (s.o.hasTime = false → s.o.val = 0 ∧ s.o.echo = 0) ∧ (s.o.hasAO = false → s.o.key = 0 ∧ s.o.next = 0 ∧ s.o.mac = zeros12)
theorem kept_S (s : SegM) (hf : s.flags ≤ 63) (h : sameO (keptO s.o) s.o = true) : KeptS s := by
  obtain ⟨h1, h2, h3, h4, h5, h6, h7, h8, h9, h10, h11, h12, h13⟩ := (sameO_iff _ _).1 h
  rw [keptO_eq] at h3 h5 h8 h9 h11 h12 h13
  simp only at h3 h5 h8 h9 h11 h12 h13
  refine ⟨by omega, fun hm => ?_, fun hm => ?_, fun hm => ⟨?_, ?_⟩, fun hm => ⟨?_, ?_, ?_⟩⟩
  · rw [← h3, hm]; rfl
  · rw [← h5, hm]; rfl
  · rw [← h8, hm]; rfl
  · rw [← h9, hm]; rfl
  · rw [← h11, hm]; rfl
  · rw [← h12, hm]; rfl
  · rw [← h13, hm]; rfl
theorem sameS_iff (a b : SegM) : sameS a b = true ↔ a.src = b.src ∧ a.dst = b.dst ∧ a.seq = b.seq ∧ a.ack = b.ack ∧ a.flags = b.flags ∧ a.win = b.win ∧ a.urg = b.urg ∧ sameO a.o b.o = true ∧ a.data = b.data := by
  unfold sameS
  simp only [Bool.and_eq_true, beq_iff_eq]
  constructor
  · rintro ⟨⟨⟨⟨⟨⟨⟨⟨h1, h2⟩, h3⟩, h4⟩, h5⟩, h6⟩, h7⟩, h8⟩, h9⟩
    exact ⟨h1, h2, h3, h4, h5, h6, h7, h8, h9⟩
  · rintro ⟨h1, h2, h3, h4, h5, h6, h7, h8, h9⟩
    exact ⟨⟨⟨⟨⟨⟨⟨⟨h1, h2⟩, h3⟩, h4⟩, h5⟩, h6⟩, h7⟩, h8⟩, h9⟩
theorem rep_inj {n m : Nat} (h : List.replicate n (0 : UInt8) = List.replicate m 0) : n = m := by
  have := congrArg List.length h
  simpa using this
/-- The law DumpApart, in plain words. -/
theorem apart_iff (s t : SegM) (hs : KeptS s) (ht : KeptS t) (ms : s.o.mac.length = 12) (mt : t.o.mac.length = 12) (D E : Option Addr) (dc ec : Nat) : segN s = segN t ↔ sameS (bareS s D dc) (bareS t E ec) = true := by
  rw [sameS_iff, sameO_iff]
  obtain ⟨f1, s1, s2, s3, s4⟩ := hs
  obtain ⟨f2, t1, t2, t3, t4⟩ := ht
  constructor
  · intro h
    rw [segN_line s f1 ms, segN_line t f2 mt] at h
    have hne : ∀ m : List UInt8, m.length = 12 → m ≠ [] := fun m h e => by rw [e] at h; simp at h
    have hw := SegD.line_words (toD s) (toD t) f1 f2 (fun _ => hexOf_tok _ (hne _ ms)) (fun _ => hexOf_tok _ (hne _ mt)) h
    obtain ⟨a1, a2, a3, a4, a5, a6, a7, a8, a9, a10, a11, a12, a13, a14, a15, a16, a17⟩ := SegD.words_inj (toD s) (toD t) f1 f2 hw
    have e1 : s.src = t.src := a1
    have e2 : s.dst = t.dst := a2
    have e3 : s.flags = t.flags := a3
    have e4 : s.seq = t.seq := a4
    have e6 : s.win = t.win := a6
    have e7 : s.o.hasMSS = t.o.hasMSS := a7
    have e9 : s.o.hasScale = t.o.hasScale := a9
    have e11 : s.o.sackOK = t.o.sackOK := a11
    have e12 : s.o.hasTime = t.o.hasTime := a12
    have e14 : s.o.sacks = t.o.sacks := a14
    have e15 : s.o.hasAO = t.o.hasAO := a15
    have e17 : s.data.length = t.data.length := a17
    refine ⟨e1, e2, e4, ?_, e3, e6, rfl, ⟨e14, e7, ?_, e9, ?_, e11, e12, ?_, ?_, e15, ?_, ?_, ?_⟩, by show List.replicate _ _ = List.replicate _ _; rw [e17]⟩
    · show (if s.flags / 16 % 2 = 1 then s.ack else 0) = (if t.flags / 16 % 2 = 1 then t.ack else 0)
      rw [← e3]
      by_cases hk : s.flags / 16 % 2 = 1
      · rw [if_pos hk, if_pos hk]
        exact a5 (decide_eq_true hk)
      · rw [if_neg hk, if_neg hk]
    · show s.o.mss = t.o.mss
      cases hm : s.o.hasMSS
      · rw [s1 hm, t1 (e7 ▸ hm)]
      · exact a8 hm
    · show s.o.scale = t.o.scale
      cases hm : s.o.hasScale
      · rw [s2 hm, t2 (e9 ▸ hm)]
      · exact a10 hm
    · show s.o.val = t.o.val
      cases hm : s.o.hasTime
      · rw [(s3 hm).1, (t3 (e12 ▸ hm)).1]
      · exact (a13 hm).1
    · show s.o.echo = t.o.echo
      cases hm : s.o.hasTime
      · rw [(s3 hm).2, (t3 (e12 ▸ hm)).2]
      · exact (a13 hm).2
    · show s.o.key = t.o.key
      cases hm : s.o.hasAO
      · rw [(s4 hm).1, (t4 (e15 ▸ hm)).1]
      · exact (a16 hm).1
    · show s.o.next = t.o.next
      cases hm : s.o.hasAO
      · rw [(s4 hm).2.1, (t4 (e15 ▸ hm)).2.1]
      · exact (a16 hm).2.1
    · show s.o.mac = t.o.mac
      cases hm : s.o.hasAO
      · rw [(s4 hm).2.2, (t4 (e15 ▸ hm)).2.2]
      · exact hexOf_inj _ _ (a16 hm).2.2
  · rintro ⟨e1, e2, e4, e5, e3, e6, _, ⟨c1, c2, c3, c4, c5, c6, c7, c8, c9, c10, c11, c12, c13⟩, e17⟩
    have e1 : s.src = t.src := e1
    have e2 : s.dst = t.dst := e2
    have e4 : s.seq = t.seq := e4
    have e3 : s.flags = t.flags := e3
    have e6 : s.win = t.win := e6
    have e5 : (if s.flags / 16 % 2 = 1 then s.ack else 0) = (if t.flags / 16 % 2 = 1 then t.ack else 0) := e5
    have e17 : s.data.length = t.data.length := rep_inj e17
    have hack : optN (decide (s.flags / 16 % 2 = 1)) (addN (addS (addN (addN [] wTcp [s.src]) wGt [s.dst]) (flagsS s.flags)) wSeq [s.seq]) wAck [s.ack] = optN (decide (t.flags / 16 % 2 = 1)) (addN (addS (addN (addN [] wTcp [t.src]) wGt [t.dst]) (flagsS t.flags)) wSeq [t.seq]) wAck [t.ack] := by
      rw [e1, e2, e3, e4]
      rw [e3] at e5
      by_cases hk : t.flags / 16 % 2 = 1
      · rw [if_pos hk, if_pos hk] at e5
        rw [e5]
      · rw [decide_eq_false hk]
        rfl
    unfold segN optsN
    rw [hack]
    have d1 : s.o.sacks = t.o.sacks := c1
    have d2 : s.o.hasMSS = t.o.hasMSS := c2
    have d3 : s.o.mss = t.o.mss := c3
    have d4 : s.o.hasScale = t.o.hasScale := c4
    have d5 : s.o.scale = t.o.scale := c5
    have d6 : s.o.sackOK = t.o.sackOK := c6
    have d7 : s.o.hasTime = t.o.hasTime := c7
    have d8 : s.o.val = t.o.val := c8
    have d9 : s.o.echo = t.o.echo := c9
    have d10 : s.o.hasAO = t.o.hasAO := c10
    have d11 : s.o.key = t.o.key := c11
    have d12 : s.o.next = t.o.next := c12
    have d13 : s.o.mac = t.o.mac := c13
    rw [e6, e17, d1, d2, d3, d4, d5, d6, d7, d8, d9, d10, d11, d12, d13]
end Go.Proofs.Ytfliddlcbnaoiaa
