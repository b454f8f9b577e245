/- IPv4 in plain words: what is laid is read back, whatever stands behind. -/
import Derived.Test.YtpcfgihomplehaaPktR
import Derived.Test.YtpcfgihomplehaaPlainSum
namespace Go.Proofs.Ytpcfgihomplehaa
set_option linter.unusedVariables false
set_option linter.unusedSimpArgs false
open Go.RowKit

def Adr.tail (a : Adr) : List UInt8 := a.bytes.drop 4
def mayA (a : Adr) : Bool := a.six || decide (a.tail = [0, 0, 0, 0, 0, 0, 0, 0, 0, 0, 0, 0])
def adr4 (b : List UInt8) : Adr := ⟨false, b.getD 0 0, b.getD 1 0, b.getD 2 0, b.getD 3 0, 0, 0, 0, 0, 0, 0, 0, 0, 0, 0, 0, 0⟩
theorem adr4_bytes (a : Adr) (h : a.six = false) (hm : mayA a = true) : adr4 (a.bytes.take 4) = a := by
  obtain ⟨s, b0, b1, b2, b3, b4, b5, b6, b7, b8, b9, b10, b11, b12, b13, b14, b15⟩ := a
  simp only at h
  subst h
  have : [b4, b5, b6, b7, b8, b9, b10, b11, b12, b13, b14, b15] = [0, 0, 0, 0, 0, 0, 0, 0, 0, 0, 0, 0] := of_decide_eq_true hm
  injection this with e4 this; injection this with e5 this; injection this with e6 this; injection this with e7 this; injection this with e8 this; injection this with e9 this
  injection this with e10 this; injection this with e11 this; injection this with e12 this; injection this with e13 this; injection this with e14 this; injection this with e15 _
  subst e4 e5 e6 e7 e8 e9 e10 e11 e12 e13 e14 e15
  rfl
theorem mayA_adr4 (b : List UInt8) : mayA (adr4 b) = true := rfl
def may4 (p : Pkt) : Bool :=
  !p.src.six && !p.dst.six && mayA p.src && mayA p.dst && decide (p.id ≤ 65535 ∧ 0 ≤ p.off ∧ p.off % 8 = 0 ∧ p.load.length ≤ 65515 ∧ p.off + p.load.length ≤ 65515) &&
    (!p.more || decide (p.load.length % 8 = 0)) && (!p.whole || (!p.more && decide (p.off = 0)))
structure May4 (p : Pkt) : Prop where
  src : p.src.six = false
  dst : p.dst.six = false
  srcA : mayA p.src = true
  dstA : mayA p.dst = true
  id : p.id ≤ 65535
  off : 0 ≤ p.off ∧ p.off % 8 = 0 ∧ p.load.length ≤ 65515 ∧ p.off + p.load.length ≤ 65515
  more : p.more = true → p.load.length % 8 = 0
  whole : p.whole = true → p.more = false ∧ p.off = 0
theorem may4_iff (p : Pkt) : may4 p = true ↔ May4 p := by
  unfold may4
  constructor
  · intro h
    simp only [Bool.and_eq_true, Bool.not_eq_true', decide_eq_true_eq, Bool.or_eq_true] at h
    obtain ⟨⟨⟨⟨⟨⟨h1, h2⟩, h3⟩, h4⟩, h0, h5⟩, h6⟩, h7⟩ := h
    exact ⟨h1, h2, h3, h4, h0, h5, fun hm => by rcases h6 with h | h; rw [hm] at h; cases h; exact h, fun hw => by rcases h7 with h | ⟨h, h'⟩; rw [hw] at h; cases h; exact ⟨h, h'⟩⟩
  · intro h
    simp only [Bool.and_eq_true, Bool.not_eq_true', decide_eq_true_eq, Bool.or_eq_true]
    refine ⟨⟨⟨⟨⟨⟨h.src, h.dst⟩, h.srcA⟩, h.dstA⟩, h.id, h.off⟩, ?_⟩, ?_⟩
    · cases hm : p.more
      · exact .inl rfl
      · exact .inr (h.more hm)
    · cases hw : p.whole
      · exact .inl rfl
      · have := h.whole hw
        exact .inr ⟨this.1, this.2⟩
def flags4 (p : Pkt) : Nat := (p.off / 8).toNat + (if p.whole then 0x4000 else 0) + (if p.more then 0x2000 else 0)
def head4 (p : Pkt) (check : Int) : List UInt8 :=
  [0x45, 0] ++ (beB 2 (20 + p.load.length) ++ (beB 2 p.id ++ (beB 2 (flags4 p) ++ ([p.hops, p.proto, hi8 check, lo8 check] ++ (p.src.bytes.take 4 ++ p.dst.bytes.take 4)))))
def check4 (p : Pkt) : Int := 65535 - foldS (wsum (head4 p 0))
def lay4 (p : Pkt) : List UInt8 := if may4 p then head4 p (check4 p) ++ p.load else []
def size4 (b : List UInt8) : Nat := ((b.getD 0 0).toNat % 16) * 4
def all4 (b : List UInt8) : Nat := be ((b.drop 2).take 2)
def mark4 (b : List UInt8) : Nat := be ((b.drop 6).take 2)
def pkt4 (b : List UInt8) : Pkt :=
  { src := adr4 ((b.drop 12).take 4), dst := adr4 ((b.drop 16).take 4), proto := b.getD 9 0, hops := b.getD 8 0, id := be ((b.drop 4).take 2),
    whole := decide (mark4 b / 16384 % 2 = 1), more := decide (mark4 b / 8192 % 2 = 1), off := ((mark4 b % 8192 * 8 : Nat) : Int), load := (b.take (all4 b)).drop (size4 b) }
def perr4 (b : List UInt8) : Int :=
  if b.length < 20 then 4 else if (b.getD 0 0).toNat / 16 ≠ 4 then 11 else if size4 b < 20 then 3 else if b.length < size4 b then 4
  else if foldS (wsum (b.take (size4 b))) ≠ 65535 then 8 else if all4 b < size4 b then 3 else if b.length < all4 b then 4
  else if 32768 ≤ mark4 b ∨ may4 (pkt4 b) = false then 3 else 0
def parse4 (b : List UInt8) : Pkt × Int := if perr4 b = 0 then (pkt4 b, 0) else (noPkt, perr4 b)
theorem head4_len (p : Pkt) (c : Int) : (head4 p c).length = 20 := by
  unfold head4; simp [beB_length, Adr.bytes_length]
/-- A header's bytes one by one. -/
theorem head4_parts (p : Pkt) (c : Int) (z : List UInt8) (hs : p.load.length ≤ 65515) (hi : p.id ≤ 65535) (hf : flags4 p ≤ 65535) :
    (head4 p c ++ z).getD 0 0 = 0x45 ∧ all4 (head4 p c ++ z) = 20 + p.load.length ∧ be (((head4 p c ++ z).drop 4).take 2) = p.id ∧ mark4 (head4 p c ++ z) = flags4 p ∧
      (head4 p c ++ z).getD 8 0 = p.hops ∧ (head4 p c ++ z).getD 9 0 = p.proto ∧ ((head4 p c ++ z).drop 12).take 4 = p.src.bytes.take 4 ∧ ((head4 p c ++ z).drop 16).take 4 = p.dst.bytes.take 4 := by
  have v2 : be (beB 2 (20 + p.load.length)) = 20 + p.load.length := by rw [be_beB]; omega
  have v4 : be (beB 2 p.id) = p.id := by rw [be_beB]; omega
  have v6 : be (beB 2 (flags4 p)) = flags4 p := by rw [be_beB]; omega
  unfold all4 mark4 head4
  have l2 : (beB 2 (20 + p.load.length)).length = 2 := beB_length _ _
  have l4 : (beB 2 p.id).length = 2 := beB_length _ _
  have l6 : (beB 2 (flags4 p)).length = 2 := beB_length _ _
  generalize beB 2 (20 + p.load.length) = A at v2 l2 ⊢
  generalize beB 2 p.id = B at v4 l4 ⊢
  generalize beB 2 (flags4 p) = C at v6 l6 ⊢
  obtain ⟨x, y, rfl⟩ : ∃ x y, A = [x, y] := by
    match A, l2 with
    | [x, y], _ => exact ⟨x, y, rfl⟩
  obtain ⟨x', y', rfl⟩ : ∃ x y, B = [x, y] := by
    match B, l4 with
    | [x, y], _ => exact ⟨x, y, rfl⟩
  obtain ⟨x'', y'', rfl⟩ : ∃ x y, C = [x, y] := by
    match C, l6 with
    | [x, y], _ => exact ⟨x, y, rfl⟩
  exact ⟨rfl, v2, v4, v6, rfl, rfl, rfl, rfl⟩
theorem wsum_head4 (p : Pkt) (c : Int) (h0 : 0 ≤ c) (h1 : c ≤ 65535) : wsum (head4 p c) = wsum (head4 p 0) + c := by
  have hc := hilo c h0 h1
  unfold head4
  have e : ∀ c : Int, ([0x45, 0] ++ (beB 2 (20 + p.load.length) ++ (beB 2 p.id ++ (beB 2 (flags4 p) ++ ([p.hops, p.proto, hi8 c, lo8 c] ++ (p.src.bytes.take 4 ++ p.dst.bytes.take 4))))) : List UInt8) =
      ([0x45, 0] ++ (beB 2 (20 + p.load.length) ++ (beB 2 p.id ++ (beB 2 (flags4 p) ++ [p.hops, p.proto])))) ++ ([hi8 c, lo8 c] ++ (p.src.bytes.take 4 ++ p.dst.bytes.take 4)) := by intro c; simp
  have w3 : ∀ (X Y : List UInt8) (x y : UInt8), X.length % 2 = 0 → wsum (X ++ ([x, y] ++ Y)) = wsum X + (x.toNat * 256 + y.toNat : Int) + wsum Y := by
    intro X Y x y hX
    rw [wsum_append _ _ hX]
    show wsum X + wsum (x :: y :: Y) = _
    rw [wsum_drop2 (x :: y :: Y) (by simp)]
    show wsum X + ((x.toNat * 256 + y.toNat : Int) + wsum Y) = _
    omega
  have z := hilo 0 (by omega) (by omega)
  rw [e, e 0, w3 _ _ _ _ (by simp [beB_length]), w3 _ _ _ _ (by simp [beB_length]), hc, z]
  omega
theorem parse4_lay (p : Pkt) (ho : p.Ok) (hm : may4 p = true) (z : List UInt8) : parse4 (lay4 p ++ z) = (p, 0) := by
  have h := (may4_iff p).1 hm
  have hoff := h.off
  have hfl : flags4 p < 32768 ∧ decide (flags4 p / 16384 % 2 = 1) = p.whole ∧ decide (flags4 p / 8192 % 2 = 1) = p.more ∧ ((flags4 p % 8192 * 8 : Nat) : Int) = p.off := by
    have hw := h.whole
    unfold flags4
    have h9 : p.off / 8 < 8192 := by omega
    cases e1 : p.whole <;> cases e2 : p.more
    · simp; omega
    · simp; omega
    · have := hw e1; simp; omega
    · have := hw e1; rw [e2] at this; exact absurd this.1 (by decide)
  unfold lay4
  rw [if_pos hm, List.append_assoc]
  have c0 : 0 ≤ check4 p ∧ check4 p ≤ 65535 := by unfold check4; have := foldS_range (wsum (head4 p 0)); omega
  obtain ⟨q0, q2, q4, q6, q8, q9, q12, q16⟩ := head4_parts p (check4 p) (p.load ++ z) hoff.2.2.1 h.id (by omega)
  have hlen := head4_len p (check4 p)
  have hsz : size4 (head4 p (check4 p) ++ (p.load ++ z)) = 20 := by unfold size4; rw [q0]; rfl
  have hpk : pkt4 (head4 p (check4 p) ++ (p.load ++ z)) = p := by
    unfold pkt4
    rw [q4, q6, q8, q9, q12, q16, q2, hsz, hfl.2.1, hfl.2.2.1, hfl.2.2.2, adr4_bytes _ h.src h.srcA, adr4_bytes _ h.dst h.dstA]
    have : (List.take (20 + p.load.length) (head4 p (check4 p) ++ (p.load ++ z))).drop 20 = p.load := by
      rw [← List.append_assoc, List.take_left' (by rw [List.length_append, hlen]), List.drop_left' hlen]
    rw [this]
  have hsum : foldS (wsum ((head4 p (check4 p) ++ (p.load ++ z)).take 20)) = 65535 := by
    rw [List.take_left' hlen, wsum_head4 p _ c0.1 c0.2]
    exact foldS_laid _ (wsum_range _).1
  have hk : perr4 (head4 p (check4 p) ++ (p.load ++ z)) = 0 := by
    unfold perr4
    rw [hsz, hsum, q2, q6, hpk, hm, q0, List.length_append, List.length_append, hlen]
    rw [if_neg (by omega), if_neg (by decide), if_neg (by omega), if_neg (by omega), if_neg (by omega), if_neg (by omega), if_neg (by omega), if_neg (by simp; omega)]
  unfold parse4
  rw [if_pos hk, hpk]
end Go.Proofs.Ytpcfgihomplehaa
