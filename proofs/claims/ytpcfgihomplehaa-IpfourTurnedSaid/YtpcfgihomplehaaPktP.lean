/- Packets of IP, and IPv6's bytes, in plain words. -/
import Derived.Test.YtpcfgihomplehaaAdr
import Derived.Test.YtpcfgihomplehaaOctP
namespace Go.Proofs.Ytpcfgihomplehaa
set_option linter.unusedVariables false
set_option linter.unusedSimpArgs false
open Go.RowKit

structure Pkt where
  src : Adr
  dst : Adr
  proto : UInt8
  hops : UInt8
  id : Nat
  whole : Bool
  more : Bool
  off : Int
  load : List UInt8
structure Pkt.Ok (p : Pkt) : Prop where
  id : p.id ≤ 4294967295
  off : -9223372036854775808 ≤ p.off ∧ p.off ≤ 9223372036854775807
def isPastS (k : UInt8) : Bool := k = 0 || k = 43 || k = 60
/-- Whether a packet of IPv6 may be. -/
def may6 (p : Pkt) : Bool :=
  p.src.six && p.dst.six && !isPastS p.proto && !decide (p.proto = 44) &&
    decide (0 ≤ p.off ∧ p.off % 8 = 0 ∧ p.off ≤ 65528 ∧ p.load.length ≤ 65527 ∧ p.off + p.load.length ≤ 65527) &&
    (!p.more || decide (p.load.length % 8 = 0)) && (!p.whole || (!p.more && decide (p.off = 0) && decide (p.id = 0)))
def frag6 (p : Pkt) : List UInt8 := if p.whole then [] else [p.proto, 0] ++ beB 2 (p.off.toNat + (if p.more then 1 else 0)) ++ beB 4 p.id
/-- A packet's bytes. -/
def bytes6 (p : Pkt) : List UInt8 :=
  [0x60, 0, 0, 0] ++ beB 2 ((frag6 p).length + p.load.length) ++ [if p.whole then p.proto else 44, p.hops] ++ p.src.bytes ++ p.dst.bytes ++ frag6 p ++ p.load
def lay6 (p : Pkt) : List UInt8 := if may6 p then bytes6 p else []
def adr6 (b : List UInt8) : Adr := ⟨true, b.getD 0 0, b.getD 1 0, b.getD 2 0, b.getD 3 0, b.getD 4 0, b.getD 5 0, b.getD 6 0, b.getD 7 0, b.getD 8 0, b.getD 9 0, b.getD 10 0, b.getD 11 0, b.getD 12 0, b.getD 13 0, b.getD 14 0, b.getD 15 0⟩
theorem adr6_bytes (a : Adr) (h : a.six = true) : adr6 a.bytes = a := by
  obtain ⟨s, b0, b1, b2, b3, b4, b5, b6, b7, b8, b9, b10, b11, b12, b13, b14, b15⟩ := a
  simp only at h
  subst h
  rfl
/-- What the headers leave: the protocol, a fragment's fields, the rest; or an error. i: how many were gone past. -/
inductive Heads where
  | err (e : Int)
  | ok (proto : UInt8) (frag : Option (Nat × Nat)) (rest : List UInt8)
def heads6 : Nat → Nat → UInt8 → List UInt8 → Heads
  | 0, _, _, _ => .err 5
  | n + 1, i, k, r =>
    if k = 44 then
      (if i = 8 then .err 5 else if r.length < 8 then .err 4 else .ok (r.getD 0 0) (some (be ((r.drop 2).take 2), be ((r.drop 4).take 4))) (r.drop 8))
    else if isPastS k then
      (if i = 8 then .err 5 else if i ≠ 0 ∧ k = 0 then .err 3 else
        if r.length < 2 then .err 4 else if r.length < 8 * ((r.getD 1 0).toNat + 1) then .err 4 else heads6 n (i + 1) (r.getD 0 0) (r.drop (8 * ((r.getD 1 0).toNat + 1))))
    else .ok k none r
def pkt6 (b : List UInt8) (k : UInt8) (f : Option (Nat × Nat)) (r : List UInt8) : Pkt :=
  { src := adr6 ((b.drop 8).take 16), dst := adr6 ((b.drop 24).take 16), proto := k, hops := b.getD 7 0,
    id := match f with | none => 0 | some x => x.2, whole := f.isNone, more := match f with | none => false | some x => decide (x.1 % 2 = 1),
    off := match f with | none => 0 | some x => ((x.1 / 8 * 8 : Nat) : Int), load := r }
def noPkt : Pkt := ⟨⟨false, 0, 0, 0, 0, 0, 0, 0, 0, 0, 0, 0, 0, 0, 0, 0, 0⟩, ⟨false, 0, 0, 0, 0, 0, 0, 0, 0, 0, 0, 0, 0, 0, 0, 0, 0⟩, 0, 0, 0, false, false, 0, []⟩
/-- What a reading of bytes ends as: the packet, and the error (0: none). -/
def parse6 (b : List UInt8) : Pkt × Int :=
  if b.length < 40 then (noPkt, 4)
  else if (b.getD 0 0).toNat / 16 ≠ 6 then (noPkt, 11)
  else if b.length - 40 < be ((b.drop 4).take 2) then (noPkt, 4)
  else match heads6 9 0 (b.getD 6 0) ((b.drop 40).take (be ((b.drop 4).take 2))) with
    | .err e => (noPkt, e)
    | .ok k f r => if may6 (pkt6 b k f r) then (pkt6 b k f r, 0) else (noPkt, 3)
theorem frag6_len (p : Pkt) : (frag6 p).length = if p.whole then 0 else 8 := by
  unfold frag6; split <;> simp [beB_length]
theorem bytes6_len (p : Pkt) : (bytes6 p).length = 40 + (frag6 p).length + p.load.length := by
  unfold bytes6; simp [beB_length, Adr.bytes_length]; omega
theorem bytes6_parts (p : Pkt) (hs : (frag6 p).length + p.load.length ≤ 65535) : (bytes6 p).getD 0 0 = 0x60 ∧ be (((bytes6 p).drop 4).take 2) = (frag6 p).length + p.load.length ∧
    (bytes6 p).getD 6 0 = (if p.whole then p.proto else 44) ∧ (bytes6 p).getD 7 0 = p.hops ∧ ((bytes6 p).drop 8).take 16 = p.src.bytes ∧ ((bytes6 p).drop 24).take 16 = p.dst.bytes ∧ (bytes6 p).drop 40 = frag6 p ++ p.load := by
  have l2 : (beB 2 ((frag6 p).length + p.load.length)).length = 2 := beB_length _ _
  have v2 : be (beB 2 ((frag6 p).length + p.load.length)) = (frag6 p).length + p.load.length := by rw [be_beB]; omega
  unfold bytes6
  generalize (frag6 p).length + p.load.length = n at l2 v2 ⊢
  generalize beB 2 n = B at l2 v2 ⊢
  obtain ⟨x, y, rfl⟩ : ∃ x y, B = [x, y] := by
    match B, l2 with
    | [x, y], _ => exact ⟨x, y, rfl⟩
  have e : [0x60, 0, 0, 0] ++ [x, y] ++ [if p.whole = true then p.proto else 44, p.hops] ++ p.src.bytes ++ p.dst.bytes ++ frag6 p ++ p.load = [0x60, 0, 0, 0, x, y, if p.whole = true then p.proto else 44, p.hops] ++ (p.src.bytes ++ (p.dst.bytes ++ (frag6 p ++ p.load))) := by simp
  rw [e]
  refine ⟨rfl, v2, rfl, rfl, ?_, ?_, ?_⟩
  · show (p.src.bytes ++ _).take 16 = _
    exact List.take_left' rfl
  · show ((p.src.bytes ++ (p.dst.bytes ++ (frag6 p ++ p.load))).drop 16).take 16 = _
    rw [List.drop_left' (Adr.bytes_length _)]
    exact List.take_left' rfl
  · show (p.src.bytes ++ (p.dst.bytes ++ (frag6 p ++ p.load))).drop 32 = _
    rw [List.drop_append, List.drop_eq_nil_of_le (by rw [Adr.bytes_length]; omega), List.nil_append, Adr.bytes_length]
    exact List.drop_left' (Adr.bytes_length _)
end Go.Proofs.Ytpcfgihomplehaa
