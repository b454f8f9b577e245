/- ICMP's messages in plain words: what may be, their bytes, and how they are read. -/
import Derived.Test.YtfliddlcbnaoiaaAdr
import Derived.Test.YtfliddlcbnaoiaaOctP
import Derived.Test.YtfliddlcbnaoiaaPlainSum
namespace Go.Proofs.Ytfliddlcbnaoiaa
set_option linter.unusedVariables false
set_option linter.unusedSimpArgs false
open Go.RowKit

structure Msg where
  kind : Int
  code : Int
  id : Int
  seq : Int
  mtu : Int
  data : List UInt8
structure Msg.Ok (m : Msg) : Prop where
  kind : -9223372036854775808 ≤ m.kind ∧ m.kind ≤ 9223372036854775807
  code : 0 ≤ m.code ∧ m.code ≤ 255
  id : 0 ≤ m.id ∧ m.id ≤ 65535
  seq : 0 ≤ m.seq ∧ m.seq ≤ 65535
  mtu : 0 ≤ m.mtu ∧ m.mtu ≤ 4294967295
def Msg.cells (m : Msg) (dv : Value) : Array Value := #[.int .i64 m.kind, .int .u8 m.code, .int .u16 m.id, .int .u16 m.seq, .int .u32 m.mtu, dv]
def Msg.v (m : Msg) (dv : Value) : Value := .agg (m.cells dv)

/-- Whether a message may be. -/
def mayS (m : Msg) (six : Bool) : Bool :=
  decide (((m.kind = 1 ∨ m.kind = 2) ∨ (m.id = 0 ∧ m.seq = 0)) ∧ ((m.kind = 3 ∨ m.kind = 5) ∨ m.code = 0) ∧ (m.kind = 4 ∨ m.mtu = 0) ∧ (six = true ∨ m.mtu ≤ 65535) ∧ 1 ≤ m.kind ∧ m.kind ≤ 5 ∧ m.data.length ≤ 1400)
/-- A message's type and code. -/
def typK (k : Int) (six : Bool) : UInt8 :=
  if six then (if k = 1 then 128 else if k = 2 then 129 else if k = 3 then 1 else if k = 4 then 2 else 3)
  else (if k = 1 then 8 else if k = 2 then 0 else if k = 5 then 11 else 3)
def typS (m : Msg) (six : Bool) : UInt8 := typK m.kind six
def codS (m : Msg) (six : Bool) : UInt8 := if six then UInt8.ofNat m.code.toNat else if m.kind = 4 then 4 else UInt8.ofNat m.code.toNat
/-- The four bytes behind the check sum. -/
def restS (m : Msg) : List UInt8 := if m.kind = 4 then beB 4 m.mtu.toNat else beB 2 m.id.toNat ++ beB 2 m.seq.toNat
def bytesS (m : Msg) (six : Bool) (check : Int) : List UInt8 := [typS m six, codS m six, hi8 check, lo8 check] ++ restS m ++ m.data
/-- The sum of a message's bytes. -/
def sumS (b : List UInt8) (s d : Adr) : Int := foldS (wtot (if s.six then [pseudoS s d 58 b.length, b] else [b]))
def laysB (m : Msg) (s : Adr) : Bool := mayS m s.six && !(!s.six && decide (m.kind = 3) && decide (m.code = 4))
def layS (m : Msg) (s d : Adr) : List UInt8 := if laysB m s then bytesS m s.six (65535 - sumS (bytesS m s.six 0) s d) else []
/-- The kind of a type and a code. -/
def kindS (t c : Nat) (six : Bool) : Int :=
  if six then (if t = 128 then 1 else if t = 129 then 2 else if t = 1 then 3 else if t = 2 then 4 else if t = 3 then 5 else 0)
  else (if t = 8 then 1 else if t = 0 then 2 else if t = 11 then 5 else if t = 3 then (if c = 4 then 4 else 3) else 0)
def readS (b : List UInt8) (six : Bool) : Msg :=
  let k := kindS (b.getD 0 0).toNat (b.getD 1 0).toNat six
  { kind := k, code := if k = 3 ∨ k = 5 then ((b.getD 1 0).toNat : Int) else 0,
    id := if k = 1 ∨ k = 2 then (be ((b.drop 4).take 2) : Int) else 0, seq := if k = 1 ∨ k = 2 then (be ((b.drop 6).take 2) : Int) else 0,
    mtu := if k = 1 ∨ k = 2 ∨ k = 3 ∨ k = 5 then 0 else (be ((b.drop 4).take 4) : Int), data := b.drop 8 }
def noMsg : Msg := ⟨0, 0, 0, 0, 0, []⟩
/-- The error of a reading; 0: none. -/
def perrS (b : List UInt8) (s d : Adr) : Int :=
  if b.length < 8 then 4 else if sumS b s d ≠ 65535 then 8 else if mayS (readS b s.six) s.six then 0 else 11
def parseS (b : List UInt8) (s d : Adr) : Msg := if perrS b s d = 0 then readS b s.six else noMsg
def sameS (a b : Msg) : Bool := decide (a.kind = b.kind ∧ a.code = b.code ∧ a.id = b.id ∧ a.seq = b.seq ∧ a.mtu = b.mtu ∧ a.data = b.data)
def replyS (m : Msg) : Msg := if m.kind = 1 then { kind := 2, code := 0, id := m.id, seq := m.seq, mtu := 0, data := m.data } else noMsg
def aboutS (kind : Int) (p : List UInt8) (six : Bool) : Msg :=
  if kind = 3 ∨ kind = 4 ∨ kind = 5 then { noMsg with kind := kind, data := p.take (if six then 1232 else 548) } else noMsg
theorem sameS_iff (a b : Msg) : sameS a b = true ↔ a = b := by
  obtain ⟨a1, a2, a3, a4, a5, a6⟩ := a
  obtain ⟨b1, b2, b3, b4, b5, b6⟩ := b
  simp [sameS]
theorem noMsg_ok : noMsg.Ok := ⟨by decide, by decide, by decide, by decide, by decide⟩
theorem be2_le (b : List UInt8) (k : Nat) : be ((b.drop k).take 2) ≤ 65535 := by
  have h := be_lt ((b.drop k).take 2)
  have hl : ((b.drop k).take 2).length ≤ 2 := by rw [List.length_take]; omega
  have := Nat.pow_le_pow_right (show 0 < 256 by omega) hl
  omega
theorem be4_le (b : List UInt8) (k : Nat) : be ((b.drop k).take 4) ≤ 4294967295 := by
  have h := be_lt ((b.drop k).take 4)
  have hl : ((b.drop k).take 4).length ≤ 4 := by rw [List.length_take]; omega
  have := Nat.pow_le_pow_right (show 0 < 256 by omega) hl
  omega
theorem kindS_range (t c : Nat) (six : Bool) : 0 ≤ kindS t c six ∧ kindS t c six ≤ 5 := by
  unfold kindS; repeat' split
  all_goals omega
theorem readS_ok (b : List UInt8) (six : Bool) : (readS b six).Ok := by
  have hk := kindS_range (b.getD 0 0).toNat (b.getD 1 0).toNat six
  have h1 := be2_le b 4
  have h2 := be2_le b 6
  have h3 := be4_le b 4
  have h4 := (b.getD 1 0).toNat_lt
  unfold readS
  constructor <;> simp only <;> (repeat' split) <;> omega
end Go.Proofs.Ytfliddlcbnaoiaa
