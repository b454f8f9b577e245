/- Options and segments in memory. -/
import Derived.Test.YthnidgiogjehkaaBcs
import Derived.Test.YthnidgiogjehkaaStruct
import Derived.Test.YthnidgiogjehkaaU8
namespace Go.Proofs.Ythnidgiogjehkaa
set_option linter.unusedVariables false
set_option linter.unusedSimpArgs false
open Go.RowKit

structure OptM where
  hasMSS : Bool
  mss : Nat
  hasScale : Bool
  scale : Nat
  sackOK : Bool
  A : Option Addr
  c : Nat
  sacks : List (Nat × Nat)
  hasTime : Bool
  val : Nat
  echo : Nat
  hasAO : Bool
  key : Nat
  next : Nat
  mac : List UInt8
def OptM.head (o : OptM) : List Value := [.bool o.hasMSS, .int .u16 (o.mss : Int), .bool o.hasScale, .int .u8 (o.scale : Int), .bool o.sackOK, .slice o.A o.sacks.length o.c, .bool o.hasTime, .int .u32 (o.val : Int), .int .u32 (o.echo : Int), .bool o.hasAO, .int .u8 (o.key : Int), .int .u8 (o.next : Int)]
def OptM.cells (o : OptM) : Array Value := (o.head ++ by8 o.mac).toArray
structure OptOk (w : World) (o : OptM) : Prop where
  mss : o.mss < 65536
  scale : o.scale < 256
  val : o.val < 4294967296
  echo : o.echo < 4294967296
  key : o.key < 256
  next : o.next < 256
  mac : o.mac.length = 12
  row : Row w 2 o.A o.sacks.length o.c (bcs o.sacks)
  ok : OkB o.sacks
theorem OptOk.below {w w' : World} {o : OptM} (h : OptOk w o) (hb : Below w.heap.size w w') : OptOk w' o := ⟨h.mss, h.scale, h.val, h.echo, h.key, h.next, h.mac, h.row.below hb, h.ok⟩
theorem OptM.at (o : OptM) (k : Nat) (v : Value) (h : o.head[k]? = some v) : o.cells[k]? = some v := by
  unfold OptM.cells
  rw [List.getElem?_toArray, List.getElem?_append_left (List.getElem?_eq_some_iff.1 h).1]
  exact h
theorem OptM.mac_at (o : OptM) (j : Nat) (v : Value) (h : (by8 o.mac)[j]? = some v) : o.cells[12 + j]? = some v := by
  unfold OptM.cells
  rw [List.getElem?_toArray, List.getElem?_append_right (by simp [OptM.head])]
  simpa [OptM.head] using h
theorem OptM.size (o : OptM) (h : o.mac.length = 12) : o.cells.size = 24 := by
  unfold OptM.cells
  simp [OptM.head, by8_length, h]
/-- What a block that holds options gives. -/
theorem opt_cells {w : World} {b : Nat} {o : OptM} {T : TypeId} {fz : Nat × Nat} (h : w.heap[b]? = some (.cells o.cells T fz)) :
    w.cell? ⟨b, 0, none⟩ = some (.bool o.hasMSS) ∧ w.cell? ⟨b, 1, none⟩ = some (.int .u16 (o.mss : Int)) ∧ w.cell? ⟨b, 2, none⟩ = some (.bool o.hasScale) ∧ w.cell? ⟨b, 3, none⟩ = some (.int .u8 (o.scale : Int)) ∧
    w.cell? ⟨b, 4, none⟩ = some (.bool o.sackOK) ∧ w.cell? ⟨b, 5, none⟩ = some (.slice o.A o.sacks.length o.c) ∧ w.cell? ⟨b, 6, none⟩ = some (.bool o.hasTime) ∧ w.cell? ⟨b, 7, none⟩ = some (.int .u32 (o.val : Int)) ∧
    w.cell? ⟨b, 8, none⟩ = some (.int .u32 (o.echo : Int)) ∧ w.cell? ⟨b, 9, none⟩ = some (.bool o.hasAO) ∧ w.cell? ⟨b, 10, none⟩ = some (.int .u8 (o.key : Int)) ∧ w.cell? ⟨b, 11, none⟩ = some (.int .u8 (o.next : Int)) := by
  have e : ∀ k, w.cell? ⟨b, k, none⟩ = o.cells[k]? := fun k => by simp [World.cell?, h]
  refine ⟨?_, ?_, ?_, ?_, ?_, ?_, ?_, ?_, ?_, ?_, ?_, ?_⟩ <;> rw [e] <;> exact o.at _ _ rfl
/-- The code of a message's authentication, as a slice of its array. -/
theorem opt_mac {w : World} {b : Nat} {o : OptM} {T : TypeId} {fz : Nat × Nat} (h : w.heap[b]? = some (.cells o.cells T fz)) (hm : o.mac.length = 12) : RB w (.slice (some ⟨b, 12, none⟩) 12 12) o.mac :=
  RB.inBlock h hm.symm (Nat.le_refl _) (by decide) fun j v hv => o.mac_at j v hv
/-! ### Segments -/
structure SegM where
  src : Nat
  dst : Nat
  seq : Nat
  ack : Nat
  flags : Nat
  win : Nat
  urg : Nat
  o : OptM
  D : Option Addr
  dc : Nat
  data : List UInt8
def SegM.cells (s : SegM) : Array Value := #[.int .u16 (s.src : Int), .int .u16 (s.dst : Int), .int .u32 (s.seq : Int), .int .u32 (s.ack : Int), .int .u8 (s.flags : Int), .int .u16 (s.win : Int), .int .u16 (s.urg : Int)] ++ s.o.cells ++ #[.slice s.D s.data.length s.dc]
structure SegOk (w : World) (s : SegM) : Prop where
  src : s.src < 65536
  dst : s.dst < 65536
  seq : s.seq < 4294967296
  ack : s.ack < 4294967296
  flags : s.flags < 256
  win : s.win < 65536
  urg : s.urg < 65536
  o : OptOk w s.o
  data : RB w (.slice s.D s.data.length s.dc) s.data
theorem SegOk.below {w w' : World} {s : SegM} (h : SegOk w s) (hb : Below w.heap.size w w') : SegOk w' s := ⟨h.src, h.dst, h.seq, h.ack, h.flags, h.win, h.urg, h.o.below hb, h.data.below hb⟩
theorem SegM.head_at (s : SegM) (k : Nat) (v : Value) (h : (#[.int .u16 (s.src : Int), .int .u16 (s.dst : Int), .int .u32 (s.seq : Int), .int .u32 (s.ack : Int), .int .u8 (s.flags : Int), .int .u16 (s.win : Int), .int .u16 (s.urg : Int)] : Array Value)[k]? = some v) : s.cells[k]? = some v := by
  have hk := (Array.getElem?_eq_some_iff.1 h).1
  unfold SegM.cells
  rw [Array.append_assoc, Array.getElem?_append_left hk]
  exact h
theorem SegM.opt_at (s : SegM) (k : Nat) (hk : k < s.o.cells.size) : s.cells[7 + k]? = s.o.cells[k]? := by
  unfold SegM.cells
  rw [Array.append_assoc, Array.getElem?_append_right (by simp), Array.getElem?_append_left (by simpa using hk)]
  simp
theorem SegM.data_at (s : SegM) (hm : s.o.mac.length = 12) : s.cells[31]? = some (.slice s.D s.data.length s.dc) := by
  have hz := s.o.size hm
  unfold SegM.cells
  rw [Array.getElem?_append_right (by simp [hz])]
  simp [hz]
theorem SegM.size (s : SegM) (hm : s.o.mac.length = 12) : s.cells.size = 32 := by
  have hz := s.o.size hm
  unfold SegM.cells
  simp [hz]
theorem seg_cells {w : World} {b : Nat} {s : SegM} {T : TypeId} {fz : Nat × Nat} (h : w.heap[b]? = some (.cells s.cells T fz)) (hm : s.o.mac.length = 12) :
    w.cell? ⟨b, 0, none⟩ = some (.int .u16 (s.src : Int)) ∧ w.cell? ⟨b, 1, none⟩ = some (.int .u16 (s.dst : Int)) ∧ w.cell? ⟨b, 2, none⟩ = some (.int .u32 (s.seq : Int)) ∧ w.cell? ⟨b, 3, none⟩ = some (.int .u32 (s.ack : Int)) ∧
    w.cell? ⟨b, 4, none⟩ = some (.int .u8 (s.flags : Int)) ∧ w.cell? ⟨b, 5, none⟩ = some (.int .u16 (s.win : Int)) ∧ w.cell? ⟨b, 6, none⟩ = some (.int .u16 (s.urg : Int)) ∧ w.cell? ⟨b, 31, none⟩ = some (.slice s.D s.data.length s.dc) := by
  have e : ∀ k, w.cell? ⟨b, k, none⟩ = s.cells[k]? := fun k => by simp [World.cell?, h]
  refine ⟨?_, ?_, ?_, ?_, ?_, ?_, ?_, ?_⟩ <;> rw [e]
  · exact s.head_at _ _ rfl
  · exact s.head_at _ _ rfl
  · exact s.head_at _ _ rfl
  · exact s.head_at _ _ rfl
  · exact s.head_at _ _ rfl
  · exact s.head_at _ _ rfl
  · exact s.head_at _ _ rfl
  · exact s.data_at hm
end Go.Proofs.Ythnidgiogjehkaa
