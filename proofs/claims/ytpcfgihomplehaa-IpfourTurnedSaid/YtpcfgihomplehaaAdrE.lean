/- Whether two addresses are the same. -/
import Derived.Test.YtpcfgihomplehaaAdr
import Derived.DeepKeys
namespace Go.Proofs.Ytpcfgihomplehaa
set_option linter.unusedVariables false
set_option linter.unusedSimpArgs false
open Go.RowKit

def Adr.lits (a : Adr) : List Lit := Lit.bool a.six :: a.bytes.map fun x => Lit.int .u8 (x.toNat : Int)
def Adr.beq (a b : Adr) : Bool := decide (a.six = b.six) && decide (a.bytes = b.bytes)
theorem Adr.eq_of {a b : Adr} (h1 : a.six = b.six) (h2 : a.bytes = b.bytes) : a = b := by
  cases a; cases b
  simp [Adr.bytes] at h1 h2 ⊢
  exact ⟨h1, h2⟩
theorem Adr.beq_iff (a b : Adr) : a.beq b = true ↔ a = b := by
  unfold Adr.beq
  simp
  exact ⟨fun h => Adr.eq_of h.1 h.2, fun h => by rw [h]; exact ⟨rfl, rfl⟩⟩
theorem Adr.beq_self (a : Adr) : a.beq a = true := (Adr.beq_iff a a).2 rfl
theorem Adr.lits_iff (a b : Adr) : a.lits = b.lits ↔ a = b := by
  constructor
  · intro h
    unfold Adr.lits at h
    injection h with h1 h2
    injection h1 with h1
    refine Adr.eq_of h1 (List.map_inj_right (fun x y hxy => ?_) |>.1 h2)
    injection hxy with _ hxy
    exact UInt8.toNat_inj.1 (by omega)
  · rintro rfl; rfl
theorem byte_keyLits (x : UInt8) : Try.prog.keyLits 1 5 [.int .u8 (x.toNat : Int)] = some [.int .u8 (x.toNat : Int)] := by
  have hw : (Lit.int .u8 (x.toNat : Int)).wf = true := by
    have := x.toNat_lt
    simp [Lit.wf, IntKind.min, IntKind.max, IntKind.signed, IntKind.bits]
    omega
  have hu : Try.prog.underlying 5 = some (.int .u8) := Try.underlying5
  unfold Program.keyLits
  rw [hu]
  simp [hw]
theorem bool_keyLits (x : Bool) : Try.prog.keyLits 2 4 [.bool x] = some [.bool x] := by
  have hu : Try.prog.underlying 4 = some .bool := Try.underlying4
  unfold Program.keyLits
  rw [hu]
theorem bytes_keyLits (l : List UInt8) (hl : l.length = 16) : Try.prog.keyLits 2 22 (by8 l) = some (l.map fun x => Lit.int .u8 (x.toNat : Int)) := by
  have hu : Try.prog.underlying 22 = some (.array 16 5) := Try.underlying22
  have hc : Try.prog.cellsOf 22 = 16 := by kernel_rfl
  have h1 : Try.prog.cellsOf 5 = 1 := by kernel_rfl
  unfold Program.keyLits
  rw [hu]
  simp only [hc, h1, by8_length, hl, if_true]
  have key : ∀ i, i < 16 → Try.prog.keyLits 1 5 (((by8 l).drop (i * 1)).take 1) = some [Lit.int .u8 ((l.getD i 0).toNat : Int)] := by
    intro i hi
    have : ((by8 l).drop (i * 1)).take 1 = [.int .u8 ((l.getD i 0).toNat : Int)] := by
      rw [Nat.mul_one, List.drop_eq_getElem_cons (by rw [by8_length]; omega)]
      simp [by8, u8, List.getD_eq_getElem?_getD, List.getElem?_eq_getElem (show i < l.length by omega)]
    rw [this, byte_keyLits]
  have hm : (List.range 16).mapM (fun i => Try.prog.keyLits 1 5 (((by8 l).drop (i * 1)).take 1)) = some ((List.range 16).map fun i => [Lit.int .u8 ((l.getD i 0).toNat : Int)]) := by
    rw [List.range_eq_range']
    simp only [List.range', List.mapM_cons, List.mapM_nil, Nat.reduceAdd, Nat.reduceMul]
    have k := fun i hi => key i hi
    simp only [Nat.mul_one] at k
    have k0 := key 0 (by omega)
    have k1 := key 1 (by omega)
    simp at k0 k1
    simp [k, k0, k1]
  rw [hm]
  obtain ⟨x0, x1, x2, x3, x4, x5, x6, x7, x8, x9, x10, x11, x12, x13, x14, x15, rfl⟩ : ∃ x0 x1 x2 x3 x4 x5 x6 x7 x8 x9 x10 x11 x12 x13 x14 x15, l = [x0, x1, x2, x3, x4, x5, x6, x7, x8, x9, x10, x11, x12, x13, x14, x15] := by
    match l, hl with
    | [x0, x1, x2, x3, x4, x5, x6, x7, x8, x9, x10, x11, x12, x13, x14, x15], _ => exact ⟨_, _, _, _, _, _, _, _, _, _, _, _, _, _, _, _, rfl⟩
  rfl
theorem adr_keyLits (a : Adr) : Try.prog.keyLits 3 24 a.cells.toList = some a.lits := by
  have hu : ∃ fs, Try.prog.underlying 24 = some (.struct fs) ∧ fs.toList.map (fun f => (f.type, f.offset)) = [(4, 0), (22, 1)] ∧ fs.all (·.name != "_") = true := ⟨_, Try.underlying24, by kernel_rfl, by kernel_rfl⟩
  obtain ⟨fs, hu, hf, hn⟩ := hu
  have hc : Try.prog.cellsOf 24 = 17 := by kernel_rfl
  have hc2 : Try.prog.cellsOf 22 = 16 := by kernel_rfl
  have h1 : Try.prog.cellsOf 4 = 1 := by kernel_rfl
  unfold Program.keyLits
  rw [hu]
  have hl : a.cells.toList.length = 17 := rfl
  simp only [hc, hl, hn, and_self, if_true]
  have hm : fs.toList.mapM (fun f => Try.prog.keyLits 2 f.type ((a.cells.toList.drop f.offset).take (Try.prog.cellsOf f.type))) = (fs.toList.map (fun f => (f.type, f.offset))).mapM (fun p => Try.prog.keyLits 2 p.1 ((a.cells.toList.drop p.2).take (Try.prog.cellsOf p.1))) := by
    rw [List.mapM_map]; rfl
  rw [hm, hf]
  have e1 : (a.cells.toList.drop 0).take 1 = [.bool a.six] := rfl
  have e2 : (a.cells.toList.drop 1).take 16 = by8 a.bytes := rfl
  simp only [List.mapM_cons, List.mapM_nil, h1, hc2, e1, e2, bool_keyLits, bytes_keyLits a.bytes rfl]
  rfl
theorem eql_adr (a b : Adr) (w : World) : (binOp .eql 24 (.agg a.cells) (.agg b.cells)).run Try.prog w = .ok (.bool (a.beq b)) w := by
  have hk : Try.prog.keyTypeAt 3 24 = true := by kernel_rfl
  obtain ⟨r, hr, hiff⟩ := run_equalIn_deep 9997 3 24 hk w 3 3 (.agg a.cells) (.agg b.cells) a.lits b.lits (by kernel_rfl) (by kernel_rfl) (adr_keyLits a) (adr_keyLits b)
  rw [run_eql_struct, show (10000 : Nat) = 9997 + 3 by rfl, hr]
  have : r = a.beq b := by
    rw [Bool.eq_iff_iff, hiff, Adr.lits_iff, Adr.beq_iff]
  rw [this]
  rfl
theorem guard_adr (op : BinOp) (x y : Operand) (a b : Adr) (w : World) : (eqGuard op 24 x y (.agg a.cells) (.agg b.cells)).run Try.prog w = .ok () w := run_eqGuard_agg w op _ x y _ _ (by kernel_rfl)
theorem exec_eqlA {o : Oper} {c : Act} {w : World} (x y : Operand) (ho : o.op = .binOp .eql 24 x y 24) (a b : Adr) (hx : c.eval x = .agg a.cells) (hy : c.eval y = .agg b.cells) :
    (execOp c.eval o).run Try.prog w = .ok (.value (.bool (a.beq b))) w := by
  unfold execOp
  simp only [ho, hx, hy, Sem.run_bind, guard_adr, eql_adr, Result.andThen_ok, Sem.run_pure]
theorem neq_adr (a b : Adr) (w : World) : (binOp .neq 24 (.agg a.cells) (.agg b.cells)).run Try.prog w = .ok (.bool (!a.beq b)) w := by
  have hk : Try.prog.keyTypeAt 3 24 = true := by kernel_rfl
  obtain ⟨r, hr, hiff⟩ := run_equalIn_deep 9997 3 24 hk w 3 3 (.agg a.cells) (.agg b.cells) a.lits b.lits (by kernel_rfl) (by kernel_rfl) (adr_keyLits a) (adr_keyLits b)
  rw [run_neq_struct, show (10000 : Nat) = 9997 + 3 by rfl, hr]
  have : r = a.beq b := by
    rw [Bool.eq_iff_iff, hiff, Adr.lits_iff, Adr.beq_iff]
  rw [this]
  rfl
end Go.Proofs.Ytpcfgihomplehaa
