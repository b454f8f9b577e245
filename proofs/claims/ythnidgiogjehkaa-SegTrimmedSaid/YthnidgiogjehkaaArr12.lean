/- Arrays of twelve bytes as values. -/
import Derived.Test.YthnidgiogjehkaaU8
import Derived.DeepKeys
namespace Go.Proofs.Ythnidgiogjehkaa
set_option linter.unusedVariables false
set_option linter.unusedSimpArgs false
set_option maxRecDepth 20000
open Go.RowKit

theorem byte_keyLits (x : UInt8) : Try.prog.keyLits 1 5 [.int .u8 (x.toNat : Int)] = some [.int .u8 (x.toNat : Int)] := by
  have hw : (Lit.int .u8 (x.toNat : Int)).wf = true := by
    have := x.toNat_lt
    simp [Lit.wf, IntKind.min, IntKind.max, IntKind.signed, IntKind.bits]
    omega
  have hu : Try.prog.underlying 5 = some (.int .u8) := Try.underlying5
  unfold Program.keyLits
  rw [hu]
  simp [hw]
def zeros12 : List UInt8 := [0, 0, 0, 0, 0, 0, 0, 0, 0, 0, 0, 0]
theorem bytes12_keyLits (l : List UInt8) (hl : l.length = 12) : Try.prog.keyLits 2 29 (by8 l) = some (l.map fun x => Lit.int .u8 (x.toNat : Int)) := by
  have hu : Try.prog.underlying 29 = some (.array 12 5) := Try.underlying29
  have hc : Try.prog.cellsOf 29 = 12 := by kernel_rfl
  have h1 : Try.prog.cellsOf 5 = 1 := by kernel_rfl
  unfold Program.keyLits
  rw [hu]
  simp only [hc, h1, by8_length, hl, if_true]
  have key : ∀ i, i < 12 → Try.prog.keyLits 1 5 (((by8 l).drop (i * 1)).take 1) = some [Lit.int .u8 ((l.getD i 0).toNat : Int)] := by
    intro i hi
    have : ((by8 l).drop (i * 1)).take 1 = [.int .u8 ((l.getD i 0).toNat : Int)] := by
      rw [Nat.mul_one, List.drop_eq_getElem_cons (by rw [by8_length]; omega)]
      simp [by8, u8, List.getD_eq_getElem?_getD, List.getElem?_eq_getElem (show i < l.length by omega)]
    rw [this, byte_keyLits]
  have hm : (List.range 12).mapM (fun i => Try.prog.keyLits 1 5 (((by8 l).drop (i * 1)).take 1)) = some ((List.range 12).map fun i => [Lit.int .u8 ((l.getD i 0).toNat : Int)]) := by
    rw [List.range_eq_range']
    simp only [List.range', List.mapM_cons, List.mapM_nil, Nat.reduceAdd, Nat.reduceMul]
    have k := fun i hi => key i hi
    simp only [Nat.mul_one] at k
    have k0 := key 0 (by omega)
    have k1 := key 1 (by omega)
    simp at k0 k1
    simp [k, k0, k1]
  rw [hm]
  obtain ⟨x0, x1, x2, x3, x4, x5, x6, x7, x8, x9, x10, x11, rfl⟩ : ∃ x0 x1 x2 x3 x4 x5 x6 x7 x8 x9 x10 x11, l = [x0, x1, x2, x3, x4, x5, x6, x7, x8, x9, x10, x11] := by
    match l, hl with
    | [x0, x1, x2, x3, x4, x5, x6, x7, x8, x9, x10, x11], _ => exact ⟨_, _, _, _, _, _, _, _, _, _, _, _, rfl⟩
  rfl
def arr8 (l : List UInt8) : Array Value := (by8 l).toArray
theorem formed12_at (x0 x1 x2 x3 x4 x5 x6 x7 x8 x9 x10 x11 : UInt8) : Value.formed Try.prog 29 (.agg (arr8 [x0, x1, x2, x3, x4, x5, x6, x7, x8, x9, x10, x11])) = true := by kernel_rfl
theorem formed12 (l : List UInt8) (hl : l.length = 12) : Value.formed Try.prog 29 (.agg (arr8 l)) = true := by
  match l, hl with
  | [x0, x1, x2, x3, x4, x5, x6, x7, x8, x9, x10, x11], _ => exact formed12_at x0 x1 x2 x3 x4 x5 x6 x7 x8 x9 x10 x11
theorem eql_12 (xs ys : List UInt8) (hx : xs.length = 12) (hy : ys.length = 12) (w : World) : (binOp .eql 29 (.agg (arr8 xs)) (.agg (arr8 ys))).run Try.prog w = .ok (.bool (decide (xs = ys))) w := by
  have hk : Try.prog.keyTypeAt 2 29 = true := by kernel_rfl
  obtain ⟨r, hr, hiff⟩ := run_equalIn_deep 9998 2 29 hk w 2 2 (.agg (arr8 xs)) (.agg (arr8 ys)) _ _ (formed12 xs hx) (formed12 ys hy) (bytes12_keyLits xs hx) (bytes12_keyLits ys hy)
  rw [run_eql_struct, show (10000 : Nat) = 9998 + 2 by rfl, hr]
  have : r = decide (xs = ys) := by
    rw [Bool.eq_iff_iff, hiff, decide_eq_true_iff]
    constructor
    · intro h
      refine List.map_inj_right (fun x y hxy => ?_) |>.1 h
      injection hxy with _ hxy
      exact UInt8.toNat_inj.1 (by omega)
    · rintro rfl; rfl
  rw [this]
  rfl
theorem guard_12 (op : BinOp) (x y : Operand) (xs ys : List UInt8) (w : World) : (eqGuard op 29 x y (.agg (arr8 xs)) (.agg (arr8 ys))).run Try.prog w = .ok () w := run_eqGuard_agg w op _ x y _ _ (by kernel_rfl)
theorem exec_eql12 {o : Oper} {c : Act} {w : World} (x y : Operand) (ho : o.op = .binOp .eql 29 x y 29) (xs ys : List UInt8) (h1 : xs.length = 12) (h2 : ys.length = 12) (hx : c.eval x = .agg (arr8 xs)) (hy : c.eval y = .agg (arr8 ys)) :
    (execOp c.eval o).run Try.prog w = .ok (.value (.bool (decide (xs = ys)))) w := by
  unfold execOp
  simp only [ho, hx, hy, Sem.run_bind, guard_12, eql_12 xs ys h1 h2, Result.andThen_ok, Sem.run_pure]
theorem build_12 : ∀ w, (Instr.build 29 #[]).run Try.prog w = .ok (.agg (arr8 zeros12)) w := by intro w; kernel_rfl
theorem size_12 : (Try.prog.info? 29).map (·.size) = some 12 := by kernel_rfl
theorem info_12 (l : List UInt8) (h : l.length = 12) : (Try.prog.info? 29).map (·.size) = some (arr8 l).size := by
  have : (arr8 l).size = 12 := by simp [arr8, by8, h]
  rw [this]; exact size_12
end Go.Proofs.Ythnidgiogjehkaa
