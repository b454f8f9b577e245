/- copy over a block known whole, elements of several cells; Insert's roads (under way). -/
import Derived.Test.YtblkfpipmdfmkaaSackR
import Derived.Laws.CopyRow
import Derived.Lib.AppendZerosOnto
import Derived.Lib.Overlaps
import Derived.Laws.Externs
namespace Go.Proofs.Ytblkfpipmdfmkaa
set_option linter.unusedVariables false
set_option linter.unusedSimpArgs false
open Go.RowKit

theorem run_copy_rowK {P : Program} (w : World) (dT sT ty elem : TypeId) (K n g o dLen dCap : Nat) (a : Addr) (sLen sCap : Nat) (cur : Array Value) (t : TypeId) (cs : List Value)
    (hu : P.underlying dT = some (.slice elem)) (hs : (P.info? elem).map (·.size) = some K)
    (hg : w.heap[g]? = some (.cells cur t (0, 0))) (hn : n = Nat.min sLen dLen) (hl : cs.length = n * K)
    (hsrc : ∀ j v, cs[j]? = some v → w.cell? (a.add j) = some v) (hfit : o + cs.length ≤ cur.size) (h1 : ∀ v ∈ cs, v.oneCell' = true) :
    (Builtin.copy_ #[dT, sT] ty #[.slice (some ⟨g, o, none⟩) dLen dCap, .slice (some a) sLen sCap]).run P w =
      .ok (goInt n) (w.setRow g (cur.toList.take o ++ cs ++ cur.toList.drop (o + cs.length)).toArray) := by
  have hld := run_loadCells_list (P := P) w a cs hsrc
  have hst := run_storeCells_at P g o t cs 0 cur w hg (by simpa using hfit) h1
  rw [hl] at hld
  cases hq : P.info? elem with
  | none => simp [hq] at hs
  | some i =>
    have hi : i.size = K := by simpa [hq] using hs
    simp [Builtin.copy_, run_underlying hu, Builtin.lenOf, Builtin.firstCells, sizeOf, typeInfo, hq, hi, ← hn, hld, hst]
set_option maxHeartbeats 1000000 in
/-- The place is the end: append. -/
theorem insert_end (W : World) (base : Nat) (v : Value) (l : List (Nat × Nat)) (r : Nat × Nat) (vb : Nat) (hbase : base ≤ W.heap.size) (ho : W.ownsRow base 81 2 v l.length (rcs l)) (hl : OkR l)
    (hv : W.heap[vb]? = some (.cells #[.int .i64 (r.1 : Int), .int .i64 (r.2 : Int)] 81 (0, 0))) :
    Calls Try.prog 53 #[v, .int .i64 (l.length : Int), .slice (some ⟨vb, 0, none⟩) 1 1] W fun e w' =>
      ∃ v', e = .returned v' ∧ w'.ownsRow base 81 2 v' (l.length + 1) (rcs (l.take l.length ++ r :: l.drop l.length)) ∧ Below base W w' := by
  obtain ⟨ib, zb, hib, hzb, hb1, hb2', hb3⟩ := info_run
  obtain ⟨A, c, rfl, hrow⟩ := Row.of_own ho
  have htop := hrow.top
  have hcap := hrow.cap
  have hlen := hl.1
  have HO := hid ho
  have HV := hid (Row.one_run (x := r.1) (y := r.2) hv)
  have e1 : rcs (l.take l.length ++ r :: l.drop l.length) = rcs l ++ rcs [r] := by rw [List.take_length, List.drop_length, rcs_append]
  rw [e1]
  have hA : ∀ ad, A = some ad → True := fun _ _ => trivial
  obtain ⟨nn, hnn⟩ : ∃ nn, l.length = nn := ⟨_, rfl⟩
  rw [hnn] at hcap hlen HO ⊢
  clear ho hrow hv e1 hA hl hnn
  go_enter Try.func53, Try.ntmps53
  go_wp2_with (first
    | ((with_reducible refine at_slot 25 ?_); refine wpList_append_row W rfl (.tmp 23) (.tmp 24) 74 rfl base 81 ib zb 2 16 Try.underlying74 hib hzb hb1 hb2' hb3 (by decide) _ nn (rcs l) rfl HO.out _ 1 1 (rcs [r]) rfl HV.out (one_rcs _) (by show nn + 1 ≤ 9223372036854775807; omega) (by omega) hbase ?_; intro v1 w1 ho1 hg1 hk1))
  all_goals
    first
      | (have hb := below_grown (Below.refl base W) HO.out hg1 (Nat.le_refl _) hbase
         go_wp2_with fail
         go_ret
         exact ⟨v1, rfl, ho1, hb⟩)
      | fail "X"
end Go.Proofs.Ytblkfpipmdfmkaa
