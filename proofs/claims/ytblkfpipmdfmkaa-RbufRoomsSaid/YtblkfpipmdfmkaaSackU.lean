/- Insert: the growing road. -/
import Derived.Test.YtblkfpipmdfmkaaSackT
namespace Go.Proofs.Ytblkfpipmdfmkaa
set_option linter.unusedVariables false
set_option linter.unusedSimpArgs false
open Go.RowKit

theorem grow_list (z0 a B R : List Value) (i n : Nat) (la : a.length = i * 2) (lB : B.length = (n - i) * 2) (lR : R.length = 2) (lz : (n + 1 - i) * 2 ≤ z0.length) (hi : i < n) :
    let row1 := (a ++ z0).take (i * 2) ++ R ++ (a ++ z0).drop (i * 2 + 2)
    (row1.take ((i + 1) * 2) ++ B ++ row1.drop ((i + 1) * 2 + B.length)).take ((n + 1) * 2) = a ++ R ++ B ∧ row1.length = (a ++ z0).length ∧ (row1.take ((i + 1) * 2) ++ B ++ row1.drop ((i + 1) * 2 + B.length)).length = (a ++ z0).length := by
  have e1 : (a ++ z0).take (i * 2) = a := List.take_left' la
  have l1 : (a ++ R ++ (a ++ z0).drop (i * 2 + 2)).length = (a ++ z0).length := by simp [la, lR]; omega
  intro row1
  have hr : row1 = a ++ R ++ (a ++ z0).drop (i * 2 + 2) := by show (a ++ z0).take (i * 2) ++ R ++ _ = _; rw [e1]
  rw [hr]
  have e2 : (a ++ R ++ (a ++ z0).drop (i * 2 + 2)).take ((i + 1) * 2) = a ++ R := List.take_left' (by simp [la, lR]; omega)
  rw [e2]
  refine ⟨List.take_left' (by simp [la, lR, lB]; omega), l1, ?_⟩
  simp [la, lR, lB]
  omega
theorem wp_appR {P : Program} {w : World} {o : Oper} {a : Act} {K : Act → World → Prop} {Q : Exit → Act → World → Prop} (d s : Operand) (t t' : TypeId)
    (ho : o.op = .call { callee := .builtin .append, args := #[d, s], argTypes := #[t, t'] }) (v u : Value) (hd : a.eval d = v) (hs : a.eval s = u) {v' : Value} {w' : World}
    (hr : (Builtin.append_ #[t, t'] o.type #[v, u]).run P w = .ok v' w') (h : K (a.put o.dst v') w') : o.wp P a w K Q := by
  unfold Oper.wp execOp
  simp only [ho, resolve, invoke, builtin, Sem.run_bind, Sem.run_pure, Result.andThen_ok, List.map_toArray, List.map_cons, List.map_nil, hd, hs, hr]
  exact h
set_option maxHeartbeats 2000000 in
theorem insert_grow (W : World) (g c i vb : Nat) (cur : Array Value) (l : List (Nat × Nat)) (r : Nat × Nat) (hg : W.heap[g]? = some (.cells cur 81 (0, 0))) (hcur : cur.toList.take (l.length * 2) = rcs l) (hsz : cur.size = c * 2)
    (hi : i < l.length) (hroom : c < l.length + 1) (hcn : l.length ≤ c) (hl : l.length ≤ 65536) (hv : W.heap[vb]? = some (.cells #[.int .i64 (r.1 : Int), .int .i64 (r.2 : Int)] 81 (0, 0))) :
    Calls Try.prog 53 #[.slice (some ⟨g, 0, none⟩) l.length c, .int .i64 (i : Int), .slice (some ⟨vb, 0, none⟩) 1 1] W fun e w' =>
      ∃ (G : Nat) (cur' : Array Value), e = .returned (.slice (some ⟨W.heap.size, 0, none⟩) (l.length + 1) G) ∧ Below W.heap.size W w' ∧ w'.heap[W.heap.size]? = some (.cells cur' 81 (0, 0)) ∧ l.length + 1 ≤ G ∧ G ≤ maxLen ∧ cur'.size = G * 2 ∧ cur'.toList.take ((l.length + 1) * 2) = rcs (l.take i ++ r :: l.drop i) := by
  obtain ⟨ib, zb, hib, hzb, hb1', hb2', hb3⟩ := info_run
  have hgl := (Array.getElem?_eq_some_iff.1 hg).1
  have hvl := (Array.getElem?_eq_some_iff.1 hv).1
  obtain ⟨a, ha⟩ : ∃ a, rcs (l.take i) = a := ⟨_, rfl⟩
  obtain ⟨B, hB⟩ : ∃ B, rcs (l.drop i) = B := ⟨_, rfl⟩
  obtain ⟨z, hzl⟩ : ∃ z, cur.toList.drop (l.length * 2) = z := ⟨_, rfl⟩
  have hab : rcs l = a ++ B := by rw [← ha, ← hB, ← rcs_append, List.take_append_drop]
  have hcl : cur.toList = a ++ B ++ z := by rw [← hab, ← hcur, ← hzl, List.take_append_drop]
  have la : a.length = i * 2 := by rw [← ha, rcs_length, List.length_take]; omega
  have lB : B.length = (l.length - i) * 2 := by rw [← hB, rcs_length, List.length_drop]; omega
  have hB1 : ∀ v ∈ B, v.oneCell' = true := by rw [← hB]; exact one_rcs _
  have hres : rcs (l.take i ++ r :: l.drop i) = a ++ rcs [r] ++ B := by
    rw [rcs_append, show r :: l.drop i = [r] ++ l.drop i by rfl, rcs_append, ha, hB, List.append_assoc]
  have hadd : ∀ o j, ((⟨g, o, none⟩ : Addr).add j) = ⟨g, o + j, none⟩ := fun o j => by
    unfold Addr.add
    split
    · rename_i h0; subst h0; rfl
    · rfl
  have hsrc : ∀ u : World, u.heap[g]? = some (.cells cur 81 (0, 0)) → ∀ j v, B[j]? = some v → u.cell? ((⟨g, i * 2, none⟩ : Addr).add j) = some v := fun u hu j v hv => by
    rw [hadd, cellRow hu, ← Array.getElem?_toList, hcl, List.append_assoc, List.getElem?_append_right (by omega), la, Nat.add_sub_cancel_left, List.getElem?_append_left (List.getElem?_eq_some_iff.1 hv).1, hv]
  have hold : (Builtin.firstCells ib.size i (.slice (some ⟨g, 0, none⟩) i c)).run Try.prog W.drew = .ok a.toArray W.drew := by
    rw [hb1']
    exact run_firstCells_some (w := W.drew) (P := Try.prog) 2 i ⟨g, 0, none⟩ i c a la (fun j v hj => by
      have hu : W.drew.heap[g]? = some (.cells cur 81 (0, 0)) := hg
      rw [hadd, Nat.zero_add, cellRow hu, ← Array.getElem?_toList, hcl, List.append_assoc, List.getElem?_append_left (List.getElem?_eq_some_iff.1 hj).1, hj])
  obtain ⟨nn, hnn⟩ : ∃ nn, l.length = nn := ⟨_, rfl⟩
  rw [hnn] at hi hroom hcn hl lB ⊢
  have hik : i + (nn + 1 - i) = nn + 1 := by omega
  have hkk : (nn : Int) + 1 - (i : Int) = ((nn + 1 - i : Nat) : Int) := by omega
  obtain ⟨G, hG⟩ : ∃ G, grownCap W (nn + 1) c 81 = G := ⟨_, rfl⟩
  have hGn : nn + 1 ≤ G := by rw [← hG]; exact grownCap_ge W _ _ _
  have hGm : G ≤ maxLen := by rw [← hG]; exact grownCap_le_maxLen W (nn + 1) c 81 (by unfold maxLen; omega)
  obtain ⟨row0, hrow0⟩ : ∃ row0 : Array Value, a.toArray ++ Builtin.zeroCells zb.cells (nn + 1 - i) ++ Builtin.zeroCells zb.cells (G - (nn + 1)) = row0 := ⟨_, rfl⟩
  have hrz : ∀ ty, (Builtin.append_ #[74, 3] ty #[.slice (some ⟨g, 0, none⟩) i c, .int .i64 ((nn : Int) + 1 - (i : Int))]).run Try.prog W =
      .ok (.slice (some ⟨W.heap.size, 0, none⟩) (nn + 1) G) (W.drew.alloc (.cells row0 81)) := fun ty => by
    have h := Lib.run_append_grow_zeros W 74 3 ty 81 ib zb .i64 .i64 Try.underlying74 Try.underlying3 hib hzb (some ⟨g, 0, none⟩) i c a hold (nn + 1 - i) (by omega) (by omega) (by omega) (by omega) (by rw [hb2']; omega) (by rw [hb2', hik]; exact growslice_fits (by omega) (by omega))
    rw [hik, hG, hrow0] at h
    rw [hkk]
    exact h
  obtain ⟨w1, hw1⟩ : ∃ w1, W.drew.alloc (.cells row0 81) = w1 := ⟨_, rfl⟩
  rw [hw1] at hrz
  obtain ⟨z0, hz0⟩ : ∃ z0, (Builtin.zeroCells zb.cells (nn + 1 - i) ++ Builtin.zeroCells zb.cells (G - (nn + 1))).toList = z0 := ⟨_, rfl⟩
  have hr0 : row0.toList = a ++ z0 := by rw [← hrow0, ← hz0]; simp
  have lz0 : z0.length = (nn + 1 - i) * 2 + (G - (nn + 1)) * 2 := by rw [← hz0]; simp [Builtin.zeroCells, hb3]
  have hs0 : row0.size = G * 2 := by rw [← Array.length_toList, hr0, List.length_append, la, lz0]; omega
  have hgr := grow_list z0 a B (rcs [r]) i nn la lB rfl (by omega) hi
  rw [← hr0] at hgr
  obtain ⟨row1, hrow1⟩ : ∃ row1 : Array Value, (row0.toList.take (i * 2) ++ rcs [r] ++ row0.toList.drop (i * 2 + (rcs [r]).length)).toArray = row1 := ⟨_, rfl⟩
  have hr1 : row0.toList.take (i * 2) ++ rcs [r] ++ row0.toList.drop (i * 2 + 2) = row1.toList := by rw [← hrow1]; rfl
  rw [hr1] at hgr
  simp only at hgr
  have hN : w1.heap[W.heap.size]? = some (.cells row0 81 (0, 0)) := by rw [← hw1]; exact nw1 W.drew _
  have hBel : Below W.heap.size W w1 := by rw [← hw1]; exact below_alloc (below_drewN (Below.refl _ W) 1) _ (Nat.le_refl _)
  have hg1 := (hBel.block g hgl).trans hg
  have hv1 := (hBel.block vb hvl).trans hv
  have HFIN := hid hgr
  have HSRC := hid hsrc
  have HB1 := hid hB1
  have HRES := hid hres
  have LB := hid lB
  have S0 := hid hs0
  have S1 := hid (show row1.size = G * 2 by have := hgr.2.1; rw [Array.length_toList, Array.length_toList] at this; omega)
  have HR1 := hid hrow1
  have HZ := hid hrz
  obtain ⟨nb, hnb⟩ : ∃ nb, W.heap.size = nb := ⟨_, rfl⟩
  rw [hnb] at HZ hN hBel hgl hvl ⊢
  have hu : (w1.setRow nb row1).heap[nb]? = some (.cells row1 81 (0, 0)) := rowSetRow hN row1
  have hgu : (w1.setRow nb row1).heap[g]? = some (.cells cur 81 (0, 0)) := (rowSetRow_far (by omega) row1).trans hg1
  have hM : Mod [nb] w1 (w1.setRow nb row1) := Mod.setRow nb row1 (by simp)
  obtain ⟨u, hU⟩ : ∃ u, w1.setRow nb row1 = u := ⟨_, rfl⟩
  rw [hU] at hu hgu hM
  have HU := hid hU
  have HBEL := hid hBel
  have HNB := hid hnb
  clear hU hab hcl la hsrc hB1 hres ha hB hzl hgr lB hs0 hrow1 hrz hr0 hr1 hz0 lz0 hrow0 hold hadd hg hv hcur hsz hG hw1 hBel hnn hik hkk hb1' hb2' hb3 hib hzb hnb
  have z2 : decide ((i : Int) = (nn : Int)) = false := decide_eq_false (by omega)
  have z3 : decide (i = nn) = false := decide_eq_false (by omega)
  have z1 : ¬ ((i : Int) = (nn : Int)) := by omega
  have z4 : decide ((c : Int) < (nn : Int) + 1) = true := decide_eq_true (by omega)
  have z5 : decide (c < nn + 1) = true := decide_eq_true hroom
  have hin : i ≤ nn := by omega
  have hic : i ≤ c := by omega
  have q1 : ¬ (G = i) := by omega
  have q2 : ¬ (G = i + 1) := by omega
  have q3 : ¬ (c = i) := by omega
  have htn : ((i : Int) + 1).toNat = i + 1 := by omega
  have hb1 : (0 : Int) ≤ (i : Int) + 1 := by omega
  have hb0 : (0 : Int) ≤ (i : Int) := by omega
  have hb3' : (i : Int) ≤ (nn : Int) + 1 := by omega
  have hb4' : (i : Int) + 1 ≤ (nn : Int) + 1 := by omega
  have hw1' : IntKind.i64.wrap ((i : Int) + 1) = (i : Int) + 1 := by rw [IntKind.wrap_i64]; omega
  go_enter Try.func53, Try.ntmps53
  go_wp2_with (first
    | ((with_reducible refine at_slot 40 ?_); refine wpList_plain rfl fun K' hK' => wp_appR (.tmp 34) (.tmp 39) 74 3 rfl _ _ rfl rfl (HZ.out _) (hK' _ _ ?_))
    | ((with_reducible refine at_slot 45 ?_); refine wpList_plain rfl fun K' hK' => wp_copyR (.tmp 43) (.tmp 44) 74 rfl _ _ rfl rfl (run_copy_rowK w1 74 74 _ 81 2 1 nb (i * 2) (nn + 1 - i) (G - i) ⟨vb, 0, none⟩ 1 1 row0 81 (rcs [r]) Try.underlying74 info_runs hN (by simp only [Nat.min_def]; split <;> omega) rfl (fun j v hj => (Row.one_run (x := r.1) (y := r.2) hv1).get j v hj) (by rw [S0.out]; show i * 2 + 2 ≤ G * 2; omega) (one_rcs _)) (hK' _ _ ?_); rw [HR1.out, HU.out]))
  have hM3 : Mod [nb] w1 { u with drawn := u.drawn + 1 } := hM.trans (Mod.drewN 1)
  have hu3 : ({ u with drawn := u.drawn + 1 } : World).heap[nb]? = some (.cells row1 81 (0, 0)) := hu
  have hgu3 : ({ u with drawn := u.drawn + 1 } : World).heap[g]? = some (.cells cur 81 (0, 0)) := hgu
  clear hu hgu hM
  refine wp_region_hand (fun _ => True) (by kernel_rfl) trivial ?_
  intro hS
  generalize ({ u with drawn := u.drawn + 1 } : World) = u at hu3 hgu3 hM3 ⊢
  obtain ⟨hu, hgu, hM⟩ := And.intro hu3 (And.intro hgu3 hM3)
  refine wpAnyH_take (i := 0) (oi := ⟨some 46, _, _, _, _, _⟩) (v := ?_) rfl (by kernel_rfl) (by kernel_rfl) (by kernel_rfl) (fun _ _ _ h => h) (Or.inl ⟨by rfl, ?_⟩) hS ?_
  rotate_left 1
  focus ((intro W' hS'; go_simp) <;> with_reducible rfl)
  try simp only [Act.put, List.setIfInBounds_toArray, List.set_cons_zero, List.set_cons_succ]
  refine wpAnyH_take (i := 1) (oi := ⟨some 47, _, _, _, _, _⟩) (v := ?_) rfl (by kernel_rfl) (by kernel_rfl) (by kernel_rfl) (fun _ _ _ h => h) (Or.inl ⟨by rfl, ?_⟩) hS ?_
  rotate_left 1
  focus ((intro W' hS'; go_simp) <;> with_reducible rfl)
  try simp only [Act.put, List.setIfInBounds_toArray, List.set_cons_zero, List.set_cons_succ]
  refine wpAnyH_take (i := 2) (oi := ⟨some 48, _, _, _, _, _⟩) (v := ?_) rfl (by kernel_rfl) (by kernel_rfl) (by kernel_rfl) (fun _ _ _ h => h) (Or.inl ⟨by rfl, ?_⟩) hS ?_
  rotate_left 1
  focus ((intro W' hS'; go_simp) <;> with_reducible rfl)
  try simp only [Act.put, List.setIfInBounds_toArray, List.set_cons_zero, List.set_cons_succ]
  refine wpAnyH_take (i := 3) (oi := ⟨some 49, _, _, _, _, _⟩) (v := ?_) rfl (by kernel_rfl) (by kernel_rfl) (by kernel_rfl) (fun _ _ _ h => h) (Or.inl ⟨by rfl, ?_⟩) hS ?_
  rotate_left 1
  focus ((intro W' hS'; go_simp) <;> with_reducible rfl)
  try simp only [Act.put, List.setIfInBounds_toArray, List.set_cons_zero, List.set_cons_succ]
  refine wpAnyH_take (i := 4) (oi := ⟨some 50, _, _, _, _, _⟩) (v := ?_) rfl (by kernel_rfl) (by kernel_rfl) (by kernel_rfl) (fun _ _ _ h => h) (Or.inl ⟨by rfl, ?_⟩) hS ?_
  rotate_left 1
  focus ((intro W' hS'; go_simp) <;> with_reducible rfl)
  try simp only [Act.put, List.setIfInBounds_toArray, List.set_cons_zero, List.set_cons_succ]
  refine wpAnyH_take (i := 5) (oi := ⟨some 51, _, _, _, _, _⟩) (v := ?_) rfl (by kernel_rfl) (by kernel_rfl) (by kernel_rfl) (fun _ _ _ h => h) (Or.inl ⟨by rfl, ?_⟩) hS ?_
  rotate_left 1
  focus ((intro W' hS'; go_simp) <;> with_reducible rfl)
  try simp only [Act.put, List.setIfInBounds_toArray, List.set_cons_zero, List.set_cons_succ]
  refine wpAnyH_take (i := 6) (oi := ⟨some 52, _, _, _, _, _⟩) (v := ?_) rfl (by kernel_rfl) (by kernel_rfl) (by kernel_rfl) (fun _ _ _ h => h) (Or.inl ⟨by rfl, ?_⟩) hS ?_
  rotate_left 1
  focus ((intro W' hS'; go_simp) <;> with_reducible rfl)
  try simp only [Act.put, List.setIfInBounds_toArray, List.set_cons_zero, List.set_cons_succ]
  refine wpAnyH_take (i := 7) (oi := ⟨some 53, _, _, _, _, _⟩) (v := ?_) rfl (by kernel_rfl) (by kernel_rfl) (by kernel_rfl) (fun _ _ _ h => h) (Or.inl ⟨by rfl, ?_⟩) hS ?_
  rotate_left 1
  focus ((intro W' hS'; go_simp) <;> with_reducible rfl)
  try simp only [Act.put, List.setIfInBounds_toArray, List.set_cons_zero, List.set_cons_succ]
  refine anyH_one (i := 8) (by kernel_rfl) ⟨some 54, _, _, _, _, _⟩ rfl (by rfl) ?_
  refine wp_copyR (.tmp 50) (.tmp 53) 74 rfl _ _ rfl rfl (run_copy_rowK u 74 74 _ 81 2 (nn - i) nb ((i + 1) * 2) (nn - i) (G - (i + 1)) ⟨g, i * 2, none⟩ (nn - i) (c - i) row1 81 B Try.underlying74 info_runs hu (by simp only [Nat.min_def]; split <;> omega) LB.out (HSRC.out u hgu) (by rw [LB.out, S1.out]; omega) HB1.out) ?_
  have hu2 := rowSetRow hu (row1.toList.take ((i + 1) * 2) ++ B ++ row1.toList.drop ((i + 1) * 2 + B.length)).toArray
  have hM2 := hM.trans (Mod.setRow (w := u) nb (row1.toList.take ((i + 1) * 2) ++ B ++ row1.toList.drop ((i + 1) * 2 + B.length)).toArray (M := [nb]) (by simp))
  refine ⟨trivial, ?_⟩
  try simp only [Act.put, List.setIfInBounds_toArray, List.set_cons_zero, List.set_cons_succ]
  refine wpAnyH_done (by kernel_rfl) ?_ _
  go_wp2_with fail
  go_ret
  refine ⟨G, _, rfl, ?_, hu2, hGn, hGm, ?_, ?_⟩
  · exact Mod.below HBEL.out hM2 (Nat.le_of_eq HNB.out.symm) (by intro k hk; simp only [List.mem_singleton] at hk; omega)
  · rw [List.size_toArray, HFIN.out.2.2, Array.length_toList]
    exact S0.out
  · rw [HRES.out]
    exact HFIN.out.1
end Go.Proofs.Ytblkfpipmdfmkaa
