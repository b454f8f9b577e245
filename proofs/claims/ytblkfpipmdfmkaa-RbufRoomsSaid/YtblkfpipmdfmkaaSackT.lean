/- Insert: the shifting road. -/
import Derived.Test.YtblkfpipmdfmkaaSackS
namespace Go.Proofs.Ytblkfpipmdfmkaa
set_option linter.unusedVariables false
set_option linter.unusedSimpArgs false
open Go.RowKit

theorem wp_copyR {P : Program} {w : World} {o : Oper} {a : Act} {K : Act → World → Prop} {Q : Exit → Act → World → Prop} (d s : Operand) (t : TypeId)
    (ho : o.op = .call { callee := .builtin .copy, args := #[d, s], argTypes := #[t, t] }) (v u : Value) (hd : a.eval d = v) (hs : a.eval s = u) {v' : Value} {w' : World}
    (hr : (Builtin.copy_ #[t, t] o.type #[v, u]).run P w = .ok v' w') (h : K (a.put o.dst v') w') : o.wp P a w K Q := by
  unfold Oper.wp execOp
  simp only [ho, resolve, invoke, builtin, Sem.run_bind, Sem.run_pure, Result.andThen_ok, List.map_toArray, List.map_cons, List.map_nil, hd, hs, hr]
  exact h
theorem shift_list (cl a B z R : List Value) (i n : Nat) (hc : cl = a ++ B ++ z) (la : a.length = i * 2) (lB : B.length = (n - i) * 2) (lR : R.length = 2) (lz : 2 ≤ z.length) (hi : i < n) :
    (((cl.take ((i + 1) * 2) ++ B ++ cl.drop ((i + 1) * 2 + B.length)).take (i * 2)) ++ R ++ (cl.take ((i + 1) * 2) ++ B ++ cl.drop ((i + 1) * 2 + B.length)).drop (i * 2 + 2)).take ((n + 1) * 2) = a ++ R ++ B ∧
    (((cl.take ((i + 1) * 2) ++ B ++ cl.drop ((i + 1) * 2 + B.length)).take (i * 2)) ++ R ++ (cl.take ((i + 1) * 2) ++ B ++ cl.drop ((i + 1) * 2 + B.length)).drop (i * 2 + 2)).length = cl.length ∧
    (cl.take ((i + 1) * 2) ++ B ++ cl.drop ((i + 1) * 2 + B.length)).length = cl.length := by
  have lc : cl.length = i * 2 + (n - i) * 2 + z.length := by rw [hc]; simp; omega
  have l1 : (cl.take ((i + 1) * 2)).length = (i + 1) * 2 := by rw [List.length_take]; omega
  have e1 : (cl.take ((i + 1) * 2) ++ B ++ cl.drop ((i + 1) * 2 + B.length)).take (i * 2) = a := by
    rw [List.append_assoc, List.take_append_of_le_length (by omega), List.take_take, show min (i * 2) ((i + 1) * 2) = i * 2 by omega, hc, List.append_assoc]
    exact List.take_left' la
  have e2 : (cl.take ((i + 1) * 2) ++ B ++ cl.drop ((i + 1) * 2 + B.length)).drop (i * 2 + 2) = B ++ cl.drop ((i + 1) * 2 + B.length) := by
    rw [List.append_assoc]
    exact List.drop_left' (by omega)
  rw [e1, e2]
  refine ⟨?_, ?_, ?_⟩
  · rw [← List.append_assoc]
    exact List.take_left' (by simp [la, lB, lR]; omega)
  · simp [la, lB, lR, lc]; omega
  · simp [lB, lc]; omega
set_option maxHeartbeats 2000000 in
theorem insert_shift (W : World) (g c i vb : Nat) (cur : Array Value) (l : List (Nat × Nat)) (r : Nat × Nat) (hg : W.heap[g]? = some (.cells cur 81 (0, 0))) (hcur : cur.toList.take (l.length * 2) = rcs l) (hsz : cur.size = c * 2)
    (hi : i < l.length) (hroom : l.length + 1 ≤ c) (hc : c ≤ 9223372036854775807) (hl : l.length ≤ 65536) (hv : W.heap[vb]? = some (.cells #[.int .i64 (r.1 : Int), .int .i64 (r.2 : Int)] 81 (0, 0))) (hne : vb ≠ g) :
    Calls Try.prog 53 #[.slice (some ⟨g, 0, none⟩) l.length c, .int .i64 (i : Int), .slice (some ⟨vb, 0, none⟩) 1 1] W fun e w' =>
      e = .returned (.slice (some ⟨g, 0, none⟩) (l.length + 1) c) ∧ Mod [g] W w' ∧ ∃ cur' : Array Value, w'.heap[g]? = some (.cells cur' 81 (0, 0)) ∧ cur'.size = c * 2 ∧ cur'.toList.take ((l.length + 1) * 2) = rcs (l.take i ++ r :: l.drop i) := by
  have hz : ∀ w, (Go.sizeOf 81).run Try.prog w = .ok 2 w := by intro w; kernel_rfl
  have hov : ∀ lb cb, (callFunc 55 #[.slice (some ⟨vb, 0, none⟩) 1 1, .slice (some ⟨g, (i + 1) * 2, none⟩) lb cb]).run Try.prog W = .ok (.value (.bool false)) W := fun lb cb => by
    rw [run_callFunc_extern Try.func55 (by kernel_rfl) (by kernel_rfl) (by kernel_rfl) (e := Extern.SlicesOverlaps.overlaps #[74, 74] #[4]) (by kernel_rfl),
      Lib.run_overlaps_apart W 74 4 81 Try.underlying74 2 hz ⟨vb, 0, none⟩ ⟨g, (i + 1) * 2, none⟩ 1 1 lb cb hne 81 81 2 cur.size (by simp [World.shape?, hv]) (by simp [World.shape?, hg]) (by omega) (by simp [World.frozen?, hv]) (by simp [World.frozen?, hv])]
    rfl
  obtain ⟨a, ha⟩ : ∃ a, rcs (l.take i) = a := ⟨_, rfl⟩
  obtain ⟨B, hB⟩ : ∃ B, rcs (l.drop i) = B := ⟨_, rfl⟩
  obtain ⟨z, hzl⟩ : ∃ z, cur.toList.drop (l.length * 2) = z := ⟨_, rfl⟩
  have hab : rcs l = a ++ B := by rw [← ha, ← hB, ← rcs_append, List.take_append_drop]
  have hcl : cur.toList = a ++ B ++ z := by rw [← hab, ← hcur, ← hzl, List.take_append_drop]
  have la : a.length = i * 2 := by rw [← ha, rcs_length, List.length_take]; omega
  have lB : B.length = (l.length - i) * 2 := by rw [← hB, rcs_length, List.length_drop]; omega
  have lz : 2 ≤ z.length := by rw [← hzl, List.length_drop, Array.length_toList, hsz]; omega
  have hB1 : ∀ v ∈ B, v.oneCell' = true := by rw [← hB]; exact one_rcs _
  have hres : rcs (l.take i ++ r :: l.drop i) = a ++ rcs [r] ++ B := by
    rw [rcs_append, show r :: l.drop i = [r] ++ l.drop i by rfl, rcs_append, ha, hB, List.append_assoc]
  obtain ⟨c1, hc1⟩ : ∃ c1, (cur.toList.take ((i + 1) * 2) ++ B ++ cur.toList.drop ((i + 1) * 2 + B.length)).toArray = c1 := ⟨_, rfl⟩
  have hfin := shift_list cur.toList a B z (rcs [r]) i l.length hcl la lB rfl lz hi
  have hsrc : ∀ u : World, u.heap[g]? = some (.cells cur 81 (0, 0)) → ∀ j v, B[j]? = some v → u.cell? ((⟨g, i * 2, none⟩ : Addr).add j) = some v := fun u hu j v hv => by
    have e : ((⟨g, i * 2, none⟩ : Addr).add j) = ⟨g, i * 2 + j, none⟩ := by
      unfold Addr.add
      split
      · rename_i h0; subst h0; rfl
      · rfl
    rw [e, cellRow hu, ← Array.getElem?_toList, hcl, List.append_assoc, List.getElem?_append_right (by omega), la, Nat.add_sub_cancel_left, List.getElem?_append_left (List.getElem?_eq_some_iff.1 hv).1, hv]
  rw [show cur.toList.take ((i + 1) * 2) ++ B ++ cur.toList.drop ((i + 1) * 2 + B.length) = c1.toList by rw [← hc1]] at hfin
  have HFIN := hid hfin
  have HSRC := hid hsrc
  have HB1 := hid hB1
  have HRES := hid hres
  have HC1 := hid hc1
  have hlb2 : B.length = (l.length - i) * 2 := lB
  clear hab hcl la lz hfin hsrc hB1 hres hc1 ha hB hzl
  obtain ⟨nn, hnn⟩ : ∃ nn, l.length = nn := ⟨_, rfl⟩
  have HG := hid hg
  have HV := hid hv
  have HCUR := hid hcur
  have HSZ := hid hsz
  have HNN := hid hnn
  rw [hnn] at hi hroom hl hlb2 lB HFIN ⊢
  have LB := hid lB
  clear hg hv hcur hsz hz hnn lB hlb2
  have z1 : ¬ ((i : Int) = (nn : Int)) := by omega
  have z2 : decide ((i : Int) = (nn : Int)) = false := decide_eq_false z1
  have z3 : decide (i = nn) = false := decide_eq_false (by omega)
  have z4 : decide ((c : Int) < (nn : Int) + 1) = false := decide_eq_false (by omega)
  have z5 : decide (c < nn + 1) = false := decide_eq_false (by omega)
  have hin : i ≤ nn := by omega
  have hb2 : ¬ (c = i + 1) := by omega
  have hb4 : ¬ (c = i) := by omega
  have htn : ((i : Int) + 1).toNat = i + 1 := by omega
  have htn2 : ((nn : Int) + 1).toNat = nn + 1 := by omega
  have hb3 : (i : Int) ≤ (nn : Int) + 1 := by omega
  have hb1 : (0 : Int) ≤ (i : Int) + 1 := by omega
  have hb0 : (0 : Int) ≤ (i : Int) := by omega
  have hw1 : IntKind.i64.wrap ((i : Int) + 1) = (i : Int) + 1 := by rw [IntKind.wrap_i64]; omega
  have hw2 : IntKind.i64.wrap ((nn : Int) + 1) = (nn : Int) + 1 := by rw [IntKind.wrap_i64]; omega
  go_enter Try.func53, Try.ntmps53
  go_wp2_with (simp only [hov])
  have hu : ({ W with drawn := W.drawn + 1 } : World).heap[g]? = some (.cells cur 81 (0, 0)) := HG.out
  have hv : ({ W with drawn := W.drawn + 1 } : World).heap[vb]? = some (.cells #[.int .i64 (r.1 : Int), .int .i64 (r.2 : Int)] 81 (0, 0)) := HV.out
  have hM : Mod [g] W { W with drawn := W.drawn + 1 } := Mod.drewN 1
  refine wp_region_hand (fun _ => True) (by kernel_rfl) trivial ?_
  intro hS
  generalize ({ W with drawn := W.drawn + 1 } : World) = u at hu hv hM ⊢
  refine wpAnyH_take (i := 0) (oi := ⟨some 69, _, _, _, _, _⟩) (v := ?_) rfl (by kernel_rfl) (by kernel_rfl) (by kernel_rfl) (fun _ _ _ h => h) (Or.inl ⟨by rfl, ?_⟩) hS ?_
  rotate_left 1
  focus ((intro W' hS'; go_simp) <;> with_reducible rfl)
  try simp only [Act.put, List.setIfInBounds_toArray, List.set_cons_zero, List.set_cons_succ]
  refine wpAnyH_take (i := 1) (oi := ⟨some 70, _, _, _, _, _⟩) (v := ?_) rfl (by kernel_rfl) (by kernel_rfl) (by kernel_rfl) (fun _ _ _ h => h) (Or.inl ⟨by rfl, ?_⟩) hS ?_
  rotate_left 1
  focus ((intro W' hS'; go_simp) <;> with_reducible rfl)
  try simp only [Act.put, List.setIfInBounds_toArray, List.set_cons_zero, List.set_cons_succ]
  refine wpAnyH_take (i := 2) (oi := ⟨some 71, _, _, _, _, _⟩) (v := ?_) rfl (by kernel_rfl) (by kernel_rfl) (by kernel_rfl) (fun _ _ _ h => h) (Or.inl ⟨by rfl, ?_⟩) hS ?_
  rotate_left 1
  focus ((intro W' hS'; go_simp) <;> with_reducible rfl)
  try simp only [Act.put, List.setIfInBounds_toArray, List.set_cons_zero, List.set_cons_succ]
  refine wpAnyH_take (i := 3) (oi := ⟨some 72, _, _, _, _, _⟩) (v := ?_) rfl (by kernel_rfl) (by kernel_rfl) (by kernel_rfl) (fun _ _ _ h => h) (Or.inl ⟨by rfl, ?_⟩) hS ?_
  rotate_left 1
  focus ((intro W' hS'; go_simp) <;> with_reducible rfl)
  try simp only [Act.put, List.setIfInBounds_toArray, List.set_cons_zero, List.set_cons_succ]
  refine wpAnyH_take (i := 4) (oi := ⟨some 73, _, _, _, _, _⟩) (v := ?_) rfl (by kernel_rfl) (by kernel_rfl) (by kernel_rfl) (fun _ _ _ h => h) (Or.inl ⟨by rfl, ?_⟩) hS ?_
  rotate_left 1
  focus ((intro W' hS'; go_simp) <;> with_reducible rfl)
  try simp only [Act.put, List.setIfInBounds_toArray, List.set_cons_zero, List.set_cons_succ]
  refine wpAnyH_take (i := 5) (oi := ⟨some 74, _, _, _, _, _⟩) (v := ?_) rfl (by kernel_rfl) (by kernel_rfl) (by kernel_rfl) (fun _ _ _ h => h) (Or.inl ⟨by rfl, ?_⟩) hS ?_
  rotate_left 1
  focus ((intro W' hS'; go_simp) <;> with_reducible rfl)
  try simp only [Act.put, List.setIfInBounds_toArray, List.set_cons_zero, List.set_cons_succ]
  refine wpAnyH_take (i := 6) (oi := ⟨some 75, _, _, _, _, _⟩) (v := ?_) rfl (by kernel_rfl) (by kernel_rfl) (by kernel_rfl) (fun _ _ _ h => h) (Or.inl ⟨by rfl, ?_⟩) hS ?_
  rotate_left 1
  focus ((intro W' hS'; go_simp) <;> with_reducible rfl)
  try simp only [Act.put, List.setIfInBounds_toArray, List.set_cons_zero, List.set_cons_succ]
  refine wpAnyH_take (i := 7) (oi := ⟨some 76, _, _, _, _, _⟩) (v := ?_) rfl (by kernel_rfl) (by kernel_rfl) (by kernel_rfl) (fun _ _ _ h => h) (Or.inl ⟨by rfl, ?_⟩) hS ?_
  rotate_left 1
  focus ((intro W' hS'; go_simp) <;> with_reducible rfl)
  try simp only [Act.put, List.setIfInBounds_toArray, List.set_cons_zero, List.set_cons_succ]
  refine anyH_one (i := 8) (by kernel_rfl) ⟨some 77, _, _, _, _, _⟩ rfl (by rfl) ?_
  refine wp_copyR (.tmp 73) (.tmp 76) 74 rfl _ _ rfl rfl (run_copy_rowK u 74 74 _ 81 2 (nn - i) g ((i + 1) * 2) (nn - i) (c - (i + 1)) ⟨g, i * 2, none⟩ (nn + 1 - i) (c - i) cur 81 B Try.underlying74 info_runs hu (by simp only [Nat.min_def]; split <;> omega) (by rw [LB.out]) (HSRC.out u hu) (by rw [LB.out, HSZ.out]; omega) HB1.out) ?_
  have hu2 := rowSetRow hu (cur.toList.take ((i + 1) * 2) ++ B ++ cur.toList.drop ((i + 1) * 2 + B.length)).toArray
  have hM2 := hM.trans (Mod.setRow (w := u) g (cur.toList.take ((i + 1) * 2) ++ B ++ cur.toList.drop ((i + 1) * 2 + B.length)).toArray (by simp))
  have hvb : (u.setRow g (cur.toList.take ((i + 1) * 2) ++ B ++ cur.toList.drop ((i + 1) * 2 + B.length)).toArray).heap[vb]? = u.heap[vb]? := rowSetRow_far (fun e => hne e.symm) _
  rw [HC1.out] at hu2 hM2 hvb ⊢
  have hvv := hvb.trans hv
  generalize u.setRow g c1 = u2 at hu2 hM2 hvv ⊢
  clear hu hM hv hvb
  refine ⟨trivial, ?_⟩
  try simp only [Act.put, List.setIfInBounds_toArray, List.set_cons_zero, List.set_cons_succ]
  refine wpAnyH_done (by kernel_rfl) ?_ _
  go_wp2_with (first
    | ((with_reducible refine at_slot 82 ?_); refine wpList_plain rfl fun K' hK' => wp_copyR (.tmp 80) (.tmp 81) 74 rfl _ _ rfl rfl (run_copy_rowK _ 74 74 _ 81 2 1 g (i * 2) (nn + 1 - i) (c - i) ⟨vb, 0, none⟩ 1 1 c1 81 (rcs [r]) Try.underlying74 info_runs hu2 (by simp only [Nat.min_def]; split <;> omega) rfl (fun j v hj => (Row.one_run (x := r.1) (y := r.2) hvv).get j v hj) (by have h9 := HFIN.out.2.2; rw [Array.length_toList, Array.length_toList, HSZ.out] at h9; rw [h9]; show i * 2 + 2 ≤ c * 2; omega) (one_rcs _)) (hK' _ _ ?_)))
  go_ret
  refine ⟨rfl, hM2.trans (Mod.setRow g _ (by simp)), _, rowSetRow hu2 _, ?_, ?_⟩
  · have h9 := HFIN.out.2.1.trans (Array.length_toList.trans HSZ.out)
    show (List.take (i * 2) c1.toList ++ (rcs [r] ++ List.drop (i * 2 + 2) c1.toList)).toArray.size = c * 2
    rw [List.size_toArray, ← List.append_assoc]
    exact h9
  · rw [HRES.out]
    have h9 := HFIN.out.1
    rw [List.append_assoc] at h9
    exact h9
end Go.Proofs.Ytblkfpipmdfmkaa
