/- Walks: the reference's Reply; About, of both. -/
import Derived.Test.YtlgkgdgmhcckfaaIcmpL
namespace Go.Proofs.Ytlgkgdgmhcckfaa
set_option linter.unusedVariables false
set_option linter.unusedSimpArgs false
open Go.RowKit

theorem wp_append_u8 {o : Oper} {a : Act} {K : Act → World → Prop} {Q : Exit → Act → World → Prop} (s x : Operand) (base : Nat) (xs ys zs : List UInt8) (hz : xs ++ ys = zs) {v u : Value} {w : World} (hg : o.guard = none)
    (ho : o.op = .call { callee := .builtin .append, args := #[s, x], argTypes := #[24, 24] })
    (hs : a.eval s = v) (hx : a.eval x = u) (hown : OB w base v xs) (hr : RB w u ys) (hlen : xs.length + ys.length ≤ 70368744177664) (hbase : base ≤ w.heap.size)
    (h : ∀ A' c' w', OB w' base (.slice A' zs.length c') zs → Below base w w' → w.grownBy w' v.ownBlock → ((Value.slice A' zs.length c').ownBlock = v.ownBlock ∨ (Value.slice A' zs.length c').ownBlock = some w.heap.size) → K (a.put o.dst (.slice A' zs.length c')) w') : o.wp Try.prog a w K Q := by
  have hw : Region.wanted o (yielded #[] a.tmps) = true := by simp [Region.wanted, hg]
  have h1 := step_append_u8 (ops := #[]) (E := True) (Q := Q) s x base xs ys zs hz hw ho hs hx hown hr hlen hbase h
  rwa [if_pos hw] at h1
theorem rmsg_ret2 {fn : Func} {R : Ending → World → Prop} {tmps : Array Value} {w : World} {p q : Tmp} {b : Nat} {m : Msg} {dv v : Value} (hf : fn.results = #[.cell p 26, .tmp q]) (hp : tmps.getD p undef = .pointer (some ⟨b, 0, none⟩)) (hq : tmps.getD q undef = v)
    (hb : w.heap[b]? = some (.cells (m.cells dv) 26 (0, 0))) (hR : R (.returned (.tuple #[m.v dv, v])) w) : bodyPost Try.prog fn R .ret ⟨tmps, []⟩ w := by
  have hp' : tmps[p]?.getD undef = .pointer (some ⟨b, 0, none⟩) := by simpa using hp
  have hq' : tmps[q]?.getD undef = v := by simpa using hq
  refine bodyPost_ret (v := .tuple #[m.v dv, v]) ?_ rfl hR
  simp [results, hf, hp', hq', asAddr, run_loadVar_row w b 26 26 (m.cells dv) (0, 0) _ hb Try.underlying26 rfl infoR]
  rfl
set_option maxHeartbeats 1000000 in
theorem rreply_any (m : Msg) (dv : Value) (w : World) (hd : RB w dv m.data) (hl : m.data.length ≤ 3008) :
    Calls Try.prog 21 #[m.v dv] w fun e w' => ∃ dv', e = .returned (.tuple #[(replyS m).v dv', .bool (decide (m.kind = 1))]) ∧ RB w' dv' (replyS m).data ∧ Below w.heap.size w w' := by
  have hd0 := hid hd
  obtain ⟨A, c, rfl, hrow⟩ := hd
  clear hrow
  unfold replyS
  by_cases h1 : m.kind = 1
  · rw [if_pos h1, decide_eq_true h1]
    obtain ⟨k, co, i, sq, u, dt⟩ := m
    simp only at *
    subst h1
    go_enter Try.func21, Try.ntmps21
    unfold Msg.v Msg.cells
    go_wp2_with fail
    generalize hW : (w.alloc _).alloc _ = W
    obtain ⟨f0, f1, fb, fs⟩ := two_facts hW
    clear hW
    obtain ⟨c0, c1, c2, c3, c4, c5⟩ := msg_cells (m := ⟨_, _, _, _, _, dt⟩) f0
    simp only at c0 c1 c2 c3 c4 c5
    have b2 : w.heap.size < w.heap.size + 1 := by omega
    refine wp_region_hand (fun W' => Below (w.heap.size + 1) W W') (by kernel_rfl) (below_drewN (Below.refl _ _) 1) ?_
    intro hS
    have g1 : ({ W with drawn := W.drawn + 1 } : World).heap[w.heap.size + 1]? = _ := f1
    have gs : ({ W with drawn := W.drawn + 1 } : World).heap.size = w.heap.size + 2 := fs
    generalize ({ W with drawn := W.drawn + 1 } : World) = w3 at hS g1 gs ⊢
    refine wpAnyH_take (i := 0) (oi := ⟨some 8, _, _, _, _, _⟩) (v := ?_) rfl (by kernel_rfl) (by kernel_rfl) (by kernel_rfl) (fun _ _ _ h => h) (Or.inl ⟨by rfl, ?_⟩) hS ?_
    rotate_left 1
    focus ((intro W' hS'; go_simp) <;> with_reducible rfl)
    try simp only [Act.put, List.setIfInBounds_toArray, List.set_cons_zero, List.set_cons_succ]
    refine wpAnyH_take (i := 1) (oi := ⟨some 9, _, _, _, _, _⟩) (v := ?_) rfl (by kernel_rfl) (by kernel_rfl) (by kernel_rfl) (fun _ _ _ h => h) (Or.inl ⟨by rfl, ?_⟩) hS ?_
    rotate_left 1
    focus ((intro W' hS'; have q1 := keep_cell hS' c2 b2; go_simp) <;> with_reducible rfl)
    try simp only [Act.put, List.setIfInBounds_toArray, List.set_cons_zero, List.set_cons_succ]
    refine wpAnyH_take (i := 2) (oi := ⟨some 10, _, _, _, _, _⟩) (v := ?_) rfl (by kernel_rfl) (by kernel_rfl) (by kernel_rfl) (fun _ _ _ h => h) (Or.inl ⟨by rfl, ?_⟩) hS ?_
    rotate_left 1
    focus ((intro W' hS'; go_simp) <;> with_reducible rfl)
    try simp only [Act.put, List.setIfInBounds_toArray, List.set_cons_zero, List.set_cons_succ]
    refine wpAnyH_take (i := 3) (oi := ⟨some 11, _, _, _, _, _⟩) (v := ?_) rfl (by kernel_rfl) (by kernel_rfl) (by kernel_rfl) (fun _ _ _ h => h) (Or.inl ⟨by rfl, ?_⟩) hS ?_
    rotate_left 1
    focus ((intro W' hS'; have q1 := keep_cell hS' c3 b2; go_simp) <;> with_reducible rfl)
    try simp only [Act.put, List.setIfInBounds_toArray, List.set_cons_zero, List.set_cons_succ]
    refine wpAnyH_take (i := 4) (oi := ⟨some 12, _, _, _, _, _⟩) (v := ?_) rfl (by kernel_rfl) (by kernel_rfl) (by kernel_rfl) (fun _ _ _ h => h) (Or.inl ⟨by rfl, ?_⟩) hS ?_
    rotate_left 1
    focus ((intro W' hS'; go_simp) <;> with_reducible rfl)
    try simp only [Act.put, List.setIfInBounds_toArray, List.set_cons_zero, List.set_cons_succ]
    refine wpAnyH_take (i := 5) (oi := ⟨some 13, _, _, _, _, _⟩) (v := ?_) rfl (by kernel_rfl) (by kernel_rfl) (by kernel_rfl) (fun _ _ _ h => h) (Or.inl ⟨by rfl, ?_⟩) hS ?_
    rotate_left 1
    focus ((intro W' hS'; have q1 := keep_cell hS' c5 b2; go_simp) <;> with_reducible rfl)
    try simp only [Act.put, List.setIfInBounds_toArray, List.set_cons_zero, List.set_cons_succ]
    refine anyH_one (i := 6) (by kernel_rfl) ⟨some 14, _, _, _, _, _⟩ rfl (by rfl) ?_
    refine wp_append_u8 (.const (.slice none 0 0)) (.tmp 13) (w.heap.size + 2) [] dt dt rfl rfl rfl rfl rfl (OB.nil _ _) (hd0.out.below (fb.trans (hS.mono (by omega)))) (by simp; omega) (Nat.le_of_eq gs.symm) ?_
    intro A3 n3 wC ho3 hb3 _ _
    have hrb3 := ho3.rb
    have hlo := ho3.where
    have hg3 := (hb3.block _ (by omega)).trans g1
    have hS := hS.trans (hb3.mono (by omega))
    refine ⟨hS, ?_⟩
    try simp only [Act.put, List.setIfInBounds_toArray, List.set_cons_zero, List.set_cons_succ]
    refine wpAnyH_take (i := 7) (oi := ⟨some 15, _, _, _, _, _⟩) (v := ?_) rfl (by kernel_rfl) (by kernel_rfl) (by kernel_rfl) (fun _ _ _ h => h) (Or.inl ⟨by rfl, ?_⟩) hS ?_
    rotate_left 1
    focus ((intro W' hS'; go_simp) <;> with_reducible rfl)
    try simp only [Act.put, List.setIfInBounds_toArray, List.set_cons_zero, List.set_cons_succ]
    refine anyH_one (i := 8) (by kernel_rfl) ⟨none, _, _, _, _, _⟩ rfl (by rfl) ?_
    refine wp_store_row _ _ _ rfl _ _ rfl rfl _ _ hg3 infoR rfl (by simp [Value.oneCell']) ?_
    have hS := belowSetRow (b := w.heap.size + 1) hS (Nat.le_refl _) #[.int .i64 2, .int .u8 0, .int .u16 i, .int .u16 sq, .int .u32 0, .slice A3 dt.length n3]
    refine ⟨hS, ?_⟩
    refine wpAnyH_take (i := 9) (oi := ⟨some 3, _, _, _, _, _⟩) (v := ?_) rfl (by kernel_rfl) (by kernel_rfl) (by kernel_rfl) (fun _ _ _ h => h) (Or.inl ⟨by rfl, ?_⟩) hS ?_
    rotate_left 1
    focus ((intro W' hS'; go_simp) <;> with_reducible rfl)
    try simp only [Act.put, List.setIfInBounds_toArray, List.set_cons_zero, List.set_cons_succ]
    refine wpAnyH_done (by kernel_rfl) ?_ _
    go_wp2_with fail
    exact rmsg_ret2 (m := ⟨2, 0, i, sq, 0, dt⟩) (dv := .slice A3 dt.length n3) rfl rfl rfl (rowSetRow hg3 _) ⟨.slice A3 dt.length n3, rfl, hrb3.setRowNe _ (fun a ha hn => by have := hlo a ha hn; omega), fb.trans (hS.mono (by omega))⟩
  · rw [if_neg h1, decide_eq_false h1]
    have hk : (m.kind != 1) = true := by simp [h1]
    clear h1
    obtain ⟨k, co, i, sq, u, dt⟩ := m
    simp only at *
    go_enter Try.func21, Try.ntmps21
    unfold Msg.v Msg.cells
    go_wp2_with fail
    exact rmsg_ret2 (m := noMsg) (dv := .slice none 0 0) rfl rfl rfl (two_facts rfl).2.1 ⟨.slice none 0 0, rfl, RB.nil _, (two_facts rfl).2.2.1⟩
theorem slice_h {P : Program} (t e : TypeId) (kh : IntKind) {i : TypeInfo} (ht : P.underlying t = some (.slice e)) (hi : P.info? e = some i) (A : Option Addr) (n c : Nat) (h : Int) (h0 : 0 ≤ h) (hm : h ≤ c) :
    ∀ W : World, (Instr.slice t (.slice A n c) none (some (.int kh h)) none).run P W = .ok (.slice (if c = 0 then A else A.map (·.add 0)) h.toNat c) W := by
  intro W
  have hel : P.elem t = e := by simp [Program.elem, ht]
  have hu : P.underlying t = some (.slice (P.elem t)) := by rw [hel]; exact ht
  go_simp
  simp [sizeOf, typeInfo, hi, Result.andThen]
/-- The first bytes of a slice. -/
theorem head_part {w : World} {A : Option Addr} {c : Nat} {p : List UInt8} (hx : RB w (.slice A p.length c) p) (mo : Nat) : RB w (.slice A (p.take mo).length c) (p.take mo) := by
  have hl : (p.take mo).length ≤ p.length := by rw [List.length_take]; omega
  have h1 := RB.part hx 0 (p.take mo).length (by omega)
  have e : ((p.drop 0).take (p.take mo).length) = p.take mo := by
    rw [List.drop_zero, List.length_take]
    rcases Nat.le_total mo p.length with h | h
    · rw [Nat.min_eq_left h]
    · rw [Nat.min_eq_right h, List.take_length, List.take_of_length_le h]
  have ea : (if c = 0 then A else A.map (·.add (0 * 1))) = A := by
    split
    · rfl
    · cases A <;> simp [Addr.add]
  rw [e, Nat.sub_zero, ea] at h1
  exact h1
theorem clone_q (v : Value) (q : List UInt8) (n : Nat) (w : World) (hr : RB w v q) (hn : n = q.length) (hl : q.length ≤ 70368744177664) :
    Calls Try.prog 36 #[v] w fun e w' => ∃ A c, e = .returned (.slice A n c) ∧ OB w' w.heap.size (.slice A n c) q ∧ Below w.heap.size w w' := by
  subst hn; exact clone_any v q w hr hl
set_option maxHeartbeats 2000000 in
theorem about_any (k : Int) (v : Value) (p : List UInt8) (six : Bool) (w : World) (hx : RB w v p) (hl : p.length ≤ 3008) :
    Calls Try.prog 22 #[.int .i64 k, v, .bool six] w fun e w' => ∃ dv, e = .returned ((aboutS k p six).v dv) ∧ RB w' dv (aboutS k p six).data ∧ Below w.heap.size w w' := by
  have hx0 := hid hx
  obtain ⟨A, c, rfl, hrow⟩ := hx
  have hcap := hrow.cap
  have htop := hrow.top
  clear hrow
  by_cases h3 : k = 3 ∨ k = 4 ∨ k = 5
  · have hab : aboutS k p six = ⟨k, 0, 0, 0, 0, p.take (if six then 1232 else 548)⟩ := by unfold aboutS; rw [if_pos h3]; rfl
    rw [hab]
    clear hab
    obtain ⟨mo, hmo⟩ : ∃ mo : Nat, mo = if six then 1232 else 548 := ⟨_, rfl⟩
    rw [← hmo]
    have hy := head_part hx0.out mo
    have hql : (p.take mo).length = min mo p.length := List.length_take
    generalize p.take mo = q at hy hql ⊢
    have HY := hid hy
    have hqc : q.length ≤ 3008 := by omega
    clear hy
    have hk : ((k == 4) = true ∧ (k != 4) = false) ∨ ((k != 4) = true ∧ decide (k = 3 ∨ k = 5) = true) := by
      by_cases h4 : k = 4
      · left; simp [h4]
      · right; simp [h4]; omega
    have HMO := hid hmo
    have HQL := hid hql
    clear hmo hql h3
    have hcases : (six = false ∧ (p.length : Int) ≤ 548 ∧ q.length = p.length) ∨ (six = false ∧ 548 < (p.length : Int) ∧ q.length = 548) ∨ (six = true ∧ (p.length : Int) ≤ 1232 ∧ q.length = p.length) ∨ (six = true ∧ 1232 < (p.length : Int) ∧ q.length = 1232) := by
      have h1 := HMO.out
      have h2 := HQL.out
      cases six <;> simp at h1 ⊢ <;> subst h1 <;> omega
    rcases hk with ⟨h4, h4'⟩ | ⟨h4, h35⟩ <;> rcases hcases with ⟨rfl, hle, hq⟩ | ⟨rfl, hle, hq⟩ | ⟨rfl, hle, hq⟩ | ⟨rfl, hle, hq⟩
    all_goals
      have HQ := hid hq
      clear hq
      go_enter Try.func22, Try.ntmps22
      go_wp2_with (first | (go_at_call 31; refine (coded_any _ _).mono ?_; rintro e w' ⟨rfl, rfl⟩))
    all_goals
      generalize hW : w.alloc _ = W
      obtain ⟨f0, fb, fs⟩ := one_facts hW
      clear hW
      have hyq := HY.out.below fb
      rw [HQ.out] at hyq
      have hc2 := HQ.out
      with_reducible refine Calls.mono (clone_q _ q _ W hyq hc2.symm (by omega)) ?_
      rintro e w1 ⟨A1, n1, rfl, ho1, hb1⟩
      have hlo := ho1.where
      have hrb1 := ho1.rb
      have f1 := (hb1.block _ (by omega)).trans f0
      have fb1 := below_after fb hb1 (Nat.le_refl _)
      clear f0 hb1
      go_wp2_with (refine wpList_store_row rfl 36 (.tmp 6) (.tmp 25) rfl w.heap.size _ rfl rfl _ _ f1 infoM rfl (by simp [Value.oneCell']) ?_)
      refine msg_ret (m := ⟨k, 0, 0, 0, 0, q⟩) rfl rfl (rowSetRow f1 _) ⟨_, rfl, hrb1.setRowNe _ (fun a ha hn => by have := hlo a ha hn; omega), belowSetRow fb1 (Nat.le_refl _) _⟩
  · have hab : aboutS k p six = noMsg := by unfold aboutS; rw [if_neg h3]
    rw [hab]
    have hk1 : (k != 4) = true := by simp; omega
    have hk2 : decide (k = 3 ∨ k = 5) = false := by simp; omega
    clear hab h3
    go_enter Try.func22, Try.ntmps22
    go_wp2_with (first | (go_at_call 31; refine (coded_any _ _).mono ?_; rintro e w' ⟨rfl, rfl⟩))
    exact msg_ret (m := noMsg) rfl rfl (one_facts rfl).1 ⟨.slice none 0 0, rfl, RB.nil _, (one_facts rfl).2.1⟩
set_option maxHeartbeats 2000000 in
theorem rabout_any (k : Int) (v : Value) (p : List UInt8) (six : Bool) (w : World) (hx : RB w v p) (hl : p.length ≤ 3008) :
    Calls Try.prog 23 #[.int .i64 k, v, .bool six] w fun e w' => ∃ dv, e = .returned ((aboutS k p six).v dv) ∧ RB w' dv (aboutS k p six).data ∧ Below w.heap.size w w' := by
  have hx0 := hid hx
  obtain ⟨A, c, rfl, hrow⟩ := hx
  have hcap := hrow.cap
  have htop := hrow.top
  clear hrow
  by_cases h3 : k = 3 ∨ k = 4 ∨ k = 5
  · have hab : aboutS k p six = ⟨k, 0, 0, 0, 0, p.take (if six then 1232 else 548)⟩ := by unfold aboutS; rw [if_pos h3]; rfl
    rw [hab]
    clear hab
    obtain ⟨mo, hmo⟩ : ∃ mo : Nat, mo = if six then 1232 else 548 := ⟨_, rfl⟩
    rw [← hmo]
    have hy := head_part hx0.out mo
    have hql : (p.take mo).length = min mo p.length := List.length_take
    generalize p.take mo = q at hy hql ⊢
    have HY := hid hy
    have hqc : q.length ≤ 3008 := by omega
    clear hy
    have hk : (k != 3) = false ∨ ((k != 3) = true ∧ (k != 4) = false) ∨ ((k != 3) = true ∧ (k != 4) = true ∧ (k != 5) = false) := by
      by_cases h33 : k = 3
      · left; simp [h33]
      · by_cases h4 : k = 4
        · right; left; simp [h4]
        · right; right; simp [h33, h4]; omega
    have HMO := hid hmo
    have HQL := hid hql
    clear hmo hql h3
    have hcases : (six = false ∧ (p.length : Int) ≤ 548 ∧ q.length = p.length) ∨ (six = false ∧ 548 < (p.length : Int) ∧ q.length = 548) ∨ (six = true ∧ (p.length : Int) ≤ 1232 ∧ q.length = p.length) ∨ (six = true ∧ 1232 < (p.length : Int) ∧ q.length = 1232) := by
      have h1 := HMO.out
      have h2 := HQL.out
      cases six <;> simp at h1 ⊢ <;> subst h1 <;> omega
    rcases hk with h43 | ⟨h43, h44⟩ | ⟨h43, h44, h45⟩ <;> rcases hcases with ⟨rfl, hle, hq⟩ | ⟨rfl, hle, hq⟩ | ⟨rfl, hle, hq⟩ | ⟨rfl, hle, hq⟩
    all_goals
      have HQ := hid hq
      clear hq
      go_enter Try.func23, Try.ntmps23
      have hyq := HY.out
      rw [HQ.out] at hyq
      have hc2 := HQ.out
      have hyb := fun o : Obj => hyq.alloc o
      have HYB := hid hyb
      have HC2 := hid hc2
      clear hyq hc2 hyb
      go_wp2_with (first
        | (at_builtin; refine append_u8 (.const (.slice none 0 0)) (.tmp 26) (w.heap.size + 1) [] q q rfl rfl rfl rfl rfl (OB.nil _ _) (HYB.out _) (by simp; omega) (by simp) ?_; intro A1 n1 w1 ho1 hb1 _ _; have f1 := (hb1.block w.heap.size (by omega)).trans (one_facts rfl).1; have fb1 := (one_facts (w := w) rfl).2.1.trans (hb1.mono (by omega)))
        | refine wpList_store_row rfl 26 (.tmp 6) (.tmp 28) rfl w.heap.size _ rfl rfl _ _ f1 infoR rfl (by simp [Value.oneCell']) ?_)
      have hlo := ho1.where
      have hrb1 := ho1.rb
      refine rmsg_ret (m := ⟨k, 0, 0, 0, 0, q⟩) rfl rfl (rowSetRow f1 _) ⟨_, rfl, hrb1.setRowNe _ (fun a ha hn => by have := hlo a ha hn; omega), belowSetRow fb1 (Nat.le_refl _) _⟩
  · have hab : aboutS k p six = noMsg := by unfold aboutS; rw [if_neg h3]
    rw [hab]
    have hk1 : (k != 3) = true := by simp; omega
    have hk2 : (k != 4) = true := by simp; omega
    have hk3 : (k != 5) = true := by simp; omega
    clear hab h3
    go_enter Try.func23, Try.ntmps23
    go_wp2_with fail
    exact rmsg_ret (m := noMsg) rfl rfl (one_facts rfl).1 ⟨.slice none 0 0, rfl, RB.nil _, (one_facts rfl).2.1⟩
end Go.Proofs.Ytlgkgdgmhcckfaa
