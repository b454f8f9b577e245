/- Walk: icmp.Parse. -/
import Derived.Test.YtlgkgdgmhcckfaaIcmpH
import Derived.Deep.DeepCutAuto
import Derived.Deep.CutBlock
import Derived.Outline
namespace Go.Proofs.Ytlgkgdgmhcckfaa
set_option linter.unusedVariables false
set_option linter.unusedSimpArgs false
open Go.RowKit

theorem keep_cell {B : Nat} {w w' : World} (h : Below B w w') {p : Addr} {v : Value} (hc : w.cell? p = some v) (hp : p.block < B) : w'.cell? p = some v := (h.cell hp).trans hc
theorem slice_lh {P : Program} (t e : TypeId) (kl kh : IntKind) {i : TypeInfo} (ht : P.underlying t = some (.slice e)) (hi : P.info? e = some i) (size : Nat) (hsz : i.size = size) (A : Option Addr) (n c : Nat) (l h : Int) (h0 : 0 ≤ l) (h1 : l ≤ h) (hm : h ≤ c) :
    ∀ W : World, (Instr.slice t (.slice A n c) (some (.int kl l)) (some (.int kh h)) none).run P W = .ok (.slice (if c = l.toNat then A else A.map (·.add (l.toNat * size))) (h.toNat - l.toNat) (c - l.toNat)) W := by
  intro W
  have hel : P.elem t = e := by simp [Program.elem, ht]
  have hu : P.underlying t = some (.slice (P.elem t)) := by rw [hel]; exact ht
  go_simp
  simp [sizeOf, typeInfo, hi, hsz, Result.andThen]
theorem RB.part {w : World} {A : Option Addr} {c : Nat} {b : List UInt8} (h : RB w (.slice A b.length c) b) (l m : Nat) (hm : l + m ≤ b.length) : RB w (.slice (if c = l then A else A.map (·.add (l * 1))) m (c - l)) ((b.drop l).take m) := by
  obtain ⟨A', c', e, r⟩ := h
  injection e with e1 e2 e3
  subst e1 e3
  have r1 := (r.drop (k := l) (by omega)).take (m := m) (by omega)
  have hl : ((b.drop l).take m).length = m := by rw [List.length_take, List.length_drop]; omega
  refine ⟨_, _, by rw [hl], ?_⟩
  rw [hl]
  have e : (List.drop (l * 1) (by8 b)).take (m * 1) = by8 ((b.drop l).take m) := by rw [Nat.mul_one, Nat.mul_one, by8_drop, by8_take]
  rw [e] at r1
  exact r1
theorem RB.setCellNe {w : World} {A : Option Addr} {n c g : Nat} {xs : List UInt8} (h : RB w (.slice A n c) xs) (k : Nat) (u : Value) (hne : ∀ a, A = some a → 0 < n → a.block ≠ g) : RB (w.setCell ⟨g, k, none⟩ u) (.slice A n c) xs := by
  obtain ⟨A', c', e, r⟩ := h
  injection e with e1 e2 e3
  subst e1 e2 e3
  have hg := grownBy_setCell w g k u
  refine ⟨_, _, rfl, r.len, r.cap, r.top, fun j v hk => ?_⟩
  obtain ⟨ad, rfl, hc⟩ := r.at_ j v hk
  refine ⟨ad, rfl, hg.cell hc (fun hk' => ?_)⟩
  rw [add_block] at hk'
  injection hk' with hk'
  have hkl := (List.getElem?_eq_some_iff.1 hk).1
  rw [by8_length] at hkl
  exact hne ad rfl (by omega) (by first | exact hk' | exact hk'.symm)
theorem msg_ret2 {fn : Func} {R : Ending → World → Prop} {tmps : Array Value} {w : World} {p q : Tmp} {b : Nat} {m : Msg} {dv v : Value} (hf : fn.results = #[.cell p 36, .tmp q]) (hp : tmps.getD p undef = .pointer (some ⟨b, 0, none⟩)) (hq : tmps.getD q undef = v)
    (hb : w.heap[b]? = some (.cells (m.cells dv) 36 (0, 0))) (hR : R (.returned (.tuple #[m.v dv, v])) w) : bodyPost Try.prog fn R .ret ⟨tmps, []⟩ w := by
  have hp' : tmps[p]?.getD undef = .pointer (some ⟨b, 0, none⟩) := by simpa using hp
  have hq' : tmps[q]?.getD undef = v := by simpa using hq
  refine bodyPost_ret (v := .tuple #[m.v dv, v]) ?_ rfl hR
  simp [results, hf, hp', hq', asAddr, run_loadVar_row w b 36 36 (m.cells dv) (0, 0) _ hb Try.underlying36 rfl infoM]
  rfl
theorem OB.where {w : World} {base : Nat} {A : Option Addr} {n c : Nat} {xs : List UInt8} (h : OB w base (.slice A n c) xs) : ∀ a, A = some a → 0 < n → base ≤ a.block ∧ a.block < w.heap.size := by
  intro a ha hn
  obtain ⟨g, h1, h2, h3, _⟩ := h.blk hn
  rw [ha] at h1
  injection h1 with h1
  subst h1
  exact ⟨h2, h3⟩
theorem RB.setRowNe {w : World} {A : Option Addr} {n c g : Nat} {xs : List UInt8} (h : RB w (.slice A n c) xs) (ds : Array Value) (hne : ∀ a, A = some a → 0 < n → a.block ≠ g) : RB (w.setRow g ds) (.slice A n c) xs := by
  obtain ⟨A', c', e, r⟩ := h
  injection e with e1 e2 e3
  subst e1 e2 e3
  have hg : w.grownBy (w.setRow g ds) (some g) := ⟨rfl, rfl, rfl, Nat.le_of_eq (sizeSetRow ds).symm, fun k _ hk => rowSetRow_far (fun e => hk (by rw [e])) ds⟩
  refine ⟨_, _, rfl, r.len, r.cap, r.top, fun k v hk => ?_⟩
  obtain ⟨ad, rfl, hc⟩ := r.at_ k v hk
  refine ⟨ad, rfl, hg.cell hc (fun hk' => ?_)⟩
  rw [add_block] at hk'
  injection hk' with hk'
  have hkl := (List.getElem?_eq_some_iff.1 hk).1
  rw [by8_length] at hkl
  exact hne ad rfl (by omega) (by first | exact hk' | exact hk'.symm)
set_option maxHeartbeats 2000000 in
theorem parse_any (v : Value) (b : List UInt8) (s d : Adr) (w : World) (hx : RB w v b) (hl : b.length ≤ 3008) :
    Calls Try.prog 17 #[v, .agg s.cells, .agg d.cells] w fun e w' => ∃ dv, e = .returned (.tuple #[(parseS b s d).v dv, .int .i64 (perrS b s d)]) ∧ RB w' dv (parseS b s d).data ∧ Below w.heap.size w w' := by
  have hx0 := hid hx
  obtain ⟨A, c, rfl, hrow⟩ := hx
  have hcap := hrow.cap
  have htop := hrow.top
  have k0 : s.cells[0]? = some (.bool s.six) := rfl
  by_cases h8 : b.length < 8
  · have hpe : perrS b s d = 4 := by unfold perrS; rw [if_pos h8]
    have hps : parseS b s d = noMsg := by unfold parseS; rw [if_neg (by rw [hpe]; omega)]
    rw [hpe, hps]
    clear hpe hps hrow
    have hdec : decide ((b.length : Int) < 8) = true := by simp; omega
    go_enter Try.func17, Try.ntmps17
    go_wp2_with fail
    exact msg_ret2 (m := noMsg) (dv := .slice none 0 0) rfl rfl rfl (three_facts rfl).2.2.1 ⟨.slice none 0 0, rfl, RB.nil _, (three_facts rfl).2.2.2.1⟩
  by_cases hsum : sumS b s d ≠ 65535
  · have hpe : perrS b s d = 8 := by unfold perrS; rw [if_neg h8, if_pos hsum]
    have hps : parseS b s d = noMsg := by unfold parseS; rw [if_neg (by rw [hpe]; omega)]
    rw [hpe, hps]
    clear hpe hps hrow
    have hal := aheadS_len s d b.length
    have HA := hid fun W => ahead_any s d b.length W (by omega)
    have hsa := sumS_ahead b s d
    generalize sumS b s d = F at hsum hsa
    have HS := hid hsa
    clear hsa
    generalize aheadS s d b.length = AH at HA HS hal
    have hdec : decide ((b.length : Int) < 8) = false := by simp; omega
    have hF : (F != 65535) = true := by simp [hsum]
    clear hsum
    go_enter Try.func17, Try.ntmps17
    go_wp2_with (first
      | refine wpList_load_row rfl 29 (.tmp 4) rfl w.heap.size rfl 29 s.cells (0, 0) _ (three_facts rfl).1 Try.underlying29 rfl (info_addr s) ?_
      | refine wpList_load_row rfl 29 (.tmp 5) rfl (w.heap.size + 1) rfl 29 d.cells (0, 0) _ (three_facts rfl).2.1 Try.underlying29 rfl (info_addr d) ?_)
    generalize hW : ((w.alloc _).alloc _).alloc _ = W
    obtain ⟨f0, f1, f2, fb, fs⟩ := three_facts hW
    clear hW
    with_reducible refine Calls.mono (HA.out W) ?_
    rintro e w1 ⟨A1, n1, rfl, ho1, hb1⟩
    have g2 := (hb1.block _ (by omega)).trans f2
    have fb1 := below_after fb hb1 (Nat.le_refl _)
    go_wp2_with fail
    with_reducible refine Calls.mono (sum_any _ [AH, b] _ (RBB.new2 w1 _ _ _ _ _ _ rfl ho1.rb (hx0.out.below fb1)) (btot2 _ _ _ hal hl (by omega))) ?_
    rw [← HS.out]
    rintro e w2 ⟨rfl, n2, rfl⟩
    generalize hW : (w1.alloc _).drewN n2 = W2
    have hb2 : Below w1.heap.size w1 W2 := by rw [← hW]; exact below_drewN (below_alloc (Below.refl _ _) _ (Nat.le_refl _)) _
    clear hW
    have hs1 := hb1.size
    replace g2 := (hb2.block _ (by omega)).trans g2
    replace fb1 := below_after fb1 hb2 (Nat.le_refl _)
    go_wp2_with (refine wpList_store_row rfl 36 (.tmp 6) (.tmp 24) rfl (w.heap.size + 1 + 1) _ rfl rfl _ _ g2 infoM rfl (by simp [Value.oneCell']) ?_)
    exact msg_ret2 (m := noMsg) (dv := .slice none 0 0) rfl rfl rfl (rowSetRow g2 _) ⟨.slice none 0 0, rfl, RB.nil _, belowSetRow fb1 (by omega) _⟩
  have hpe : perrS b s d = if mayS (readS b s.six) s.six then 0 else 11 := by unfold perrS; rw [if_neg h8, if_neg hsum]
  have hps : parseS b s d = if mayS (readS b s.six) s.six then readS b s.six else noMsg := by
    unfold parseS
    rw [hpe]
    cases mayS (readS b s.six) s.six <;> simp
  rw [hpe, hps]
  clear hpe hps
  have n8 : (8 : Int) ≤ b.length := by omega
  obtain ⟨ad, rfl⟩ := hrow.addr (by rw [hrow.len]; omega)
  have r0' := hrow.get 0 _ (by8_get b 0 (by omega))
  rw [add_zero'] at r0'
  have r1' := hrow.lit 1 _ (by omega) (by8_get b 1 (by omega))
  have hrd := readS_ok b s.six
  obtain ⟨M, hM⟩ : ∃ M, M = readS b s.six := ⟨_, rfl⟩
  have HM := hid hM
  rw [← hM] at hrd ⊢
  have hmay := fun (dv : Value) W (h : RB W dv M.data) => may_any M dv s.six W h
  generalize mayS M s.six = mb at hmay ⊢
  have HMAY := hid hmay
  clear hmay
  have HK := hid fun W => kind_any (b.getD 0 0).toNat (b.getD 1 0).toNat s.six W (by have := (b.getD 0 0).toNat_lt; omega) (by have := (b.getD 1 0).toNat_lt; omega)
  have hMk : kindS (b.getD 0 0).toNat (b.getD 1 0).toNat s.six = M.kind := by rw [hM]; rfl
  rw [hMk] at HK
  clear hM hMk
  have hal := aheadS_len s d b.length
  have HA := hid fun W => ahead_any s d b.length W (by omega)
  have HS : Hid (foldS (wtot [aheadS s d b.length, b]) = 65535) := by unfold Hid; rw [← sumS_ahead]; omega
  clear hsum
  generalize aheadS s d b.length = AH at HA HS hal
  have hdec : decide ((b.length : Int) < 8) = false := by simp; omega
  have hbd : ∃ (A8 : Option Addr) (bd : List UInt8), bd = b.drop 8 ∧ RB w (.slice A8 bd.length (c - 8)) bd ∧ ∀ W : World, (Instr.slice 24 (.slice (some ad) b.length c) (some (.int .i64 8)) none none).run Try.prog W = .ok (.slice A8 bd.length (c - 8)) W := by
    refine ⟨if c = 8 then some ad else (some ad).map (·.add (8 * 1)), b.drop 8, rfl, ?_, fun W => ?_⟩
    · have h := RB.part (w := w) hx0.out 8 (b.length - 8) (by omega)
      rw [List.take_of_length_le (by rw [List.length_drop]; omega)] at h
      rw [List.length_drop]; exact h
    · rw [List.length_drop]
      exact slice_fromZ (P := Try.prog) 24 5 .i64 Try.underlying24 (info_parts info_u8).choose_spec.1 1 (info_parts info_u8).choose_spec.2.2.1 (some ad) b.length c 8 (by omega) n8 W
  obtain ⟨A8, bd, hbd, hrb8, sl8⟩ := hbd
  have HBD := hid hbd
  have HRB8 := hid hrb8
  have hbdl : bd.length ≤ 3000 := by rw [hbd, List.length_drop]; omega
  clear hbd hrb8
  generalize hb0 : b.getD 0 0 = b0 at r0' HK
  generalize hb1 : b.getD 1 0 = b1 at r1' HK
  have HB0 := hid hb0
  have HB1 := hid hb1
  clear hb0 hb1 hrow
  go_enter Try.func17, Try.ntmps17
  go_wp2_with (first
    | refine wpList_load_row rfl 29 (.tmp 4) rfl w.heap.size rfl 29 s.cells (0, 0) _ (three_facts rfl).1 Try.underlying29 rfl (info_addr s) ?_
    | refine wpList_load_row rfl 29 (.tmp 5) rfl (w.heap.size + 1) rfl 29 d.cells (0, 0) _ (three_facts rfl).2.1 Try.underlying29 rfl (info_addr d) ?_)
  generalize hW : ((w.alloc _).alloc _).alloc _ = W
  obtain ⟨f0, f1, f2, fb, fs⟩ := three_facts hW
  clear hW
  with_reducible refine Calls.mono (HA.out W) ?_
  rintro e w1 ⟨A1, n1, rfl, ho1, hb1⟩
  have g0 := (hb1.block _ (by omega)).trans f0
  have g2 := (hb1.block _ (by omega)).trans f2
  have fb1 := below_after fb hb1 (Nat.le_refl _)
  have fs1 : w.heap.size + 3 ≤ w1.heap.size := Nat.le_trans (Nat.le_of_eq fs.symm) hb1.size
  clear f0 f1 f2 fb fs hb1
  go_wp2_with fail
  with_reducible refine Calls.mono (sum_any _ [AH, b] _ (RBB.new2 w1 _ _ _ _ _ _ rfl ho1.rb (hx0.out.below fb1)) (btot2 _ _ _ hal hl (by omega))) ?_
  rw [HS.out]
  rintro e w2 ⟨rfl, n2, rfl⟩
  generalize hW : (w1.alloc _).drewN n2 = W2
  have hb2 : Below w1.heap.size w1 W2 := by rw [← hW]; exact below_drewN (below_alloc (Below.refl _ _) _ (Nat.le_refl _)) _
  clear hW
  replace g0 := (hb2.block _ (by omega)).trans g0
  replace g2 := (hb2.block _ (by omega)).trans g2
  replace fb1 := below_after fb1 hb2 (Nat.le_refl _)
  replace fs1 := Nat.le_trans fs1 hb2.size
  have r0 := keep_cell fb1 r0' (World.block_lt_of_cell? _ _ r0')
  have r1 := keep_cell fb1 r1' (World.block_lt_of_cell? _ _ r1')
  have q0 := (cellRow g0 0).trans k0
  clear hb2 ho1 r0' r1'
  have n0 : 0 < b.length := by omega
  have n1 : (1 : Int) < b.length := by omega
  go_upto_region 5 with fail
  go_cut [8] (fun s8 wx => ∃ (g : Nat) (A3 : Option Addr) (n3 : Nat), s8 = .pointer (some ⟨g, 0, none⟩) ∧ wx.heap[g]? = some (.cells (Msg.cells ⟨M.kind, 0, 0, 0, 0, bd⟩ (.slice A3 bd.length n3)) 36 (0, 0)) ∧ RB wx (.slice A3 bd.length n3) bd ∧ Below W2.heap.size W2 wx ∧ W2.heap.size ≤ g ∧ (∀ a, A3 = some a → 0 < bd.length → W2.heap.size ≤ a.block) ∧ ∀ a, A3 = some a → 0 < bd.length → a.block ≠ g)
  case first =>
    refine wp_region_hand (fun W' => Below W2.heap.size W2 W') (by kernel_rfl) (below_drewN (Below.refl _ _) 1) ?_
    intro hS
    generalize ({ W2 with drawn := W2.drawn + 1 } : World) = w3 at hS ⊢
    have HW3 := hid hS.size
    refine wpAnyH_take (i := 0) (oi := ⟨some 25, _, _, _, _, _⟩) (v := ?_) rfl (by kernel_rfl) (by kernel_rfl) (by kernel_rfl) (fun _ _ _ h => h) (Or.inl ⟨by rfl, ?_⟩) hS ?_
    rotate_left 1
    focus ((intro W' hS'; go_simp) <;> with_reducible rfl)
    simp only [Act.put, List.setIfInBounds_toArray, List.set_cons_zero, List.set_cons_succ]
    refine wpAnyH_take (i := 1) (oi := ⟨some 26, _, _, _, _, _⟩) (v := ?_) rfl (by kernel_rfl) (by kernel_rfl) (by kernel_rfl) (fun _ _ _ h => h) (Or.inl ⟨by rfl, ?_⟩) hS ?_
    rotate_left 1
    focus ((intro W' hS'; go_simp) <;> with_reducible rfl)
    simp only [Act.put, List.setIfInBounds_toArray, List.set_cons_zero, List.set_cons_succ]
    refine wpAnyH_take (i := 2) (oi := ⟨some 27, _, _, _, _, _⟩) (v := ?_) rfl (by kernel_rfl) (by kernel_rfl) (by kernel_rfl) (fun _ _ _ h => h) (Or.inl ⟨by rfl, ?_⟩) hS ?_
    rotate_left 1
    focus ((intro W' hS'; have q1 := keep_cell hS' r0 (World.block_lt_of_cell? _ _ r0); go_simp) <;> with_reducible rfl)
    simp only [Act.put, List.setIfInBounds_toArray, List.set_cons_zero, List.set_cons_succ]
    refine wpAnyH_take (i := 3) (oi := ⟨some 28, _, _, _, _, _⟩) (v := ?_) rfl (by kernel_rfl) (by kernel_rfl) (by kernel_rfl) (fun _ _ _ h => h) (Or.inl ⟨by rfl, ?_⟩) hS ?_
    rotate_left 1
    focus ((intro W' hS'; go_simp) <;> with_reducible rfl)
    simp only [Act.put, List.setIfInBounds_toArray, List.set_cons_zero, List.set_cons_succ]
    refine wpAnyH_take (i := 4) (oi := ⟨some 29, _, _, _, _, _⟩) (v := ?_) rfl (by kernel_rfl) (by kernel_rfl) (by kernel_rfl) (fun _ _ _ h => h) (Or.inl ⟨by rfl, ?_⟩) hS ?_
    rotate_left 1
    focus ((intro W' hS'; go_simp) <;> with_reducible rfl)
    simp only [Act.put, List.setIfInBounds_toArray, List.set_cons_zero, List.set_cons_succ]
    refine wpAnyH_take (i := 5) (oi := ⟨some 30, _, _, _, _, _⟩) (v := ?_) rfl (by kernel_rfl) (by kernel_rfl) (by kernel_rfl) (fun _ _ _ h => h) (Or.inl ⟨by rfl, ?_⟩) hS ?_
    rotate_left 1
    focus ((intro W' hS'; have q1 := keep_cell hS' r1 (World.block_lt_of_cell? _ _ r1); go_simp) <;> with_reducible rfl)
    simp only [Act.put, List.setIfInBounds_toArray, List.set_cons_zero, List.set_cons_succ]
    refine wpAnyH_take (i := 6) (oi := ⟨some 31, _, _, _, _, _⟩) (v := ?_) rfl (by kernel_rfl) (by kernel_rfl) (by kernel_rfl) (fun _ _ _ h => h) (Or.inl ⟨by rfl, ?_⟩) hS ?_
    rotate_left 1
    focus ((intro W' hS'; go_simp) <;> with_reducible rfl)
    simp only [Act.put, List.setIfInBounds_toArray, List.set_cons_zero, List.set_cons_succ]
    refine wpAnyH_take (i := 7) (oi := ⟨some 32, _, _, _, _, _⟩) (v := ?_) rfl (by kernel_rfl) (by kernel_rfl) (by kernel_rfl) (fun _ _ _ h => h) (Or.inl ⟨by rfl, ?_⟩) hS ?_
    rotate_left 1
    focus ((intro W' hS'; have q1 := keep_cell hS' q0 (World.block_lt_of_cell? _ _ q0); go_simp) <;> with_reducible rfl)
    simp only [Act.put, List.setIfInBounds_toArray, List.set_cons_zero, List.set_cons_succ]
    refine wpAnyH_take (i := 9) (oi := ⟨some 34, _, _, _, _, _⟩) (v := ?_) rfl (by kernel_rfl) (by kernel_rfl) (by kernel_rfl) (fun _ _ _ h => h) (Or.inl ⟨by rfl, ?_⟩) hS ?_
    rotate_left 1
    focus ((intro W' hS'; go_simp) <;> with_reducible rfl)
    simp only [Act.put, List.setIfInBounds_toArray, List.set_cons_zero, List.set_cons_succ]
    refine wpAnyH_take (i := 10) (oi := ⟨some 35, _, _, _, _, _⟩) (v := ?_) rfl (by kernel_rfl) (by kernel_rfl) (by kernel_rfl) (fun _ _ _ h => h) (Or.inl ⟨by rfl, ?_⟩) hS ?_
    rotate_left 1
    focus ((intro W' hS'; go_simp) <;> with_reducible rfl)
    simp only [Act.put, List.setIfInBounds_toArray, List.set_cons_zero, List.set_cons_succ]
    refine anyH_two (i := 8) (j := 13) (by kernel_rfl) (op_in ⟨some 33, _, _, _, _, _⟩ rfl (by rfl) ?_) (op_in ⟨some 8, _, _, _, _, _⟩ rfl (by rfl) ?_)
    · go_simp
      with_reducible refine Calls.mono (HK.out _) ?_
      rintro e w' ⟨rfl, rfl⟩
      refine ⟨hS, ?_⟩
      refine anyH_two (i := 11) (j := 13) (by kernel_rfl) (op_in ⟨some 36, _, _, _, _, _⟩ rfl (by rfl) ?_) (op_in ⟨some 8, _, _, _, _, _⟩ rfl (by rfl) ?_)
      · go_simp
        with_reducible refine Calls.mono (clone_any _ bd _ (HRB8.out.below (fb1.trans (hS.mono (by omega)))) (by omega)) ?_
        rintro e wC ⟨A3, n3, rfl, ho3, hb3⟩
        have hrb3 := ho3.rb
        have hlo := ho3.where
        try have hg := (hb3.block _ (by have := HG.out; omega)).trans hg
        have hS := hS.trans (hb3.mono hS.size)
        refine ⟨hS, ?_⟩
        refine wpAnyH_take (i := 12) (oi := ⟨some 37, _, _, _, _, _⟩) (v := ?_) rfl (by kernel_rfl) (by kernel_rfl) (by kernel_rfl) (fun _ _ _ h => h) (Or.inl ⟨by rfl, ?_⟩) hS ?_
        rotate_left 1
        focus ((intro W' hS'; go_simp) <;> with_reducible rfl)
        simp only [Act.put, List.setIfInBounds_toArray, List.set_cons_zero, List.set_cons_succ]
        refine anyH_one (i := 13) (by kernel_rfl) ⟨some 8, _, _, _, _, _⟩ rfl (by rfl) ?_
        go_simp
        generalize hG : World.alloc _ _ = wG
        obtain ⟨hg, hbG, hsG⟩ := one_facts hG
        clear hG
        have hgl := hS.size
        try have hrb3 := hrb3.below hbG
        have hS := hS.trans (hbG.mono hS.size)
        refine ⟨hS, ?_⟩
        have HG := hid hsG
        clear hsG
        refine anyH_one (i := 14) (by kernel_rfl) ⟨none, _, _, _, _, _⟩ rfl (by rfl) ?_
        refine wp_store_row _ _ _ rfl _ _ rfl rfl _ _ hg infoM rfl (by simp [Value.oneCell']) ?_
        refine ⟨belowSetRow hS hgl _, ?_⟩
        refine wpAnyH_done (by kernel_rfl) ?_ _
        go_wp2_with fail
        go_meet
        exact ⟨_, A3, n3, rfl, rowSetRow hg _, hrb3.setRowNe _ (fun a ha hn => by have h1 := hlo a ha hn; have h2 := HG.out; omega), belowSetRow hS hgl _, hgl, fun a ha hn => by have h1 := hlo a ha hn; have h2 := HG.out; have h3 := HW3.out; omega, fun a ha hn => by have h1 := hlo a ha hn; have h2 := HG.out; omega⟩
      · go_simp
        generalize hG : World.alloc _ _ = wG
        obtain ⟨hg, hbG, hsG⟩ := one_facts hG
        clear hG
        have hgl := hS.size
        try have hrb3 := hrb3.below hbG
        have hS := hS.trans (hbG.mono hS.size)
        refine ⟨hS, ?_⟩
        have HG := hid hsG
        clear hsG
        refine anyH_one (i := 11) (by kernel_rfl) ⟨some 36, _, _, _, _, _⟩ rfl (by rfl) ?_
        go_simp
        with_reducible refine Calls.mono (clone_any _ bd _ (HRB8.out.below (fb1.trans (hS.mono (by omega)))) (by omega)) ?_
        rintro e wC ⟨A3, n3, rfl, ho3, hb3⟩
        have hrb3 := ho3.rb
        have hlo := ho3.where
        try have hg := (hb3.block _ (by have := HG.out; omega)).trans hg
        have hS := hS.trans (hb3.mono hS.size)
        refine ⟨hS, ?_⟩
        refine wpAnyH_take (i := 12) (oi := ⟨some 37, _, _, _, _, _⟩) (v := ?_) rfl (by kernel_rfl) (by kernel_rfl) (by kernel_rfl) (fun _ _ _ h => h) (Or.inl ⟨by rfl, ?_⟩) hS ?_
        rotate_left 1
        focus ((intro W' hS'; go_simp) <;> with_reducible rfl)
        simp only [Act.put, List.setIfInBounds_toArray, List.set_cons_zero, List.set_cons_succ]
        refine anyH_one (i := 14) (by kernel_rfl) ⟨none, _, _, _, _, _⟩ rfl (by rfl) ?_
        refine wp_store_row _ _ _ rfl _ _ rfl rfl _ _ hg infoM rfl (by simp [Value.oneCell']) ?_
        refine ⟨belowSetRow hS hgl _, ?_⟩
        refine wpAnyH_done (by kernel_rfl) ?_ _
        go_wp2_with fail
        go_meet
        exact ⟨_, A3, n3, rfl, rowSetRow hg _, hrb3.setRowNe _ (fun a ha hn => by have h1 := hlo a ha hn; have h2 := HG.out; omega), belowSetRow hS hgl _, hgl, fun a ha hn => by have h1 := hlo a ha hn; have h2 := HG.out; have h3 := HW3.out; omega, fun a ha hn => by have h1 := hlo a ha hn; have h2 := HG.out; omega⟩
    · go_simp
      generalize hG : World.alloc _ _ = wG
      obtain ⟨hg, hbG, hsG⟩ := one_facts hG
      clear hG
      have hgl := hS.size
      try have hrb3 := hrb3.below hbG
      have hS := hS.trans (hbG.mono hS.size)
      refine ⟨hS, ?_⟩
      have HG := hid hsG
      clear hsG
      refine anyH_one (i := 8) (by kernel_rfl) ⟨some 33, _, _, _, _, _⟩ rfl (by rfl) ?_
      go_simp
      with_reducible refine Calls.mono (HK.out _) ?_
      rintro e w' ⟨rfl, rfl⟩
      refine ⟨hS, ?_⟩
      refine anyH_one (i := 11) (by kernel_rfl) ⟨some 36, _, _, _, _, _⟩ rfl (by rfl) ?_
      go_simp
      with_reducible refine Calls.mono (clone_any _ bd _ (HRB8.out.below (fb1.trans (hS.mono (by omega)))) (by omega)) ?_
      rintro e wC ⟨A3, n3, rfl, ho3, hb3⟩
      have hrb3 := ho3.rb
      have hlo := ho3.where
      try have hg := (hb3.block _ (by have := HG.out; omega)).trans hg
      have hS := hS.trans (hb3.mono hS.size)
      refine ⟨hS, ?_⟩
      refine wpAnyH_take (i := 12) (oi := ⟨some 37, _, _, _, _, _⟩) (v := ?_) rfl (by kernel_rfl) (by kernel_rfl) (by kernel_rfl) (fun _ _ _ h => h) (Or.inl ⟨by rfl, ?_⟩) hS ?_
      rotate_left 1
      focus ((intro W' hS'; go_simp) <;> with_reducible rfl)
      simp only [Act.put, List.setIfInBounds_toArray, List.set_cons_zero, List.set_cons_succ]
      refine anyH_one (i := 14) (by kernel_rfl) ⟨none, _, _, _, _, _⟩ rfl (by rfl) ?_
      refine wp_store_row _ _ _ rfl _ _ rfl rfl _ _ hg infoM rfl (by simp [Value.oneCell']) ?_
      refine ⟨belowSetRow hS hgl _, ?_⟩
      refine wpAnyH_done (by kernel_rfl) ?_ _
      go_wp2_with fail
      go_meet
      exact ⟨_, A3, n3, rfl, rowSetRow hg _, hrb3.setRowNe _ (fun a ha hn => by have h1 := hlo a ha hn; have h2 := HG.out; omega), belowSetRow hS hgl _, hgl, fun a ha hn => by have h1 := hlo a ha hn; have h2 := HG.out; have h3 := HW3.out; omega, fun a ha hn => by have h1 := hlo a ha hn; have h2 := HG.out; omega⟩
  case rest =>
    obtain ⟨g, A3, n3, rfl, hg, hrb3, hb3, hgl, hlo3, hne3'⟩ := hcut
    have g0' := hid g0
    replace g0 := (hb3.block _ (by omega)).trans g0
    have g2' := g2
    have q0 := (cellRow g0 0).trans k0
    have fb3 := below_after fb1 hb3 (Nat.le_refl _)
    have gl : g < wc.heap.size := (Array.getElem?_eq_some_iff.1 hg).1
    obtain ⟨c0, c1, c2, c3, c4, c5⟩ := msg_cells (m := ⟨_, _, _, _, _, bd⟩) hg
    simp only at c0 c1 c2 c3 c4 c5
    have zg := frozRow hg
    have hne3 : ∀ a, A3 = some a → 0 < bd.length → a.block ≠ g := hne3'
    have part4 : ∃ (Y : Option Addr) (x : List UInt8), x = (b.drop 4).take 4 ∧ RB w (.slice Y 4 (c - 4)) x ∧ ∀ W : World, (Instr.slice 24 (.slice (some ad) b.length c) (some (.int .i64 4)) (some (.int .i64 8)) none).run Try.prog W = .ok (.slice Y 4 (c - 4)) W :=
      ⟨_, _, rfl, RB.part hx0.out 4 4 (by omega), fun W => slice_lh (P := Try.prog) 24 5 .i64 .i64 Try.underlying24 (info_parts info_u8).choose_spec.1 1 (info_parts info_u8).choose_spec.2.2.1 (some ad) b.length c 4 8 (by omega) (by omega) (by omega) W⟩
    have hlo9 : ∀ a, A3 = some a → 0 < bd.length → w.heap.size + 1 + 1 < a.block := by
      intro a ha hn
      have := hlo3 a ha hn
      omega
    have hMk5 : 0 ≤ M.kind ∧ M.kind ≤ 5 := by rw [HM.out]; exact kindS_range _ _ _
    have HD : Hid (M.data = bd) := by unfold Hid; rw [HM.out, HBD.out]; rfl
    have HG2 := hid g2'
    clear g2'
    by_cases hE : M.kind = 1 ∨ M.kind = 2
    · have eE : decide (M.kind = 1 ∨ M.kind = 2) = true := by simp; omega
      have part2 : ∀ l (lo hi : Int), l + 2 ≤ b.length → lo = (l : Int) → hi = ((l + 2 : Nat) : Int) → ∃ (Y : Option Addr) (x : List UInt8), x = (b.drop l).take 2 ∧ RB w (.slice Y 2 (c - l)) x ∧ ∀ W : World, (Instr.slice 24 (.slice (some ad) b.length c) (some (.int .i64 lo)) (some (.int .i64 hi)) none).run Try.prog W = .ok (.slice Y 2 (c - l)) W := by
        rintro l lo hi hl2 rfl rfl
        refine ⟨_, _, rfl, RB.part hx0.out l 2 hl2, fun W => ?_⟩
        have h := slice_lh (P := Try.prog) 24 5 .i64 .i64 Try.underlying24 (info_parts info_u8).choose_spec.1 1 (info_parts info_u8).choose_spec.2.2.1 (some ad) b.length c (l : Int) ((l + 2 : Nat) : Int) (by omega) (by omega) (by omega) W
        rw [h]
        have e1 : ((l : Int)).toNat = l := by omega
        have e2 : (((l + 2 : Nat) : Int)).toNat - ((l : Int)).toNat = 2 := by omega
        rw [e2, e1]
      obtain ⟨Y4, x4, hx4, hrx4, slx4⟩ := part2 4 4 6 (by omega) rfl rfl
      obtain ⟨Y6, x6, hx6, hrx6, slx6⟩ := part2 6 6 8 (by omega) rfl rfl
      have hMv : M.code = 0 ∧ M.id = (getS x4 : Int) ∧ M.seq = (getS x6 : Int) ∧ M.mtu = 0 ∧ getS x4 ≤ 65535 ∧ getS x6 ≤ 65535 := by
        have e := HM.out
        have h12 : (readS b s.six).kind = 1 ∨ (readS b s.six).kind = 2 := by rw [← e]; exact hE
        have hb4 := be2_le b 4
        have hb6 := be2_le b 6
        have hg4 : getS x4 = be ((b.drop 4).take 2) := by rw [hx4]; exact getS_short _ (by rw [List.length_take]; omega)
        have hg6 : getS x6 = be ((b.drop 6).take 2) := by rw [hx6]; exact getS_short _ (by rw [List.length_take]; omega)
        rw [hg4, hg6, e]
        unfold readS at h12 ⊢
        simp only at h12 ⊢
        rw [if_neg (by omega), if_pos h12, if_pos h12, if_pos (by omega)]
        exact ⟨rfl, rfl, rfl, rfl, hb4, hb6⟩
      have hcM : M.cells (.slice A3 bd.length n3) = #[.int .i64 M.kind, .int .u8 0, .int .u16 (getS x4 : Int), .int .u16 (getS x6 : Int), .int .u32 0, .slice A3 bd.length n3] := by
        unfold Msg.cells; rw [hMv.1, hMv.2.1, hMv.2.2.1, hMv.2.2.2.1]
      have HCM := hid hcM
      obtain ⟨_, _, _, _, hx4l, hx6l⟩ := hMv
      clear hE hcM hx4 hx6 part2
      have HGET4 := hid fun W (h : RB W (.slice Y4 2 (c - 4)) x4) => get_any _ x4 W h
      have HGET6 := hid fun W (h : RB W (.slice Y6 2 (c - 6)) x6) => get_any _ x6 W h
      generalize getS x4 = X4 at HCM hx4l HGET4 ⊢
      generalize getS x6 = X6 at HCM hx6l HGET6 ⊢
      have wx4 : IntKind.u16.wrap (X4 : Int) = X4 := by rw [IntKind.wrap_u16]; omega
      have wx6 : IntKind.u16.wrap (X6 : Int) = X6 := by rw [IntKind.wrap_u16]; omega
      have HRX4 := hid hrx4
      have HRX6 := hid hrx6
      have fb5 := fb1
      clear hrx4 hrx6 c0 c1 c2 c3 c4 c5
      have c0 := cellRow hg 0
      simp only [Msg.cells, List.getElem?_toArray, List.getElem?_cons_zero] at c0
      go_wp2_with (go_not_at_region 8; (go_at_call 30; refine (echo_any _ _).mono ?_; rintro e w' ⟨rfl, rfl⟩))
      refine wp_region_hand (fun W' => Below W2.heap.size W2 W') (by kernel_rfl) (below_drewN hb3 1) ?_
      intro hS
      have hgw : ({ wc with drawn := wc.drawn + 1 } : World).heap[g]? = _ := hg
      have hrbw := hrb3.drewN 1
      change RB ({ wc with drawn := wc.drawn + 1 } : World) _ _ at hrbw
      generalize ({ wc with drawn := wc.drawn + 1 } : World) = w3 at hS hgw hrbw ⊢
      refine wpAnyH_take (i := 0) (oi := ⟨some 47, _, _, _, _, _⟩) (v := ?_) rfl (by kernel_rfl) (by kernel_rfl) (by kernel_rfl) (fun _ _ _ h => h) (Or.inl ⟨by rfl, ?_⟩) hS ?_
      rotate_left 1
      focus ((intro W' hS'; go_simp) <;> with_reducible rfl)
      try simp only [Act.put, List.setIfInBounds_toArray, List.set_cons_zero, List.set_cons_succ]
      refine wpAnyH_take (i := 1) (oi := ⟨some 48, _, _, _, _, _⟩) (v := ?_) rfl (by kernel_rfl) (by kernel_rfl) (by kernel_rfl) (fun _ _ _ h => h) (Or.inl ⟨by rfl, ?_⟩) hS ?_
      rotate_left 1
      focus ((intro W' hS'; go_simp) <;> with_reducible rfl)
      try simp only [Act.put, List.setIfInBounds_toArray, List.set_cons_zero, List.set_cons_succ]
      refine wpAnyH_take (i := 4) (oi := ⟨some 51, _, _, _, _, _⟩) (v := ?_) rfl (by kernel_rfl) (by kernel_rfl) (by kernel_rfl) (fun _ _ _ h => h) (Or.inl ⟨by rfl, ?_⟩) hS ?_
      rotate_left 1
      focus ((intro W' hS'; go_simp) <;> with_reducible rfl)
      try simp only [Act.put, List.setIfInBounds_toArray, List.set_cons_zero, List.set_cons_succ]
      refine wpAnyH_take (i := 5) (oi := ⟨some 52, _, _, _, _, _⟩) (v := ?_) rfl (by kernel_rfl) (by kernel_rfl) (by kernel_rfl) (fun _ _ _ h => h) (Or.inl ⟨by rfl, ?_⟩) hS ?_
      rotate_left 1
      focus ((intro W' hS'; go_simp) <;> with_reducible rfl)
      try simp only [Act.put, List.setIfInBounds_toArray, List.set_cons_zero, List.set_cons_succ]
      refine anyH_one (i := 2) (by kernel_rfl) ⟨some 49, _, _, _, _, _⟩ rfl (by rfl) ?_
      go_simp
      with_reducible refine Calls.mono (HGET4.out _ (HRX4.out.below (fb5.trans (hS.mono (by omega))))) ?_
      rintro e w' ⟨rfl, rfl⟩
      refine ⟨hS, ?_⟩
      refine wpAnyH_take (i := 3) (oi := ⟨some 50, _, _, _, _, _⟩) (v := ?_) rfl (by kernel_rfl) (by kernel_rfl) (by kernel_rfl) (fun _ _ _ h => h) (Or.inl ⟨by rfl, ?_⟩) hS ?_
      rotate_left 1
      focus ((intro W' hS'; go_simp) <;> with_reducible rfl)
      try simp only [Act.put, List.setIfInBounds_toArray, List.set_cons_zero, List.set_cons_succ]
      refine wpAnyH_take (i := 8) (oi := ⟨some 55, _, _, _, _, _⟩) (v := ?_) rfl (by kernel_rfl) (by kernel_rfl) (by kernel_rfl) (fun _ _ _ h => h) (Or.inl ⟨by rfl, ?_⟩) hS ?_
      rotate_left 1
      focus ((intro W' hS'; go_simp) <;> with_reducible rfl)
      try simp only [Act.put, List.setIfInBounds_toArray, List.set_cons_zero, List.set_cons_succ]
      refine anyH_one (i := 6) (by kernel_rfl) ⟨some 53, _, _, _, _, _⟩ rfl (by rfl) ?_
      go_simp
      with_reducible refine Calls.mono (HGET6.out _ (HRX6.out.below (fb5.trans (hS.mono (by omega))))) ?_
      rintro e w' ⟨rfl, rfl⟩
      refine ⟨hS, ?_⟩
      refine wpAnyH_take (i := 7) (oi := ⟨some 54, _, _, _, _, _⟩) (v := ?_) rfl (by kernel_rfl) (by kernel_rfl) (by kernel_rfl) (fun _ _ _ h => h) (Or.inl ⟨by rfl, ?_⟩) hS ?_
      rotate_left 1
      focus ((intro W' hS'; go_simp) <;> with_reducible rfl)
      try simp only [Act.put, List.setIfInBounds_toArray, List.set_cons_zero, List.set_cons_succ]
      refine anyH_one (i := 9) (by kernel_rfl) ⟨none, _, _, _, _, _⟩ rfl (by rfl) ?_
      have zg := frozRow hgw
      have cg := cellRow hgw 2
      try simp only [List.getElem?_toArray, List.getElem?_cons_zero, List.getElem?_cons_succ, List.setIfInBounds_toArray, List.set_cons_zero, List.set_cons_succ] at cg
      go_simp
      have hgw := rowSetCell hgw 2 (.int .u16 (X4 : Int))
      have hS := hS.setCell (p := ⟨g, 2, none⟩) hgl (.int .u16 (X4 : Int))
      have hrbw := hrbw.setCellNe 2 (.int .u16 (X4 : Int)) hne3
      refine ⟨hS, ?_⟩
      refine wpAnyH_take (i := 10) (oi := ⟨some 56, _, _, _, _, _⟩) (v := ?_) rfl (by kernel_rfl) (by kernel_rfl) (by kernel_rfl) (fun _ _ _ h => h) (Or.inl ⟨by rfl, ?_⟩) hS ?_
      rotate_left 1
      focus ((intro W' hS'; go_simp) <;> with_reducible rfl)
      try simp only [Act.put, List.setIfInBounds_toArray, List.set_cons_zero, List.set_cons_succ]
      refine anyH_one (i := 11) (by kernel_rfl) ⟨none, _, _, _, _, _⟩ rfl (by rfl) ?_
      have zg := frozRow hgw
      have cg := cellRow hgw 3
      try simp only [List.getElem?_toArray, List.getElem?_cons_zero, List.getElem?_cons_succ, List.setIfInBounds_toArray, List.set_cons_zero, List.set_cons_succ] at cg
      go_simp
      have hgw := rowSetCell hgw 3 (.int .u16 (X6 : Int))
      have hS := hS.setCell (p := ⟨g, 3, none⟩) hgl (.int .u16 (X6 : Int))
      have hrbw := hrbw.setCellNe 3 (.int .u16 (X6 : Int)) hne3
      refine ⟨hS, ?_⟩
      refine wpAnyH_done (by kernel_rfl) ?_ _
      generalize (w3.setCell _ _).setCell _ _ = wF at hS hgw hrbw ⊢
      have hSx := hS
      have hrbx := hrbw
      have hgF : wF.heap[g]? = some (.cells (M.cells (.slice A3 bd.length n3)) 36 (0, 0)) := by rw [HCM.out]; exact hgw
      have hcM := HCM.out
      have hglx : g < wF.heap.size := (Array.getElem?_eq_some_iff.1 hgF).1
      have hgF1 := hgF
      rw [hcM] at hgF1
      obtain ⟨d0, d1, d2, d3, d4, d5⟩ := msg_cells (m := ⟨_, _, _, _, _, bd⟩) hgF1
      try simp only at d0 d1 d2 d3 d4 d5
      have q0 := (cellRow ((hSx.block _ (by omega)).trans (g0'.out)) 0).trans k0
      clear c0 zg hgw hrbw hS hgF1
      go_wp2_with fail
      clear d0 d1 d2 d3 d4 d5 q0
      have hmm := HMAY.out (.slice A3 bd.length n3)
      unfold Msg.v at hmm
      rw [hcM] at hmm
      with_reducible refine Calls.mono (hmm _ (by rw [HD.out]; exact hrbx)) ?_
      rintro e w9 ⟨rfl, hb9⟩
      have hlx := hSx.size
      have f2' := (hb9.block (w.heap.size + 1 + 1) (by omega)).trans ((hSx.block _ (by omega)).trans HG2.out)
      have hg9 := (hb9.block g (by have := hglx; omega)).trans hgF
      rw [hcM] at hg9
      obtain ⟨d0, d1, d2, d3, d4, d5⟩ := msg_cells (m := ⟨_, _, _, _, _, bd⟩) hg9
      simp only at d0 d1 d2 d3 d4 d5
      have fb9 := below_after (below_after fb1 hSx (Nat.le_refl _)) hb9 (Nat.le_refl _)
      have hrb9 := hrbx.below hb9
      clear hmm hSx hb9 hgF hrbx
      cases mb
      · go_wp2_with (refine wpList_store_row rfl 36 (.tmp 6) (.tmp 70) rfl (w.heap.size + 1 + 1) _ rfl rfl _ _ f2' infoM rfl (by simp [Value.oneCell']) ?_)
        refine msg_ret2 (m := noMsg) (dv := .slice none 0 0) rfl rfl rfl (rowSetRow f2' _) ⟨.slice none 0 0, rfl, RB.nil _, belowSetRow fb9 (by omega) _⟩
      · go_wp2_with (refine wpList_store_row rfl 36 (.tmp 6) (.tmp 71) rfl (w.heap.size + 1 + 1) _ rfl rfl _ _ f2' infoM rfl (by simp [Value.oneCell']) ?_)
        refine msg_ret2 (m := M) (dv := .slice A3 bd.length n3) rfl rfl rfl ?_ ⟨.slice A3 bd.length n3, rfl, ?_, belowSetRow fb9 (by omega) _⟩
        · rw [hcM]; exact rowSetRow f2' _
        · try simp only [if_true]
          rw [HD.out]
          exact hrb9.setRowNe _ (fun a ha hn => by have := hlo9 a ha hn; omega)
    by_cases hC : M.kind = 3 ∨ M.kind = 5
    · have eE : decide (M.kind = 1 ∨ M.kind = 2) = false := by simp; omega
      have eC : decide (M.kind = 3 ∨ M.kind = 5) = true := by simp; omega
      have hMv : M.code = (b1.toNat : Int) ∧ M.id = 0 ∧ M.seq = 0 ∧ M.mtu = 0 := by
        have e := HM.out
        have hk : (readS b s.six).kind = 3 ∨ (readS b s.six).kind = 5 := by rw [← e]; exact hC
        rw [e]
        unfold readS at hk ⊢
        simp only at hk ⊢
        rw [HB1.out] at hk ⊢
        have h1 : ¬ (kindS (b.getD 0 0).toNat b1.toNat s.six = 1 ∨ kindS (b.getD 0 0).toNat b1.toNat s.six = 2) := by omega
        rw [if_pos hk, if_neg h1, if_neg h1, if_pos (by omega)]
        exact ⟨rfl, rfl, rfl, rfl⟩
      have hcM : M.cells (.slice A3 bd.length n3) = #[.int .i64 M.kind, .int .u8 (b1.toNat : Int), .int .u16 0, .int .u16 0, .int .u32 0, .slice A3 bd.length n3] := by
        unfold Msg.cells; rw [hMv.1, hMv.2.1, hMv.2.2.1, hMv.2.2.2]
      have HCM := hid hcM
      clear hE hC hMv hcM
      have r1c := keep_cell hb3 r1 (World.block_lt_of_cell? _ _ r1)
      go_wp2_with (first | (go_at_call 30; refine (echo_any _ _).mono ?_; rintro e w' ⟨rfl, rfl⟩) | (go_at_call 31; refine (coded_any _ _).mono ?_; rintro e w' ⟨rfl, rfl⟩))
      have hcM := HCM.out
      have hgF : (wc.setCell ⟨g, 1, none⟩ (.int .u8 (b1.toNat : Int))).heap[g]? = some (.cells (M.cells (.slice A3 bd.length n3)) 36 (0, 0)) := by rw [hcM]; exact rowSetCell hg 1 _
      have hSx := hb3.setCell (p := ⟨g, 1, none⟩) hgl (.int .u8 (b1.toNat : Int))
      have hrbx := hrb3.setCellNe 1 (.int .u8 (b1.toNat : Int)) hne3
      have hglx : g < (wc.setCell ⟨g, 1, none⟩ (.int .u8 (b1.toNat : Int))).heap.size := by rw [size_setCell]; exact gl
      have hmm := HMAY.out (.slice A3 bd.length n3)
      unfold Msg.v at hmm
      rw [hcM] at hmm
      with_reducible refine Calls.mono (hmm _ (by rw [HD.out]; exact hrbx)) ?_
      rintro e w9 ⟨rfl, hb9⟩
      have hlx := hSx.size
      have f2' := (hb9.block (w.heap.size + 1 + 1) (by omega)).trans ((hSx.block _ (by omega)).trans HG2.out)
      have hg9 := (hb9.block g (by have := hglx; omega)).trans hgF
      rw [hcM] at hg9
      obtain ⟨d0, d1, d2, d3, d4, d5⟩ := msg_cells (m := ⟨_, _, _, _, _, bd⟩) hg9
      simp only at d0 d1 d2 d3 d4 d5
      have fb9 := below_after (below_after fb1 hSx (Nat.le_refl _)) hb9 (Nat.le_refl _)
      have hrb9 := hrbx.below hb9
      clear hmm hSx hb9 hgF hrbx
      cases mb
      · go_wp2_with (refine wpList_store_row rfl 36 (.tmp 6) (.tmp 70) rfl (w.heap.size + 1 + 1) _ rfl rfl _ _ f2' infoM rfl (by simp [Value.oneCell']) ?_)
        refine msg_ret2 (m := noMsg) (dv := .slice none 0 0) rfl rfl rfl (rowSetRow f2' _) ⟨.slice none 0 0, rfl, RB.nil _, belowSetRow fb9 (by omega) _⟩
      · go_wp2_with (refine wpList_store_row rfl 36 (.tmp 6) (.tmp 71) rfl (w.heap.size + 1 + 1) _ rfl rfl _ _ f2' infoM rfl (by simp [Value.oneCell']) ?_)
        refine msg_ret2 (m := M) (dv := .slice A3 bd.length n3) rfl rfl rfl ?_ ⟨.slice A3 bd.length n3, rfl, ?_, belowSetRow fb9 (by omega) _⟩
        · rw [hcM]; exact rowSetRow f2' _
        · try simp only [if_true]
          rw [HD.out]
          exact hrb9.setRowNe _ (fun a ha hn => by have := hlo9 a ha hn; omega)
    · have eE : decide (M.kind = 1 ∨ M.kind = 2) = false := by simp; omega
      have eC : decide (M.kind = 3 ∨ M.kind = 5) = false := by simp; omega
      obtain ⟨Y, x, hx4, hrx, slx⟩ := part4
      have hMv : M.code = 0 ∧ M.id = 0 ∧ M.seq = 0 ∧ M.mtu = (getS x : Int) ∧ getS x ≤ 4294967295 := by
        have e := HM.out
        have h12 : ¬ ((readS b s.six).kind = 1 ∨ (readS b s.six).kind = 2) := by rw [← e]; exact hE
        have h35 : ¬ ((readS b s.six).kind = 3 ∨ (readS b s.six).kind = 5) := by rw [← e]; exact hC
        have hb4 := be4_le b 4
        have hg4 : getS x = be ((b.drop 4).take 4) := by rw [hx4]; exact getS_short _ (by rw [List.length_take]; omega)
        rw [hg4, e]
        unfold readS at h12 h35 ⊢
        simp only at h12 h35 ⊢
        rw [if_neg h35, if_neg h12, if_neg h12, if_neg (by omega)]
        exact ⟨rfl, rfl, rfl, rfl, hb4⟩
      have hcM : M.cells (.slice A3 bd.length n3) = #[.int .i64 M.kind, .int .u8 0, .int .u16 0, .int .u16 0, .int .u32 (getS x : Int), .slice A3 bd.length n3] := by
        unfold Msg.cells; rw [hMv.1, hMv.2.1, hMv.2.2.1, hMv.2.2.2.1]
      have HCM := hid hcM
      have hgle := hMv.2.2.2.2
      clear hE hC hMv hcM hx4
      generalize hX : getS x = X at HCM hgle ⊢
      have HGET := hid fun W (h : RB W (.slice Y 4 (c - 4)) x) => get_any _ x W h
      rw [hX] at HGET
      clear hX
      have hrxc := hrx.below (below_after fb1 hb3 (Nat.le_refl _))
      go_wp2_with (first | (go_at_call 30; refine (echo_any _ _).mono ?_; rintro e w' ⟨rfl, rfl⟩) | (go_at_call 31; refine (coded_any _ _).mono ?_; rintro e w' ⟨rfl, rfl⟩) | (go_at_call 37; with_reducible refine Calls.mono (HGET.out _ hrxc) ?_; rintro e w' ⟨rfl, rfl⟩))
      have hcM := HCM.out
      have hgF : (wc.setCell ⟨g, 4, none⟩ (.int .u32 (X : Int))).heap[g]? = some (.cells (M.cells (.slice A3 bd.length n3)) 36 (0, 0)) := by rw [hcM]; exact rowSetCell hg 4 _
      have hSx := hb3.setCell (p := ⟨g, 4, none⟩) hgl (.int .u32 (X : Int))
      have hrbx := hrb3.setCellNe 4 (.int .u32 (X : Int)) hne3
      have hglx : g < (wc.setCell ⟨g, 4, none⟩ (.int .u32 (X : Int))).heap.size := by rw [size_setCell]; exact gl
      have hmm := HMAY.out (.slice A3 bd.length n3)
      unfold Msg.v at hmm
      rw [hcM] at hmm
      with_reducible refine Calls.mono (hmm _ (by rw [HD.out]; exact hrbx)) ?_
      rintro e w9 ⟨rfl, hb9⟩
      have hlx := hSx.size
      have f2' := (hb9.block (w.heap.size + 1 + 1) (by omega)).trans ((hSx.block _ (by omega)).trans HG2.out)
      have hg9 := (hb9.block g (by have := hglx; omega)).trans hgF
      rw [hcM] at hg9
      obtain ⟨d0, d1, d2, d3, d4, d5⟩ := msg_cells (m := ⟨_, _, _, _, _, bd⟩) hg9
      simp only at d0 d1 d2 d3 d4 d5
      have fb9 := below_after (below_after fb1 hSx (Nat.le_refl _)) hb9 (Nat.le_refl _)
      have hrb9 := hrbx.below hb9
      clear hmm hSx hb9 hgF hrbx
      cases mb
      · go_wp2_with (refine wpList_store_row rfl 36 (.tmp 6) (.tmp 70) rfl (w.heap.size + 1 + 1) _ rfl rfl _ _ f2' infoM rfl (by simp [Value.oneCell']) ?_)
        refine msg_ret2 (m := noMsg) (dv := .slice none 0 0) rfl rfl rfl (rowSetRow f2' _) ⟨.slice none 0 0, rfl, RB.nil _, belowSetRow fb9 (by omega) _⟩
      · go_wp2_with (refine wpList_store_row rfl 36 (.tmp 6) (.tmp 71) rfl (w.heap.size + 1 + 1) _ rfl rfl _ _ f2' infoM rfl (by simp [Value.oneCell']) ?_)
        refine msg_ret2 (m := M) (dv := .slice A3 bd.length n3) rfl rfl rfl ?_ ⟨.slice A3 bd.length n3, rfl, ?_, belowSetRow fb9 (by omega) _⟩
        · rw [hcM]; exact rowSetRow f2' _
        · try simp only [if_true]
          rw [HD.out]
          exact hrb9.setRowNe _ (fun a ha hn => by have := hlo9 a ha hn; omega)
end Go.Proofs.Ytlgkgdgmhcckfaa
