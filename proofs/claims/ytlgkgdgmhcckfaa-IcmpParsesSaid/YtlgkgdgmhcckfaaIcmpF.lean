/- Walk: icmp.Lay. -/
import Derived.Test.YtlgkgdgmhcckfaaIcmpE
import Derived.Test.YtlgkgdgmhcckfaaIcmpQ
import Derived.Test.YtlgkgdgmhcckfaaOctR
namespace Go.Proofs.Ytlgkgdgmhcckfaa
set_option linter.unusedVariables false
set_option linter.unusedSimpArgs false
open Go.RowKit

theorem put4S (m : Msg) (hm : m.Ok) : beL 4 [UInt64.ofNat m.mtu.toNat] = beB 4 m.mtu.toNat := by
  have := hm.mtu
  simp only [beL, List.flatMap_cons, List.flatMap_nil, List.append_nil]
  congr 1; simp; omega
theorem put2S (m : Msg) (hm : m.Ok) : beL 2 [UInt64.ofNat m.id.toNat, UInt64.ofNat m.seq.toNat] = beB 2 m.id.toNat ++ beB 2 m.seq.toNat := by
  have := hm.id
  have := hm.seq
  simp only [beL, List.flatMap_cons, List.flatMap_nil, List.append_nil]
  congr 2 <;> (simp; omega)
theorem u64_back (n : Int) (h0 : 0 ≤ n) (h1 : n ≤ 18446744073709551615) : Value.int .u64 n = v64 (UInt64.ofNat n.toNat) := by
  unfold v64; congr 1; simp; omega
/-- The three boxes of a call's arguments. -/
theorem three_blocks (w : World) (o1 o2 o3 : Obj) : ∃ W, W = ((w.alloc o1).alloc o2).alloc o3 ∧ W.heap[w.heap.size]? = some o1 ∧ W.heap[w.heap.size + 1]? = some o2 ∧ W.heap[w.heap.size + 1 + 1]? = some o3 ∧ Below w.heap.size w W ∧ W.heap.size = w.heap.size + 3 := by
  refine ⟨_, rfl, ?_, ?_, ?_, below_alloc (below2 w _ _) _ (Nat.le_refl _), by simp⟩
  · rw [Below.heap_alloc _ _ _ (by simp; omega), Below.heap_alloc _ _ _ (by simp)]; exact heap_alloc_new w _
  · rw [Below.heap_alloc _ _ _ (by simp)]; exact new2 w _ _
  · have := heap_alloc_new ((w.alloc o1).alloc o2) o3
    simpa using this
theorem three_facts {w W : World} {o1 o2 o3 : Obj} (h : ((w.alloc o1).alloc o2).alloc o3 = W) : W.heap[w.heap.size]? = some o1 ∧ W.heap[w.heap.size + 1]? = some o2 ∧ W.heap[w.heap.size + 1 + 1]? = some o3 ∧ Below w.heap.size w W ∧ W.heap.size = w.heap.size + 3 := by
  obtain ⟨W', hW', h1⟩ := three_blocks w o1 o2 o3
  rw [← h, ← hW']; exact h1
def lerr (m : Msg) (s : Adr) : Int := if laysB m s then 0 else 1
set_option maxHeartbeats 2000000 in
theorem lay_any (m : Msg) (hm : m.Ok) (dv : Value) (s d : Adr) (w : World) (hd : RB w dv m.data) (hl : m.data.length ≤ 3000) :
    Calls Try.prog 10 #[m.v dv, .agg s.cells, .agg d.cells] w fun e w' => ∃ A c, e = .returned (.tuple #[.slice A (layS m s d).length c, .int .i64 (lerr m s)]) ∧ OB w' w.heap.size (.slice A (layS m s d).length c) (layS m s d) ∧ Below w.heap.size w w' := by
  have hd0 := hid hd
  obtain ⟨A, c, rfl, hrow⟩ := hd
  have hcap := hrow.cap
  have htop := hrow.top
  clear hrow
  have k0 : s.cells[0]? = some (.bool s.six) := rfl
  have hM := hid (fun W (h : RB W (.slice A m.data.length c) m.data) => may_any m (.slice A m.data.length c) s.six W h)
  by_cases hlb : laysB m s = true
  · have hle : layS m s d = bytesS m s.six (65535 - sumS (bytesS m s.six 0) s d) := by unfold layS; rw [hlb]; rfl
    have her : lerr m s = 0 := by unfold lerr; rw [hlb]; rfl
    rw [hle, her]
    have hmay : mayS m s.six = true := by unfold laysB at hlb; revert hlb; cases mayS m s.six <;> simp
    rw [hmay] at hM
    have hms := hmay
    unfold mayS at hms
    simp only [decide_eq_true_eq] at hms
    obtain ⟨_, hm2, _, _, hk1, hk5, _⟩ := hms
    have hc0 : m.kind = 1 ∨ m.kind = 2 ∨ m.kind = 4 → m.code = 0 := by omega
    clear hm2
    have hco := hm.code
    have N4 := hid (put4S m hm)
    have N2 := hid (put2S m hm)
    have nid := hm.id
    have nsq := hm.seq
    have nmt := hm.mtu
    have V1 := hid (u64_back m.id (by omega) (by omega))
    have V2 := hid (u64_back m.seq (by omega) (by omega))
    have V3 := hid (u64_back m.mtu (by omega) (by omega))
    have hno : s.six = false → m.kind = 3 → m.code = 4 → False := by
      intro h1 h2 h3
      unfold laysB at hlb
      rw [h1, h2, h3] at hlb
      simp at hlb
    have hbs : bytesS m s.six = fun ch => [typS m s.six, codS m s.six, hi8 ch, lo8 ch] ++ restS m ++ m.data := rfl
    have HB := hid hbs
    clear hle her hlb hbs hmay
    obtain ⟨k, co, i, sq, u, dt⟩ := m
    simp only at *
    have hthree : s.six = true ∨ (s.six = false ∧ ¬ k = 3) ∨ (s.six = false ∧ k = 3 ∧ ¬ co = 4) := by
      cases h6 : s.six
      · by_cases h3 : k = 3
        · exact .inr (.inr ⟨rfl, h3, fun h4 => hno h6 h3 h4⟩)
        · exact .inr (.inl ⟨rfl, h3⟩)
      · exact .inl rfl
    clear hno
    have hfive : (k = 4 ∧ s.six = true) ∨ (k = 4 ∧ s.six = false) ∨ (¬ k = 4 ∧ s.six = true) ∨ (¬ k = 4 ∧ s.six = false ∧ ¬ k = 3) ∨ (s.six = false ∧ k = 3 ∧ ¬ co = 4) := by
      rcases hthree with h | ⟨h, h3⟩ | ⟨h, h3, h5⟩
      · by_cases h4 : k = 4
        · exact .inl ⟨h4, h⟩
        · exact .inr (.inr (.inl ⟨h4, h⟩))
      · by_cases h4 : k = 4
        · exact .inr (.inl ⟨h4, h⟩)
        · exact .inr (.inr (.inr (.inl ⟨h4, h, h3⟩)))
      · exact .inr (.inr (.inr (.inr ⟨h, h3, h5⟩)))
    clear hthree
    have NV4 : Hid (#[Value.int .u64 u] = #[v64 (UInt64.ofNat u.toNat)]) := by unfold Hid; rw [V3.out]
    have NV2 : Hid (#[Value.int .u64 i, Value.int .u64 sq] = #[v64 (UInt64.ofNat i.toNat), v64 (UInt64.ofNat sq.toNat)]) := by unfold Hid; rw [V1.out, V2.out]
    have hR4 : k = 4 → [typS ⟨k, co, i, sq, u, dt⟩ s.six, codS ⟨k, co, i, sq, u, dt⟩ s.six, 0, 0] ++ beL (clampN 4) [UInt64.ofNat u.toNat] ++ dt = bytesS ⟨k, co, i, sq, u, dt⟩ s.six 0 := by
      intro h; rw [show clampN 4 = 4 from rfl, N4.out]; unfold bytesS restS; simp only; rw [if_pos h]; rfl
    have hR2 : ¬ k = 4 → [typS ⟨k, co, i, sq, u, dt⟩ s.six, codS ⟨k, co, i, sq, u, dt⟩ s.six, 0, 0] ++ beL (clampN 2) [UInt64.ofNat i.toNat, UInt64.ofNat sq.toNat] ++ dt = bytesS ⟨k, co, i, sq, u, dt⟩ s.six 0 := by
      intro h; rw [show clampN 2 = 2 from rfl, N2.out]; unfold bytesS restS; simp only; rw [if_neg h]; rfl
    have HT := hid fun W (h : RB W (.slice A dt.length c) dt) => typed_any ⟨k, co, i, sq, u, dt⟩ (.slice A dt.length c) s.six W h hk1 hk5 hco hc0
    have HR4 := hid hR4
    have HR2 := hid hR2
    clear hR4 hR2 V1 V2 V3 N4 N2 HB hc0 hco
    generalize typS ⟨k, co, i, sq, u, dt⟩ s.six = ty at HR4 HR2 HT
    generalize codS ⟨k, co, i, sq, u, dt⟩ s.six = cd at HR4 HR2 HT
    have hb0l := bytesS_length ⟨k, co, i, sq, u, dt⟩ s.six 0
    have hset : ∀ N, bytesS ⟨k, co, i, sq, u, dt⟩ s.six N = ((bytesS ⟨k, co, i, sq, u, dt⟩ s.six 0).set 2 (hi8 N)).set 3 (lo8 N) := fun N => rfl
    rw [hset]
    clear hset
    simp only at hb0l
    generalize bytesS ⟨k, co, i, sq, u, dt⟩ s.six 0 = L at HR4 HR2 hb0l ⊢
    have hsum := sumS_ahead L s d
    have hsr := sumS_range L s d
    generalize sumS L s d = sm at hsum hsr ⊢
    have HS := hid hsum
    have HL := hid hb0l
    clear hsum hb0l
    have v0 : IntKind.u8.wrap (65535 - sm) = ((lo8 (65535 - sm)).toNat : Int) := by rw [lo8_val, IntKind.wrap_u8]
    have v1 : IntKind.u8.wrap ((65535 - sm) / 256) = ((hi8 (65535 - sm)).toNat : Int) := by rw [hi8_val _ (by omega) (by omega), IntKind.wrap_u8]; omega
    generalize hN : (65535 - sm) = N at v0 v1 ⊢
    have HN := hid hN
    have hNr : 0 ≤ N ∧ N ≤ 65535 := by omega
    clear hN hsr
    rcases hfive with ⟨h4, h6⟩ | ⟨h4, h6⟩ | ⟨h4, h6⟩ | ⟨h4, h6, h3⟩ | ⟨h6, h3, h5⟩
    all_goals
      rw [h6] at k0 hM HT
      have H6 := hid h6
      clear h6
    all_goals try subst h3
    all_goals try subst h4
    all_goals
      go_enter Try.func10, Try.ntmps10
      unfold Msg.v Msg.cells at *
      go_wp2_with fail
      generalize hW : ((w.alloc _).alloc _).alloc _ = W
      obtain ⟨f0, f1, f2, fb, fs⟩ := three_facts hW
      clear hW
      with_reducible refine Calls.mono (hM.out W (hd0.out.below fb)) ?_
      rintro e w1 ⟨rfl, hb1⟩
      replace f0 := (hb1.block _ (by omega)).trans f0
      replace f1 := (hb1.block _ (by omega)).trans f1
      replace f2 := (hb1.block _ (by omega)).trans f2
      replace fb := below_after fb hb1 (Nat.le_refl _)
      replace fs : w.heap.size + 3 ≤ w1.heap.size := Nat.le_trans (Nat.le_of_eq fs.symm) hb1.size
      clear hb1
      obtain ⟨c0, c1, c2, c3, c4, c5⟩ := msg_cells (m := ⟨_, _, _, _, _, dt⟩) f0
      simp only at c0 c1 c2 c3 c4 c5
      have q0 := (cellRow f1 0).trans k0
      go_wp2_with fail
      with_reducible refine Calls.mono (HT.out w1 (hd0.out.below fb)) ?_
      rintro e w2 ⟨rfl, hb2⟩
      replace f0 := (hb2.block _ (by omega)).trans f0
      replace f1 := (hb2.block _ (by omega)).trans f1
      replace f2 := (hb2.block _ (by omega)).trans f2
      replace fb := below_after fb hb2 (Nat.le_refl _)
      replace fs : w.heap.size + 3 ≤ w2.heap.size := Nat.le_trans fs hb2.size
      clear hb2 c0 c1 c2 c3 c4 c5 q0
      obtain ⟨c0, c1, c2, c3, c4, c5⟩ := msg_cells (m := ⟨_, _, _, _, _, dt⟩) f0
      simp only at c0 c1 c2 c3 c4 c5
      have q0 := (cellRow f1 0).trans k0
      have l0 : w.heap.size < w2.heap.size := by omega
      go_wp2_with fail
    all_goals clear q0 c0 c1 c2 c3 c4 c5
    with_reducible refine Calls.mono (put_any _ _ [ty, cd, 0, 0] 4 [UInt64.ofNat u.toNat] _ (RB.below (RB.new w2 _ _ _ _ 4 rfl rfl (by omega) rfl) (below_alloc (Below.refl _ _) _ (Nat.le_refl _))) (RN.new _ _ _ _ _ 1 (by simp) rfl (by omega) (by rw [NV4.out]; simp [by64])) (by omega) (by omega) (by simp)) ?_
    rintro e w3 ⟨A3, n3, rfl, ho3, hb3⟩
    have HR := hid (HR4.out trivial)
    have HB3 := (below2 w2 _ _).trans (hb3.mono (by simp; omega))
    replace ho3 := ho3.lower (base' := w.heap.size + 3) (by simp; omega)
    generalize [ty, cd, 0, 0] ++ beL _ _ = L4 at ho3 HR ⊢
    clear hb3
    rotate_left 1
    with_reducible refine Calls.mono (put_any _ _ [ty, cd, 0, 0] 4 [UInt64.ofNat u.toNat] _ (RB.below (RB.new w2 _ _ _ _ 4 rfl rfl (by omega) rfl) (below_alloc (Below.refl _ _) _ (Nat.le_refl _))) (RN.new _ _ _ _ _ 1 (by simp) rfl (by omega) (by rw [NV4.out]; simp [by64])) (by omega) (by omega) (by simp)) ?_
    rintro e w3 ⟨A3, n3, rfl, ho3, hb3⟩
    have HR := hid (HR4.out trivial)
    have HB3 := (below2 w2 _ _).trans (hb3.mono (by simp; omega))
    replace ho3 := ho3.lower (base' := w.heap.size + 3) (by simp; omega)
    generalize [ty, cd, 0, 0] ++ beL _ _ = L4 at ho3 HR ⊢
    clear hb3
    rotate_left 1
    with_reducible refine Calls.mono (put_any _ _ [ty, cd, 0, 0] 2 [UInt64.ofNat i.toNat, UInt64.ofNat sq.toNat] _ (RB.below (RB.new w2 _ _ _ _ 4 rfl rfl (by omega) rfl) (below_alloc (Below.refl _ _) _ (Nat.le_refl _))) (RN.new _ _ _ _ _ 2 (by simp) rfl (by omega) (by rw [NV2.out]; simp [by64])) (by omega) (by omega) (by simp)) ?_
    rintro e w3 ⟨A3, n3, rfl, ho3, hb3⟩
    have HR := hid (HR2.out h4)
    have HB3 := (below2 w2 _ _).trans (hb3.mono (by simp; omega))
    replace ho3 := ho3.lower (base' := w.heap.size + 3) (by simp; omega)
    generalize [ty, cd, 0, 0] ++ beL _ _ = L4 at ho3 HR ⊢
    clear hb3
    rotate_left 1
    with_reducible refine Calls.mono (put_any _ _ [ty, cd, 0, 0] 2 [UInt64.ofNat i.toNat, UInt64.ofNat sq.toNat] _ (RB.below (RB.new w2 _ _ _ _ 4 rfl rfl (by omega) rfl) (below_alloc (Below.refl _ _) _ (Nat.le_refl _))) (RN.new _ _ _ _ _ 2 (by simp) rfl (by omega) (by rw [NV2.out]; simp [by64])) (by omega) (by omega) (by simp)) ?_
    rintro e w3 ⟨A3, n3, rfl, ho3, hb3⟩
    have HR := hid (HR2.out h4)
    have HB3 := (below2 w2 _ _).trans (hb3.mono (by simp; omega))
    replace ho3 := ho3.lower (base' := w.heap.size + 3) (by simp; omega)
    generalize [ty, cd, 0, 0] ++ beL _ _ = L4 at ho3 HR ⊢
    clear hb3
    rotate_left 1
    with_reducible refine Calls.mono (put_any _ _ [ty, cd, 0, 0] 2 [UInt64.ofNat i.toNat, UInt64.ofNat sq.toNat] _ (RB.below (RB.new w2 _ _ _ _ 4 rfl rfl (by omega) rfl) (below_alloc (Below.refl _ _) _ (Nat.le_refl _))) (RN.new _ _ _ _ _ 2 (by simp) rfl (by omega) (by rw [NV2.out]; simp [by64])) (by omega) (by omega) (by simp)) ?_
    rintro e w3 ⟨A3, n3, rfl, ho3, hb3⟩
    have HR := hid (HR2.out (by omega))
    have HB3 := (below2 w2 _ _).trans (hb3.mono (by simp; omega))
    replace ho3 := ho3.lower (base' := w.heap.size + 3) (by simp; omega)
    generalize [ty, cd, 0, 0] ++ beL _ _ = L4 at ho3 HR ⊢
    clear hb3
    rotate_left 1
    all_goals
      replace f0 := (HB3.block _ (by omega)).trans f0
      replace f1 := (HB3.block _ (by omega)).trans f1
      replace f2 := (HB3.block _ (by omega)).trans f2
      replace fb := below_after fb HB3 (Nat.le_refl _)
      replace fs : w.heap.size + 3 ≤ w3.heap.size := Nat.le_trans fs HB3.size
      clear HB3
      obtain ⟨c0, c1, c2, c3, c4, c5⟩ := msg_cells (m := ⟨_, _, _, _, _, dt⟩) f0
      simp only at c0 c1 c2 c3 c4 c5
      have hLl : L4.length + dt.length ≤ 3008 := by rw [← List.length_append, HR.out, HL.out]; omega
      clear f0
      go_wp2_with (first
        | (at_builtin; refine append_u8 (.tmp 60) (.tmp 62) (w.heap.size + 3) L4 dt L HR.out rfl rfl rfl rfl ho3 (hd0.out.below fb) (by omega) fs ?_; intro A4 n4 w4 ho4 hb4 _ _; have g1 := (hb4.block _ (by omega)).trans f1; have g2 := (hb4.block _ (by omega)).trans f2; have fb4 := fb.trans (hb4.mono (by omega)); have fs4 := Nat.le_trans fs hb4.size; clear f1 f2 fb fs hb4 c0 c1 c2 c3 c4 c5)
        | refine wpList_load_row rfl 29 (.tmp 4) rfl (w.heap.size + 1) rfl 29 s.cells (0, 0) _ g1 Try.underlying29 rfl (info_addr s) ?_
        | refine wpList_load_row rfl 29 (.tmp 5) rfl (w.heap.size + 1 + 1) rfl 29 d.cells (0, 0) _ g2 Try.underlying29 rfl (info_addr d) ?_)
      have hLlen : L.length ≤ 3008 := by rw [HL.out]; omega
      have hal := aheadS_len s d L.length
      have HA := hid (ahead_any s d L.length w4 (by omega))
      generalize aheadS s d L.length = AH at HA HS hal
      with_reducible refine Calls.mono HA.out ?_
      rintro e w5 ⟨A5, n5, rfl, ho5, hb5⟩
      have fb5 := below_after fb4 hb5 (Nat.le_refl _)
      have ho4' := ho4.below hb5
      have fs5 := Nat.le_trans fs4 hb5.size
      go_wp2_with fail
      with_reducible refine Calls.mono (check_any _ [AH, L] _ (RBB.new2 _ _ _ _ _ _ _ rfl ho5.rb ho4'.rb) (btot2 _ _ _ hal hLlen (by omega))) ?_
      rw [← HS.out, HN.out]
      rintro e w6 ⟨rfl, n6, rfl⟩
      have ho6 : OB ((w5.alloc (.cells #[.slice A5 AH.length n5, .slice A4 L.length n4] 24)).drewN n6) (w.heap.size + 3) (.slice A4 L.length n4) L := (ho4'.alloc _).drewN _
      have fb6 : Below w.heap.size w ((w5.alloc (.cells #[.slice A5 AH.length n5, .slice A4 L.length n4] 24)).drewN n6) := below_drewN (below_alloc fb5 _ (Nat.le_refl _)) _
      have hL8 : 8 ≤ L.length := by rw [HL.out]; omega
      generalize (w5.alloc _).drewN n6 = W6 at ho6 fb6 ⊢
      clear ho4 ho4' ho5 g1 g2 hb5 fb5 fb4
      obtain ⟨g, rfl, hg0, hg1, _⟩ := ho6.blk (by omega)
      obtain ⟨s1, s2, s3⟩ := ho6.store 2 (by omega)
      obtain ⟨t1, t2, t3⟩ := (s3 (hi8 N) _ rfl).store 3 (by rw [List.length_set]; omega)
      have ho7 := t3 (lo8 N) _ rfl
      have fb7 := (fb6.setCell (p := ⟨g, 2, none⟩) (by show w.heap.size ≤ g; omega) (.int .u8 ((hi8 N).toNat : Int))).setCell (p := ⟨g, 3, none⟩) (by show w.heap.size ≤ g; omega) (.int .u8 ((lo8 N).toNat : Int))
      go_wp2_with fail
      go_ret2
      rw [List.length_set, List.length_set]
      exact ⟨_, n4, rfl, ho7.lower (by omega), fb7⟩
  · have hle : layS m s d = [] := by unfold layS; rw [if_neg hlb]
    have her : lerr m s = 1 := by unfold lerr; rw [if_neg hlb]
    rw [hle, her]
    clear hle her
    obtain ⟨mb, hmb⟩ : ∃ mb, mb = mayS m s.six := ⟨_, rfl⟩
    rw [← hmb] at hM
    have hw : mb = false ∨ (mb = true ∧ s.six = false ∧ m.kind = 3 ∧ m.code = 4) := by
      unfold laysB at hlb
      rw [← hmb] at hlb
      cases mb
      · exact .inl rfl
      · right
        revert hlb
        cases s.six <;> simp
    clear hmb hlb
    obtain ⟨k, co, i, sq, u, dt⟩ := m
    simp only at *
    rcases hw with rfl | ⟨rfl, h6, rfl, rfl⟩
    · skip
      go_enter Try.func10, Try.ntmps10
      unfold Msg.v Msg.cells at *
      go_wp2_with fail
      generalize hW : ((w.alloc _).alloc _).alloc _ = W
      obtain ⟨f0, f1, f2, fb, fs⟩ := three_facts hW
      clear hW
      with_reducible refine Calls.mono (hM.out W (hd0.out.below fb)) ?_
      rintro e w1 ⟨rfl, hb1⟩
      replace f0 := (hb1.block _ (by omega)).trans f0
      replace f1 := (hb1.block _ (by omega)).trans f1
      replace f2 := (hb1.block _ (by omega)).trans f2
      replace fb := below_after fb hb1 (Nat.le_refl _)
      replace fs : w.heap.size + 3 ≤ w1.heap.size := Nat.le_trans (Nat.le_of_eq fs.symm) hb1.size
      clear hb1
      obtain ⟨c0, c1, c2, c3, c4, c5⟩ := msg_cells (m := ⟨_, _, _, _, _, dt⟩) f0
      simp only at c0 c1 c2 c3 c4 c5
      have q0 := (cellRow f1 0).trans k0
      go_wp2_with fail
      go_ret2
      exact ⟨none, 0, rfl, OB.nil _ _, fb⟩
    · rw [h6] at k0 hM
      go_enter Try.func10, Try.ntmps10
      unfold Msg.v Msg.cells at *
      go_wp2_with fail
      generalize hW : ((w.alloc _).alloc _).alloc _ = W
      obtain ⟨f0, f1, f2, fb, fs⟩ := three_facts hW
      clear hW
      with_reducible refine Calls.mono (hM.out W (hd0.out.below fb)) ?_
      rintro e w1 ⟨rfl, hb1⟩
      replace f0 := (hb1.block _ (by omega)).trans f0
      replace f1 := (hb1.block _ (by omega)).trans f1
      replace f2 := (hb1.block _ (by omega)).trans f2
      replace fb := below_after fb hb1 (Nat.le_refl _)
      replace fs : w.heap.size + 3 ≤ w1.heap.size := Nat.le_trans (Nat.le_of_eq fs.symm) hb1.size
      clear hb1
      obtain ⟨c0, c1, c2, c3, c4, c5⟩ := msg_cells (m := ⟨_, _, _, _, _, dt⟩) f0
      simp only at c0 c1 c2 c3 c4 c5
      have q0 := (cellRow f1 0).trans k0
      go_wp2_with fail
      go_ret2
      exact ⟨none, 0, rfl, OB.nil _ _, fb⟩
end Go.Proofs.Ytlgkgdgmhcckfaa
