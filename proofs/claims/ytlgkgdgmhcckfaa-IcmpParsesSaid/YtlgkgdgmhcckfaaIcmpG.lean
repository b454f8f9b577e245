/- Walks: the reference's bytes of a message. -/
import Derived.Test.YtlgkgdgmhcckfaaIcmpF
namespace Go.Proofs.Ytlgkgdgmhcckfaa
set_option linter.unusedVariables false
set_option linter.unusedSimpArgs false
open Go.RowKit

theorem one_facts {w W : World} {o1 : Obj} (h : w.alloc o1 = W) : W.heap[w.heap.size]? = some o1 ∧ Below w.heap.size w W ∧ W.heap.size = w.heap.size + 1 := by
  rw [← h]; exact ⟨heap_alloc_new w _, below_alloc (Below.refl _ _) _ (Nat.le_refl _), by simp⟩
set_option maxHeartbeats 2000000 in
theorem rbytes_any (m : Msg) (hm : m.Ok) (dv : Value) (six : Bool) (ch : Int) (w : World) (hd : RB w dv m.data) (hl : m.data.length ≤ 3000) (hk1 : 1 ≤ m.kind) (hk5 : m.kind ≤ 5) (hch : 0 ≤ ch ∧ ch ≤ 65535) :
    Calls Try.prog 28 #[m.v dv, .bool six, .int .u16 ch] w fun e w' => ∃ A c, e = .returned (.slice A (bytesS m six ch).length c) ∧ OB w' w.heap.size (.slice A (bytesS m six ch).length c) (bytesS m six ch) ∧ Below w.heap.size w w' := by
  have hd0 := hid hd
  obtain ⟨A, c, rfl, hrow⟩ := hd
  have hcap := hrow.cap
  have htop := hrow.top
  clear hrow
  have hco := hm.code
  have N4 := hid (put4S m hm)
  have N2 := hid (put2S m hm)
  have nid := hm.id
  have nsq := hm.seq
  have nmt := hm.mtu
  have V1 := hid (u64_back m.id (by omega) (by omega))
  have V2 := hid (u64_back m.seq (by omega) (by omega))
  have V3 := hid (u64_back m.mtu (by omega) (by omega))
  have v0 : IntKind.u8.wrap ch = ((lo8 ch).toNat : Int) := by rw [lo8_val, IntKind.wrap_u8]
  have v1 : IntKind.u8.wrap (ch / 256) = ((hi8 ch).toNat : Int) := by rw [hi8_val _ (by omega) (by omega), IntKind.wrap_u8]; omega
  have hcv : (six = false ∧ m.kind = 4 ∧ ((codS m six).toNat : Int) = 4) ∨ (six = true ∧ m.kind = 4 ∧ ((codS m six).toNat : Int) = m.code) ∨ (¬ m.kind = 4 ∧ ((codS m six).toNat : Int) = m.code) := by
    have hv : ((UInt8.ofNat m.code.toNat).toNat : Int) = m.code := by simp; omega
    unfold codS
    cases six
    · by_cases h4 : m.kind = 4
      · simp [h4]
      · right; right; simp [h4]; simpa using hv
    · by_cases h4 : m.kind = 4
      · right; left; simp [h4]; simpa using hv
      · right; right; simp [h4]; simpa using hv
  obtain ⟨k, co, i, sq, u, dt⟩ := m
  simp only at *
  have NV4 : Hid (#[Value.int .u64 u] = #[v64 (UInt64.ofNat u.toNat)]) := by unfold Hid; rw [V3.out]
  have NV2 : Hid (#[Value.int .u64 i, Value.int .u64 sq] = #[v64 (UInt64.ofNat i.toNat), v64 (UInt64.ofNat sq.toNat)]) := by unfold Hid; rw [V1.out, V2.out]
  have hR4 : k = 4 → [typK k six, codS ⟨k, co, i, sq, u, dt⟩ six, hi8 ch, lo8 ch] ++ beL (clampN 4) [UInt64.ofNat u.toNat] ++ dt = bytesS ⟨k, co, i, sq, u, dt⟩ six ch := by
    intro h; rw [show clampN 4 = 4 from rfl, N4.out]; unfold bytesS restS typS; simp only; rw [if_pos h]
  have hR2 : ¬ k = 4 → [typK k six, codS ⟨k, co, i, sq, u, dt⟩ six, hi8 ch, lo8 ch] ++ beL (clampN 2) [UInt64.ofNat i.toNat, UInt64.ofNat sq.toNat] ++ dt = bytesS ⟨k, co, i, sq, u, dt⟩ six ch := by
    intro h; rw [show clampN 2 = 2 from rfl, N2.out]; unfold bytesS restS typS; simp only; rw [if_neg h]
  have HT := hid fun W => types_any k six W hk1 hk5
  have HR4 := hid hR4
  have HR2 := hid hR2
  have hb0l := bytesS_length ⟨k, co, i, sq, u, dt⟩ six ch
  clear hR4 hR2 V1 V2 V3 N4 N2
  generalize typK k six = ty at HR4 HR2 HT
  generalize codS ⟨k, co, i, sq, u, dt⟩ six = cd at HR4 HR2 hcv
  generalize bytesS ⟨k, co, i, sq, u, dt⟩ six ch = L at HR4 HR2 hb0l ⊢
  have HL := hid hb0l
  clear hb0l hco
  rcases hcv with ⟨h6, h4, hcd⟩ | ⟨h6, h4, hcd⟩ | ⟨h4, hcd⟩
  all_goals
    have HCD := hid hcd
    clear hcd
    try rw [h6] at HT ⊢
    try clear h6
    try subst h4
    go_enter Try.func28, Try.ntmps28
    unfold Msg.v Msg.cells at *
    go_wp2_with fail
    generalize hW : w.alloc _ = W
    obtain ⟨f0, fb, fs⟩ := one_facts hW
    clear hW
    with_reducible refine Calls.mono (HT.out W) ?_
    rintro e w2 ⟨rfl, hb2⟩
    replace f0 := (hb2.block _ (by omega)).trans f0
    replace fb := below_after fb hb2 (Nat.le_refl _)
    replace fs : w.heap.size + 1 ≤ w2.heap.size := Nat.le_trans (Nat.le_of_eq fs.symm) hb2.size
    clear hb2
    obtain ⟨c0, c1, c2, c3, c4, c5⟩ := msg_cells (m := ⟨_, _, _, _, _, dt⟩) f0
    simp only at c0 c1 c2 c3 c4 c5
    have l0 : w.heap.size < w2.heap.size := by omega
    go_wp2_with fail
  all_goals clear c0 c1 c2 c3 c4 c5
  with_reducible refine Calls.mono (rput_any _ _ [ty, cd, hi8 ch, lo8 ch] 4 [UInt64.ofNat u.toNat] _ (RB.below (RB.new w2 _ _ _ _ 4 rfl rfl (by omega) (by simp only [by8, u8, List.map_cons, List.map_nil, HCD.out])) (below_alloc (Below.refl _ _) _ (Nat.le_refl _))) (RN.new _ _ _ _ _ 1 (by simp) rfl (by omega) (by rw [NV4.out]; simp [by64])) (by omega) (by omega) (by simp)) ?_
  rintro e w3 ⟨A3, n3, rfl, ho3, hb3⟩
  have HR := hid (HR4.out trivial)
  have HB3 := (below2 w2 _ _).trans (hb3.mono (by simp; omega))
  replace ho3 := ho3.lower (base' := w.heap.size + 1) (by simp; omega)
  generalize [ty, cd, hi8 ch, lo8 ch] ++ beL _ _ = L4 at ho3 HR ⊢
  clear hb3
  rotate_left 1
  with_reducible refine Calls.mono (rput_any _ _ [ty, cd, hi8 ch, lo8 ch] 4 [UInt64.ofNat u.toNat] _ (RB.below (RB.new w2 _ _ _ _ 4 rfl rfl (by omega) (by simp only [by8, u8, List.map_cons, List.map_nil, HCD.out])) (below_alloc (Below.refl _ _) _ (Nat.le_refl _))) (RN.new _ _ _ _ _ 1 (by simp) rfl (by omega) (by rw [NV4.out]; simp [by64])) (by omega) (by omega) (by simp)) ?_
  rintro e w3 ⟨A3, n3, rfl, ho3, hb3⟩
  have HR := hid (HR4.out trivial)
  have HB3 := (below2 w2 _ _).trans (hb3.mono (by simp; omega))
  replace ho3 := ho3.lower (base' := w.heap.size + 1) (by simp; omega)
  generalize [ty, cd, hi8 ch, lo8 ch] ++ beL _ _ = L4 at ho3 HR ⊢
  clear hb3
  rotate_left 1
  with_reducible refine Calls.mono (rput_any _ _ [ty, cd, hi8 ch, lo8 ch] 2 [UInt64.ofNat i.toNat, UInt64.ofNat sq.toNat] _ (RB.below (RB.new w2 _ _ _ _ 4 rfl rfl (by omega) (by simp only [by8, u8, List.map_cons, List.map_nil, HCD.out])) (below_alloc (Below.refl _ _) _ (Nat.le_refl _))) (RN.new _ _ _ _ _ 2 (by simp) rfl (by omega) (by rw [NV2.out]; simp [by64])) (by omega) (by omega) (by simp)) ?_
  rintro e w3 ⟨A3, n3, rfl, ho3, hb3⟩
  have HR := hid (HR2.out h4)
  have HB3 := (below2 w2 _ _).trans (hb3.mono (by simp; omega))
  replace ho3 := ho3.lower (base' := w.heap.size + 1) (by simp; omega)
  generalize [ty, cd, hi8 ch, lo8 ch] ++ beL _ _ = L4 at ho3 HR ⊢
  clear hb3
  rotate_left 1
  all_goals
    replace f0 := (HB3.block _ (by omega)).trans f0
    replace fb := below_after fb HB3 (Nat.le_refl _)
    replace fs : w.heap.size + 1 ≤ w3.heap.size := Nat.le_trans fs HB3.size
    clear HB3
    obtain ⟨c0, c1, c2, c3, c4, c5⟩ := msg_cells (m := ⟨_, _, _, _, _, dt⟩) f0
    simp only at c0 c1 c2 c3 c4 c5
    have hLl : L4.length + dt.length ≤ 3008 := by rw [← List.length_append, HR.out, HL.out]; omega
    clear f0
    go_wp2_with (at_builtin; refine append_u8 (.tmp 47) (.tmp 49) (w.heap.size + 1) L4 dt L HR.out rfl rfl rfl rfl ho3 (hd0.out.below fb) (by omega) fs ?_; intro A4 n4 w4 ho4 hb4 _ _)
    go_ret
    exact ⟨A4, n4, rfl, ho4.lower (by omega), fb.trans (hb4.mono (by omega))⟩
end Go.Proofs.Ytlgkgdgmhcckfaa
