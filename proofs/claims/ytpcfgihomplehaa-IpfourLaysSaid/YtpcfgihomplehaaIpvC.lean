/- Walk: the reference's header of IPv4. Walk: the reference's Lay of IPv4. -/
import Derived.Test.YtpcfgihomplehaaIpvB
import Derived.Test.YtpcfgihomplehaaRegM
import Derived.Test.YtpcfgihomplehaaOctR
import Derived.Deep.DeepCutAuto
import Derived.RegionTactic
namespace Go.Proofs.Ytpcfgihomplehaa
set_option linter.unusedVariables false
set_option linter.unusedSimpArgs false
open Go.RowKit

set_option maxRecDepth 100000 in
set_option maxHeartbeats 2000000 in
theorem rhead4_any (p : Pkt) (dv : Value) (n : Int) (w : World) (h4 : May4 p) (hd : RB w dv p.load) (n0 : 0 ≤ n) (n1 : n ≤ 65535) :
    Calls Try.prog 23 #[p.v dv, .int .u16 n] w fun e w' => ∃ A c, e = .returned (.slice A (head4 p n).length c) ∧ OB w' w.heap.size (.slice A (head4 p n).length c) (head4 p n) ∧ Below w.heap.size w w' := by
  obtain ⟨A, c, rfl, hrow⟩ := hd
  have hcap := hrow.cap
  have htop := hrow.top
  clear hrow
  unfold Pkt.v at *
  have hof := h4.off
  have hid' := h4.id
  have hph := p.hops.toNat_lt
  have hpp := p.proto.toNat_lt
  have hfl := flags4_le p h4
  have hww := h4.whole
  obtain ⟨k, hk, hk2⟩ : ∃ k : Nat, p.off = 8 * (k : Int) ∧ k < 8192 := ⟨(p.off / 8).toNat, by omega, by omega⟩
  have hq : (p.off / 8).toNat = k := by omega
  have e3 : p.off.tdiv 8 = (k : Int) := by rw [Int.tdiv_eq_ediv_of_nonneg (by omega)]; omega
  obtain ⟨M0, hM0⟩ : ∃ M0, [69, 0] ++ (beB 2 (20 + p.load.length) ++ (beB 2 p.id ++ beB 2 (flags4 p))) = M0 := ⟨_, rfl⟩
  have l0 : M0.length = 8 := by rw [← hM0]; simp [beB_length]
  obtain ⟨M1, hM1⟩ : ∃ M1, M0 ++ [p.hops, p.proto, hi8 n, lo8 n] = M1 := ⟨_, rfl⟩
  have l1 : M1.length = 12 := by rw [← hM1, List.length_append, l0]; rfl
  obtain ⟨M2, hM2⟩ : ∃ M2, M1 ++ p.src.bytes.take 4 = M2 := ⟨_, rfl⟩
  have l2 : M2.length = 16 := by rw [← hM2, List.length_append, l1]; rfl
  obtain ⟨M3, hM3⟩ : ∃ M3, M2 ++ p.dst.bytes.take 4 = M3 := ⟨_, rfl⟩
  have h3 : head4 p n = M3 := by
    unfold head4
    rw [← hM3, ← hM2, ← hM1, ← hM0]
    simp
  have HP := hid fun W v1 v2 (h1 : RB W v1 [69, 0]) (h2 : RN W v2 [UInt64.ofNat (20 + p.load.length), UInt64.ofNat p.id, UInt64.ofNat (flags4 p)]) => rput_any v1 v2 [69, 0] 2 [UInt64.ofNat (20 + p.load.length), UInt64.ofNat p.id, UInt64.ofNat (flags4 p)] W h1 h2 (by omega) (by omega) (by simp)
  rw [put2_three (20 + p.load.length) p.id (flags4 p) (by omega) (by omega) (by omega), hM0] at HP
  rw [h3]
  have HSZ := hid (show (20 : Int) + (p.load.length : Int) = ((20 + p.load.length : Nat) : Int) by omega)
  have HI := hid (hi8_val n n0 n1)
  have HLO := hid (lo8_val n)
  have HM1 := hid hM1
  have HM2 := hid hM2
  have HM3 := hid hM3
  have L0 := hid l0
  have L1 := hid l1
  have L2 := hid l2
  obtain ⟨fl, hfld⟩ : ∃ fl, fl = flags4 p := ⟨_, rfl⟩
  have HFD : Hid (fl = k + (if p.whole then 0x4000 else 0) + (if p.more then 0x2000 else 0)) := by
    unfold Hid
    rw [hfld]
    unfold flags4
    rw [hq]
  rw [← hfld] at HP hfl
  clear hM0 hM1 hM2 hM3 l0 l1 l2 h3 h4 hfld hq hk
  go_enter Try.func23, Try.ntmps23
  go_step
  go_step
  go_step
  refine wpList_boxF rfl 28 (.tmp 0) rfl (p.cells (.slice A p.load.length c)) rfl ?_
  intro w1 h1 hb1 s1
  have hl1 : w.heap.size < w1.heap.size := by omega
  clear s1
  have HSB : Hid (∀ W, Below w1.heap.size w1 W → RB W (.slice (some ⟨w.heap.size, 1, none⟩) 4 16) (p.src.bytes.take 4)) := fun W hW =>
    RB.inBlock ((hW.block _ hl1).trans h1) rfl (by decide) (by decide) (fun j v hv => by have := p.srcAt (.slice A p.load.length c) (1 + j) v (p.src.cells_byte4 j v hv); rw [Nat.zero_add] at this; exact this)
  have HDB : Hid (∀ W, Below w1.heap.size w1 W → RB W (.slice (some ⟨w.heap.size, 18, none⟩) 4 16) (p.dst.bytes.take 4)) := fun W hW =>
    RB.inBlock ((hW.block _ hl1).trans h1) rfl (by decide) (by decide) (fun j v hv => by have := p.dstAt (.slice A p.load.length c) (1 + j) v (p.dst.cells_byte4 j v hv); rw [← Nat.add_assoc] at this; exact this)
  have FA := pkt_cells h1
  obtain ⟨f0, f1, f2, f3, f4, f5, f6, f7, f8⟩ := FA
  cases hpw : p.whole
  · cases hpm : p.more
    · have HFV := hid (show (k : Int) = (fl : Int) by have := HFD.out; simp [hpw, hpm] at this; omega)
      rw [hpw] at f5
      rw [hpm] at f6
      clear hpw hpm hww
      go_upto_region 8 with (first
        | ((with_reducible refine at_slot 19 ?_); refine wpList_litF rfl 26 5 2 _ rfl #[(0, .int .u8 69), (1, .int .u8 0)] (by simp [Act.eval]) _ (lit8_2 _ _) ?_; intro u4 h4 hb4 s4; clear s4; have S4 := hb4; have q8 := keep_cell S4 f8 hl1; have q4 := keep_cell S4 f4 hl1)
        | ((with_reducible refine at_slot 29 ?_); refine wpList_litF rfl 67 44 3 _ rfl #[(0, .int .u64 ((20 : Int) + (p.load.length : Int))), (1, .int .u64 (p.id : Int)), (2, .int .u64 (k : Int))] (by simp [Act.eval]) _ (lit64_3 _ _ _) ?_; intro u5 h5 hb5 s5; clear s5; have S5 := S4.trans (hb5.mono S4.size); rw [HSZ.out, HFV.out] at h5)
        | (go_at_call 40; (with_reducible refine Calls.mono (HP.out u5 _ _ (RB.below (RB.lit h4 rfl (by omega) rfl) hb5) (RN.lit3 h5 (by omega) (by omega) (by omega))) ?_); rintro e u6 ⟨A6, k6, rfl, o6', hb6⟩; have S6 := S5.trans (hb6.mono S5.size); have o6 := OB.lower o6' S5.size; clear o6'; have q3 := keep_cell S6 f3 hl1; have q2 := keep_cell S6 f2 hl1)
        | ((with_reducible refine at_slot 41 ?_); refine wpList_litF rfl 26 5 4 _ rfl #[(0, .int .u8 (p.hops.toNat : Int)), (1, .int .u8 (p.proto.toNat : Int)), (2, .int .u8 (n / 256)), (3, .int .u8 (n % 256))] (by simp [Act.eval]) _ (lit8_4 _ _ _ _) ?_; intro u7 h7 hb7 s7; clear s7; have S7 := S6.trans (hb7.mono S6.size); have o7 := o6.below hb7; rw [← HI.out, ← HLO.out] at h7)
        | ((with_reducible refine at_slot 42 ?_); refine append_u8 (.tmp 31) (.tmp 41) w1.heap.size M0 [p.hops, p.proto, hi8 n, lo8 n] M1 HM1.out rfl rfl rfl rfl o7 (RB.lit h7 rfl (by omega) rfl) (by rw [L0.out]; simp) S7.size ?_; intro A8 k8 u8' o8 hb8 _ _; have S8 := S7.trans hb8)
        )
      have o8 : OB { u8' with drawn := u8'.drawn + 1 } w1.heap.size (.slice A8 M1.length k8) M1 := o8
      refine wp_region_hand (fun W' => Below w1.heap.size w1 W') (by kernel_rfl) (below_drewN S8 1) ?_
      intro hS
      clear S8 S7 S6 S5 S4 hb4 hb5 hb6 hb7 hb8 h4 h5 h7 o6 o7 q2 q3 q4 q8
      generalize ({ u8' with drawn := u8'.drawn + 1 } : World) = u9 at hS o8 ⊢
      refine wpAnyH_take (i := 0) (oi := ⟨some 43, _, _, _, _, _⟩) (v := ?_) rfl (by kernel_rfl) (by kernel_rfl) (by kernel_rfl) (fun _ _ _ h => h) (Or.inl ⟨by rfl, ?_⟩) hS ?_
      rotate_left 1
      focus ((intro W' hS'; go_simp) <;> with_reducible rfl)
      try simp only [Act.put, List.setIfInBounds_toArray, List.set_cons_zero, List.set_cons_succ]
      refine wpAnyH_take (i := 1) (oi := ⟨some 44, _, _, _, _, _⟩) (v := ?_) rfl (by kernel_rfl) (by kernel_rfl) (by kernel_rfl) (fun _ _ _ h => h) (Or.inl ⟨by rfl, ?_⟩) hS ?_
      rotate_left 1
      focus ((intro W' hS'; go_simp) <;> with_reducible rfl)
      try simp only [Act.put, List.setIfInBounds_toArray, List.set_cons_zero, List.set_cons_succ]
      refine wpAnyH_take (i := 2) (oi := ⟨some 45, _, _, _, _, _⟩) (v := ?_) rfl (by kernel_rfl) (by kernel_rfl) (by kernel_rfl) (fun _ _ _ h => h) (Or.inl ⟨by rfl, ?_⟩) hS ?_
      rotate_left 1
      focus ((intro W' hS'; go_simp) <;> with_reducible rfl)
      try simp only [Act.put, List.setIfInBounds_toArray, List.set_cons_zero, List.set_cons_succ]
      refine wpAnyH_take (i := 3) (oi := ⟨some 46, _, _, _, _, _⟩) (v := ?_) rfl (by kernel_rfl) (by kernel_rfl) (by kernel_rfl) (fun _ _ _ h => h) (Or.inl ⟨by rfl, ?_⟩) hS ?_
      rotate_left 1
      focus ((intro W' hS'; go_simp) <;> with_reducible rfl)
      try simp only [Act.put, List.setIfInBounds_toArray, List.set_cons_zero, List.set_cons_succ]
      refine wpAnyH_take (i := 5) (oi := ⟨some 48, _, _, _, _, _⟩) (v := ?_) rfl (by kernel_rfl) (by kernel_rfl) (by kernel_rfl) (fun _ _ _ h => h) (Or.inl ⟨by rfl, ?_⟩) hS ?_
      rotate_left 1
      focus ((intro W' hS'; go_simp) <;> with_reducible rfl)
      try simp only [Act.put, List.setIfInBounds_toArray, List.set_cons_zero, List.set_cons_succ]
      refine wpAnyH_take (i := 6) (oi := ⟨some 49, _, _, _, _, _⟩) (v := ?_) rfl (by kernel_rfl) (by kernel_rfl) (by kernel_rfl) (fun _ _ _ h => h) (Or.inl ⟨by rfl, ?_⟩) hS ?_
      rotate_left 1
      focus ((intro W' hS'; go_simp) <;> with_reducible rfl)
      try simp only [Act.put, List.setIfInBounds_toArray, List.set_cons_zero, List.set_cons_succ]
      refine wpAnyH_take (i := 7) (oi := ⟨some 50, _, _, _, _, _⟩) (v := ?_) rfl (by kernel_rfl) (by kernel_rfl) (by kernel_rfl) (fun _ _ _ h => h) (Or.inl ⟨by rfl, ?_⟩) hS ?_
      rotate_left 1
      focus ((intro W' hS'; go_simp) <;> with_reducible rfl)
      try simp only [Act.put, List.setIfInBounds_toArray, List.set_cons_zero, List.set_cons_succ]
      refine anyH_one (i := 4) (by kernel_rfl) ⟨some 47, _, _, _, _, _⟩ rfl (by rfl) ?_
      refine wp_append8 (.tmp 43) (.tmp 46) w1.heap.size M1 (p.src.bytes.take 4) M2 HM2.out rfl rfl rfl rfl o8 (HSB.out _ hS) (by rw [L1.out]; simp [Adr.bytes_length]) hS.size ?_
      intro A2 k2 v2 o2 hb2
      have hT2 := hS.trans hb2
      refine ⟨hT2, ?_⟩
      clear hS hb2
      have hS := hT2
      clear hT2
      try simp only [Act.put, List.setIfInBounds_toArray, List.set_cons_zero, List.set_cons_succ]
      refine anyH_one (i := 8) (by kernel_rfl) ⟨some 51, _, _, _, _, _⟩ rfl (by rfl) ?_
      refine wp_append8 (.tmp 47) (.tmp 50) w1.heap.size M2 (p.dst.bytes.take 4) M3 HM3.out rfl rfl rfl rfl o2 (HDB.out _ hS) (by rw [L2.out]; simp [Adr.bytes_length]) hS.size ?_
      intro A3 k3 v3 o3 hb3
      have hT3 := hS.trans hb3
      refine ⟨hT3, ?_⟩
      clear hS hb3
      have hS := hT3
      clear hT3
      try simp only [Act.put, List.setIfInBounds_toArray, List.set_cons_zero, List.set_cons_succ]
      refine wpAnyH_take (i := 9) (oi := ⟨some 4, _, _, _, _, _⟩) (v := ?_) rfl (by kernel_rfl) (by kernel_rfl) (by kernel_rfl) (fun _ _ _ h => h) (Or.inl ⟨by rfl, ?_⟩) hS ?_
      rotate_left 1
      focus ((intro W' hS'; go_simp) <;> with_reducible rfl)
      try simp only [Act.put, List.setIfInBounds_toArray, List.set_cons_zero, List.set_cons_succ]
      refine wpAnyH_done (by kernel_rfl) ?_ _
      skip
      go_wp2_with fail
      go_ret
      exact ⟨A3, k3, rfl, o3.lower hb1.size, hb1.trans (hS.mono hb1.size)⟩
    · have HFV := hid (show ((k : Int) + 8192) = (fl : Int) by have := HFD.out; simp [hpw, hpm] at this; omega)
      rw [hpw] at f5
      rw [hpm] at f6
      clear hpw hpm hww
      go_upto_region 8 with (first
        | ((with_reducible refine at_slot 19 ?_); refine wpList_litF rfl 26 5 2 _ rfl #[(0, .int .u8 69), (1, .int .u8 0)] (by simp [Act.eval]) _ (lit8_2 _ _) ?_; intro u4 h4 hb4 s4; clear s4; have S4 := hb4; have q8 := keep_cell S4 f8 hl1; have q4 := keep_cell S4 f4 hl1)
        | ((with_reducible refine at_slot 29 ?_); refine wpList_litF rfl 67 44 3 _ rfl #[(0, .int .u64 ((20 : Int) + (p.load.length : Int))), (1, .int .u64 (p.id : Int)), (2, .int .u64 ((k : Int) + 8192))] (by simp [Act.eval]) _ (lit64_3 _ _ _) ?_; intro u5 h5 hb5 s5; clear s5; have S5 := S4.trans (hb5.mono S4.size); rw [HSZ.out, HFV.out] at h5)
        | (go_at_call 40; (with_reducible refine Calls.mono (HP.out u5 _ _ (RB.below (RB.lit h4 rfl (by omega) rfl) hb5) (RN.lit3 h5 (by omega) (by omega) (by omega))) ?_); rintro e u6 ⟨A6, k6, rfl, o6', hb6⟩; have S6 := S5.trans (hb6.mono S5.size); have o6 := OB.lower o6' S5.size; clear o6'; have q3 := keep_cell S6 f3 hl1; have q2 := keep_cell S6 f2 hl1)
        | ((with_reducible refine at_slot 41 ?_); refine wpList_litF rfl 26 5 4 _ rfl #[(0, .int .u8 (p.hops.toNat : Int)), (1, .int .u8 (p.proto.toNat : Int)), (2, .int .u8 (n / 256)), (3, .int .u8 (n % 256))] (by simp [Act.eval]) _ (lit8_4 _ _ _ _) ?_; intro u7 h7 hb7 s7; clear s7; have S7 := S6.trans (hb7.mono S6.size); have o7 := o6.below hb7; rw [← HI.out, ← HLO.out] at h7)
        | ((with_reducible refine at_slot 42 ?_); refine append_u8 (.tmp 31) (.tmp 41) w1.heap.size M0 [p.hops, p.proto, hi8 n, lo8 n] M1 HM1.out rfl rfl rfl rfl o7 (RB.lit h7 rfl (by omega) rfl) (by rw [L0.out]; simp) S7.size ?_; intro A8 k8 u8' o8 hb8 _ _; have S8 := S7.trans hb8)
        )
      have o8 : OB { u8' with drawn := u8'.drawn + 1 } w1.heap.size (.slice A8 M1.length k8) M1 := o8
      refine wp_region_hand (fun W' => Below w1.heap.size w1 W') (by kernel_rfl) (below_drewN S8 1) ?_
      intro hS
      clear S8 S7 S6 S5 S4 hb4 hb5 hb6 hb7 hb8 h4 h5 h7 o6 o7 q2 q3 q4 q8
      generalize ({ u8' with drawn := u8'.drawn + 1 } : World) = u9 at hS o8 ⊢
      refine wpAnyH_take (i := 0) (oi := ⟨some 43, _, _, _, _, _⟩) (v := ?_) rfl (by kernel_rfl) (by kernel_rfl) (by kernel_rfl) (fun _ _ _ h => h) (Or.inl ⟨by rfl, ?_⟩) hS ?_
      rotate_left 1
      focus ((intro W' hS'; go_simp) <;> with_reducible rfl)
      try simp only [Act.put, List.setIfInBounds_toArray, List.set_cons_zero, List.set_cons_succ]
      refine wpAnyH_take (i := 1) (oi := ⟨some 44, _, _, _, _, _⟩) (v := ?_) rfl (by kernel_rfl) (by kernel_rfl) (by kernel_rfl) (fun _ _ _ h => h) (Or.inl ⟨by rfl, ?_⟩) hS ?_
      rotate_left 1
      focus ((intro W' hS'; go_simp) <;> with_reducible rfl)
      try simp only [Act.put, List.setIfInBounds_toArray, List.set_cons_zero, List.set_cons_succ]
      refine wpAnyH_take (i := 2) (oi := ⟨some 45, _, _, _, _, _⟩) (v := ?_) rfl (by kernel_rfl) (by kernel_rfl) (by kernel_rfl) (fun _ _ _ h => h) (Or.inl ⟨by rfl, ?_⟩) hS ?_
      rotate_left 1
      focus ((intro W' hS'; go_simp) <;> with_reducible rfl)
      try simp only [Act.put, List.setIfInBounds_toArray, List.set_cons_zero, List.set_cons_succ]
      refine wpAnyH_take (i := 3) (oi := ⟨some 46, _, _, _, _, _⟩) (v := ?_) rfl (by kernel_rfl) (by kernel_rfl) (by kernel_rfl) (fun _ _ _ h => h) (Or.inl ⟨by rfl, ?_⟩) hS ?_
      rotate_left 1
      focus ((intro W' hS'; go_simp) <;> with_reducible rfl)
      try simp only [Act.put, List.setIfInBounds_toArray, List.set_cons_zero, List.set_cons_succ]
      refine wpAnyH_take (i := 5) (oi := ⟨some 48, _, _, _, _, _⟩) (v := ?_) rfl (by kernel_rfl) (by kernel_rfl) (by kernel_rfl) (fun _ _ _ h => h) (Or.inl ⟨by rfl, ?_⟩) hS ?_
      rotate_left 1
      focus ((intro W' hS'; go_simp) <;> with_reducible rfl)
      try simp only [Act.put, List.setIfInBounds_toArray, List.set_cons_zero, List.set_cons_succ]
      refine wpAnyH_take (i := 6) (oi := ⟨some 49, _, _, _, _, _⟩) (v := ?_) rfl (by kernel_rfl) (by kernel_rfl) (by kernel_rfl) (fun _ _ _ h => h) (Or.inl ⟨by rfl, ?_⟩) hS ?_
      rotate_left 1
      focus ((intro W' hS'; go_simp) <;> with_reducible rfl)
      try simp only [Act.put, List.setIfInBounds_toArray, List.set_cons_zero, List.set_cons_succ]
      refine wpAnyH_take (i := 7) (oi := ⟨some 50, _, _, _, _, _⟩) (v := ?_) rfl (by kernel_rfl) (by kernel_rfl) (by kernel_rfl) (fun _ _ _ h => h) (Or.inl ⟨by rfl, ?_⟩) hS ?_
      rotate_left 1
      focus ((intro W' hS'; go_simp) <;> with_reducible rfl)
      try simp only [Act.put, List.setIfInBounds_toArray, List.set_cons_zero, List.set_cons_succ]
      refine anyH_one (i := 4) (by kernel_rfl) ⟨some 47, _, _, _, _, _⟩ rfl (by rfl) ?_
      refine wp_append8 (.tmp 43) (.tmp 46) w1.heap.size M1 (p.src.bytes.take 4) M2 HM2.out rfl rfl rfl rfl o8 (HSB.out _ hS) (by rw [L1.out]; simp [Adr.bytes_length]) hS.size ?_
      intro A2 k2 v2 o2 hb2
      have hT2 := hS.trans hb2
      refine ⟨hT2, ?_⟩
      clear hS hb2
      have hS := hT2
      clear hT2
      try simp only [Act.put, List.setIfInBounds_toArray, List.set_cons_zero, List.set_cons_succ]
      refine anyH_one (i := 8) (by kernel_rfl) ⟨some 51, _, _, _, _, _⟩ rfl (by rfl) ?_
      refine wp_append8 (.tmp 47) (.tmp 50) w1.heap.size M2 (p.dst.bytes.take 4) M3 HM3.out rfl rfl rfl rfl o2 (HDB.out _ hS) (by rw [L2.out]; simp [Adr.bytes_length]) hS.size ?_
      intro A3 k3 v3 o3 hb3
      have hT3 := hS.trans hb3
      refine ⟨hT3, ?_⟩
      clear hS hb3
      have hS := hT3
      clear hT3
      try simp only [Act.put, List.setIfInBounds_toArray, List.set_cons_zero, List.set_cons_succ]
      refine wpAnyH_take (i := 9) (oi := ⟨some 4, _, _, _, _, _⟩) (v := ?_) rfl (by kernel_rfl) (by kernel_rfl) (by kernel_rfl) (fun _ _ _ h => h) (Or.inl ⟨by rfl, ?_⟩) hS ?_
      rotate_left 1
      focus ((intro W' hS'; go_simp) <;> with_reducible rfl)
      try simp only [Act.put, List.setIfInBounds_toArray, List.set_cons_zero, List.set_cons_succ]
      refine wpAnyH_done (by kernel_rfl) ?_ _
      skip
      go_wp2_with fail
      go_ret
      exact ⟨A3, k3, rfl, o3.lower hb1.size, hb1.trans (hS.mono hb1.size)⟩
  · have hpm := (hww hpw).1
    have HFV := hid (show ((k : Int) + 16384) = (fl : Int) by have := HFD.out; simp [hpw, hpm] at this; omega)
    rw [hpw] at f5
    rw [hpm] at f6
    clear hpw hpm hww
    go_upto_region 8 with (first
      | ((with_reducible refine at_slot 19 ?_); refine wpList_litF rfl 26 5 2 _ rfl #[(0, .int .u8 69), (1, .int .u8 0)] (by simp [Act.eval]) _ (lit8_2 _ _) ?_; intro u4 h4 hb4 s4; clear s4; have S4 := hb4; have q8 := keep_cell S4 f8 hl1; have q4 := keep_cell S4 f4 hl1)
      | ((with_reducible refine at_slot 29 ?_); refine wpList_litF rfl 67 44 3 _ rfl #[(0, .int .u64 ((20 : Int) + (p.load.length : Int))), (1, .int .u64 (p.id : Int)), (2, .int .u64 ((k : Int) + 16384))] (by simp [Act.eval]) _ (lit64_3 _ _ _) ?_; intro u5 h5 hb5 s5; clear s5; have S5 := S4.trans (hb5.mono S4.size); rw [HSZ.out, HFV.out] at h5)
      | (go_at_call 40; (with_reducible refine Calls.mono (HP.out u5 _ _ (RB.below (RB.lit h4 rfl (by omega) rfl) hb5) (RN.lit3 h5 (by omega) (by omega) (by omega))) ?_); rintro e u6 ⟨A6, k6, rfl, o6', hb6⟩; have S6 := S5.trans (hb6.mono S5.size); have o6 := OB.lower o6' S5.size; clear o6'; have q3 := keep_cell S6 f3 hl1; have q2 := keep_cell S6 f2 hl1)
      | ((with_reducible refine at_slot 41 ?_); refine wpList_litF rfl 26 5 4 _ rfl #[(0, .int .u8 (p.hops.toNat : Int)), (1, .int .u8 (p.proto.toNat : Int)), (2, .int .u8 (n / 256)), (3, .int .u8 (n % 256))] (by simp [Act.eval]) _ (lit8_4 _ _ _ _) ?_; intro u7 h7 hb7 s7; clear s7; have S7 := S6.trans (hb7.mono S6.size); have o7 := o6.below hb7; rw [← HI.out, ← HLO.out] at h7)
      | ((with_reducible refine at_slot 42 ?_); refine append_u8 (.tmp 31) (.tmp 41) w1.heap.size M0 [p.hops, p.proto, hi8 n, lo8 n] M1 HM1.out rfl rfl rfl rfl o7 (RB.lit h7 rfl (by omega) rfl) (by rw [L0.out]; simp) S7.size ?_; intro A8 k8 u8' o8 hb8 _ _; have S8 := S7.trans hb8)
      )
    have o8 : OB { u8' with drawn := u8'.drawn + 1 } w1.heap.size (.slice A8 M1.length k8) M1 := o8
    refine wp_region_hand (fun W' => Below w1.heap.size w1 W') (by kernel_rfl) (below_drewN S8 1) ?_
    intro hS
    clear S8 S7 S6 S5 S4 hb4 hb5 hb6 hb7 hb8 h4 h5 h7 o6 o7 q2 q3 q4 q8
    generalize ({ u8' with drawn := u8'.drawn + 1 } : World) = u9 at hS o8 ⊢
    refine wpAnyH_take (i := 0) (oi := ⟨some 43, _, _, _, _, _⟩) (v := ?_) rfl (by kernel_rfl) (by kernel_rfl) (by kernel_rfl) (fun _ _ _ h => h) (Or.inl ⟨by rfl, ?_⟩) hS ?_
    rotate_left 1
    focus ((intro W' hS'; go_simp) <;> with_reducible rfl)
    try simp only [Act.put, List.setIfInBounds_toArray, List.set_cons_zero, List.set_cons_succ]
    refine wpAnyH_take (i := 1) (oi := ⟨some 44, _, _, _, _, _⟩) (v := ?_) rfl (by kernel_rfl) (by kernel_rfl) (by kernel_rfl) (fun _ _ _ h => h) (Or.inl ⟨by rfl, ?_⟩) hS ?_
    rotate_left 1
    focus ((intro W' hS'; go_simp) <;> with_reducible rfl)
    try simp only [Act.put, List.setIfInBounds_toArray, List.set_cons_zero, List.set_cons_succ]
    refine wpAnyH_take (i := 2) (oi := ⟨some 45, _, _, _, _, _⟩) (v := ?_) rfl (by kernel_rfl) (by kernel_rfl) (by kernel_rfl) (fun _ _ _ h => h) (Or.inl ⟨by rfl, ?_⟩) hS ?_
    rotate_left 1
    focus ((intro W' hS'; go_simp) <;> with_reducible rfl)
    try simp only [Act.put, List.setIfInBounds_toArray, List.set_cons_zero, List.set_cons_succ]
    refine wpAnyH_take (i := 3) (oi := ⟨some 46, _, _, _, _, _⟩) (v := ?_) rfl (by kernel_rfl) (by kernel_rfl) (by kernel_rfl) (fun _ _ _ h => h) (Or.inl ⟨by rfl, ?_⟩) hS ?_
    rotate_left 1
    focus ((intro W' hS'; go_simp) <;> with_reducible rfl)
    try simp only [Act.put, List.setIfInBounds_toArray, List.set_cons_zero, List.set_cons_succ]
    refine wpAnyH_take (i := 5) (oi := ⟨some 48, _, _, _, _, _⟩) (v := ?_) rfl (by kernel_rfl) (by kernel_rfl) (by kernel_rfl) (fun _ _ _ h => h) (Or.inl ⟨by rfl, ?_⟩) hS ?_
    rotate_left 1
    focus ((intro W' hS'; go_simp) <;> with_reducible rfl)
    try simp only [Act.put, List.setIfInBounds_toArray, List.set_cons_zero, List.set_cons_succ]
    refine wpAnyH_take (i := 6) (oi := ⟨some 49, _, _, _, _, _⟩) (v := ?_) rfl (by kernel_rfl) (by kernel_rfl) (by kernel_rfl) (fun _ _ _ h => h) (Or.inl ⟨by rfl, ?_⟩) hS ?_
    rotate_left 1
    focus ((intro W' hS'; go_simp) <;> with_reducible rfl)
    try simp only [Act.put, List.setIfInBounds_toArray, List.set_cons_zero, List.set_cons_succ]
    refine wpAnyH_take (i := 7) (oi := ⟨some 50, _, _, _, _, _⟩) (v := ?_) rfl (by kernel_rfl) (by kernel_rfl) (by kernel_rfl) (fun _ _ _ h => h) (Or.inl ⟨by rfl, ?_⟩) hS ?_
    rotate_left 1
    focus ((intro W' hS'; go_simp) <;> with_reducible rfl)
    try simp only [Act.put, List.setIfInBounds_toArray, List.set_cons_zero, List.set_cons_succ]
    refine anyH_one (i := 4) (by kernel_rfl) ⟨some 47, _, _, _, _, _⟩ rfl (by rfl) ?_
    refine wp_append8 (.tmp 43) (.tmp 46) w1.heap.size M1 (p.src.bytes.take 4) M2 HM2.out rfl rfl rfl rfl o8 (HSB.out _ hS) (by rw [L1.out]; simp [Adr.bytes_length]) hS.size ?_
    intro A2 k2 v2 o2 hb2
    have hT2 := hS.trans hb2
    refine ⟨hT2, ?_⟩
    clear hS hb2
    have hS := hT2
    clear hT2
    try simp only [Act.put, List.setIfInBounds_toArray, List.set_cons_zero, List.set_cons_succ]
    refine anyH_one (i := 8) (by kernel_rfl) ⟨some 51, _, _, _, _, _⟩ rfl (by rfl) ?_
    refine wp_append8 (.tmp 47) (.tmp 50) w1.heap.size M2 (p.dst.bytes.take 4) M3 HM3.out rfl rfl rfl rfl o2 (HDB.out _ hS) (by rw [L2.out]; simp [Adr.bytes_length]) hS.size ?_
    intro A3 k3 v3 o3 hb3
    have hT3 := hS.trans hb3
    refine ⟨hT3, ?_⟩
    clear hS hb3
    have hS := hT3
    clear hT3
    try simp only [Act.put, List.setIfInBounds_toArray, List.set_cons_zero, List.set_cons_succ]
    refine wpAnyH_take (i := 9) (oi := ⟨some 4, _, _, _, _, _⟩) (v := ?_) rfl (by kernel_rfl) (by kernel_rfl) (by kernel_rfl) (fun _ _ _ h => h) (Or.inl ⟨by rfl, ?_⟩) hS ?_
    rotate_left 1
    focus ((intro W' hS'; go_simp) <;> with_reducible rfl)
    try simp only [Act.put, List.setIfInBounds_toArray, List.set_cons_zero, List.set_cons_succ]
    refine wpAnyH_done (by kernel_rfl) ?_ _
    skip
    go_wp2_with fail
    go_ret
    exact ⟨A3, k3, rfl, o3.lower hb1.size, hb1.trans (hS.mono hb1.size)⟩
end Go.Proofs.Ytpcfgihomplehaa
namespace Go.Proofs.Ytpcfgihomplehaa
set_option linter.unusedVariables false
set_option linter.unusedSimpArgs false
open Go.RowKit

set_option maxRecDepth 100000 in
set_option maxHeartbeats 2000000 in
theorem rlay4_any (p : Pkt) (dv : Value) (w : World) (hp : p.Ok) (hd : RB w dv p.load) :
    Calls Try.prog 10 #[p.v dv] w (BytesPost (layR4 p) w) := by
  have HM := hid fun W (h : RB W dv p.load) => rmay4_any p dv W hp h
  have HRB := hid fun W (h : Below w.heap.size w W) => hd.below h
  obtain ⟨A, c, rfl, hrow⟩ := hd
  have hcap := hrow.cap
  have htop := hrow.top
  clear hrow
  unfold Pkt.v at *
  obtain ⟨r, hr⟩ : ∃ r, r = layR4 p := ⟨_, rfl⟩
  rw [← hr]
  go_enter Try.func10, Try.ntmps10
  go_step
  go_step
  refine wpList_boxF rfl 28 (.tmp 0) rfl (p.cells (.slice A p.load.length c)) rfl ?_
  intro w1 h1 hb1 s1
  have hl1 : w.heap.size < w1.heap.size := by omega
  clear s1
  cases hm : may4 p
  · have HR := hid (hr.trans (layR4_no hm))
    clear hr
    rw [hm] at HM
    go_wp2_with (first
      | ((with_reducible refine at_slot 5 ?_); refine wpList_load_row rfl 28 (.tmp 1) rfl w.heap.size rfl _ (p.cells (.slice A p.load.length c)) _ _ h1 Try.underlying28 rfl (info_pkt _ _) ?_)
      | (go_at_call 12; (with_reducible refine Calls.mono (HM.out _ (HRB.out _ hb1)) ?_); rintro e w2 ⟨rfl, hb2⟩))
    go_ret2
    exact BytesPost.nil HR.out (below_after hb1 hb2 (Nat.le_refl _))
  · have HR := hid (hr.trans (layR4_ok hm))
    clear hr
    have h4 := (may4_iff p).1 hm
    rw [hm] at HM
    have hof := h4.off
    have hck := check4_range p
    have HH1 := hid fun W (h : RB W (.slice A p.load.length c) p.load) => rhead4_any p _ 0 W h4 h (by decide) (by decide)
    obtain ⟨M3, hM3⟩ : ∃ M3, head4 p 0 = M3 := ⟨_, rfl⟩
    have l3 : M3.length = 20 := by rw [← hM3, head4_len]
    rw [hM3] at HH1
    obtain ⟨sv, hsv⟩ : ∃ sv, sv = foldS (wtot [M3]) := ⟨_, rfl⟩
    have hcv : (65535 : Int) - sv = check4 p := by unfold check4; rw [hsv, wtot_one, hM3]
    have HSM := hid fun W v (h : RBB W v [M3]) => rsum_any v [M3] W h (by simp [btot, l3])
    rw [← hsv] at HSM
    have hsr : 0 ≤ sv ∧ sv ≤ 65535 := by omega
    have hsgn : IntKind.u16.signed = false := rfl
    have hxor := xor_u16 sv hsr.1 hsr.2
    have HH2 := hid fun W (h : RB W (.slice A p.load.length c) p.load) => rhead4_any p _ (65535 - sv) W h4 h (by omega) (by omega)
    have hM4 : ∃ M4, head4 p (check4 p) = M4 := ⟨_, rfl⟩
    obtain ⟨M4, hM4⟩ := hM4
    have l4 : M4.length = 20 := by rw [← hM4, head4_len]
    rw [hcv, hM4] at HH2
    rw [← hcv] at HH2
    obtain ⟨M5, hM5⟩ : ∃ M5, M4 ++ p.load = M5 := ⟨_, rfl⟩
    have HF := hid (show head4 p (check4 p) ++ p.load = M5 by rw [hM4, hM5])
    have HM5 := hid hM5
    have L4 := hid l4
    unfold Pkt.v at *
    clear hM3 l3 hsv hcv hck hM4 l4 hM5 h4 hm
    have FA := pkt_cells h1
    obtain ⟨f0, f1, f2, f3, f4, f5, f6, f7, f8⟩ := FA
    go_upto_region 4 with (first
      | ((with_reducible refine at_slot 5 ?_); refine wpList_load_row rfl 28 (.tmp 1) rfl w.heap.size rfl _ (p.cells (.slice A p.load.length c)) _ _ h1 Try.underlying28 rfl (info_pkt _ _) ?_)
      | (go_at_call 12; (with_reducible refine Calls.mono (HM.out _ (HRB.out _ hb1)) ?_); rintro e w2 ⟨rfl, hb2⟩; have h2 := (hb2.block _ hl1).trans h1)
      | ((with_reducible refine at_slot 8 ?_); refine wpList_load_row rfl 28 (.tmp 1) rfl w.heap.size rfl _ (p.cells (.slice A p.load.length c)) _ _ h2 Try.underlying28 rfl (info_pkt _ _) ?_)
      | (go_at_call 23; (with_reducible refine Calls.mono (HH1.out _ (HRB.out _ (hb1.trans (hb2.mono hb1.size)))) ?_); rintro e w3 ⟨A3, k3, rfl, o3, hb3⟩; have S3 := hb2.trans (hb3.mono hb2.size))
      | (go_at_call 22; (with_reducible refine Calls.mono (HSM.out _ _ (RBB.new1 w3 _ M3 _ _ rfl o3.rb)) ?_); rintro e w4 ⟨rfl, rfl⟩))
    have S4 := S3.trans ((bl1 w3 (.cells #[.slice A3 M3.length k3] 26)).mono S3.size)
    refine wp_region_hand (fun W' => Below w1.heap.size w1 W') (by kernel_rfl) (below_drewN S4 1) ?_
    intro hS
    generalize ({ (w3.alloc (.cells #[.slice A3 M3.length k3] 26)) with drawn := (w3.alloc (.cells #[.slice A3 M3.length k3] 26)).drawn + 1 } : World) = u at hS ⊢
    clear S4 S3 hb3 o3 hb2 h2
    refine wpAnyH_take (i := 0) (oi := ⟨some 13, _, _, _, _, _⟩) rfl (by kernel_rfl) (by kernel_rfl) (by kernel_rfl) (fun _ _ _ h => h) (yields_row 28 (.tmp 1) rfl (by rfl) ⟨w.heap.size, 0, none⟩ rfl (p.cells (.slice A p.load.length c)) _ (fun W' hS' => (cells_part ((hS'.block _ hl1).trans h1) (fun j u h => by rw [Nat.zero_add]; exact h))) Try.underlying28 rfl (info_pkt _ _)) hS ?_
    try simp only [Act.put, List.setIfInBounds_toArray, List.set_cons_zero, List.set_cons_succ]
    refine wpAnyH_take (i := 1) (oi := ⟨some 14, _, _, _, _, _⟩) (v := ?_) rfl (by kernel_rfl) (by kernel_rfl) (by kernel_rfl) (fun _ _ _ h => h) (Or.inl ⟨by rfl, ?_⟩) hS ?_
    rotate_left 1
    focus ((intro W' hS'; go_simp) <;> with_reducible rfl)
    try simp only [Act.put, List.setIfInBounds_toArray, List.set_cons_zero, List.set_cons_succ]
    refine wpAnyH_take (i := 3) (oi := ⟨some 16, _, _, _, _, _⟩) (v := ?_) rfl (by kernel_rfl) (by kernel_rfl) (by kernel_rfl) (fun _ _ _ h => h) (Or.inl ⟨by rfl, ?_⟩) hS ?_
    rotate_left 1
    focus ((intro W' hS'; go_simp) <;> with_reducible rfl)
    try simp only [Act.put, List.setIfInBounds_toArray, List.set_cons_zero, List.set_cons_succ]
    refine wpAnyH_take (i := 4) (oi := ⟨some 17, _, _, _, _, _⟩) (v := ?_) rfl (by kernel_rfl) (by kernel_rfl) (by kernel_rfl) (fun _ _ _ h => h) (Or.inl ⟨by rfl, ?_⟩) hS ?_
    rotate_left 1
    focus ((intro W' hS'; have q1 := keep_cell hS' f8 hl1; go_simp) <;> with_reducible rfl)
    try simp only [Act.put, List.setIfInBounds_toArray, List.set_cons_zero, List.set_cons_succ]
    refine anyH_one (i := 2) (by kernel_rfl) ⟨some 15, _, _, _, _, _⟩ rfl (by rfl) ?_
    go_simp
    with_reducible refine Calls.mono (HH2.out _ (HRB.out _ (hb1.trans (hS.mono hb1.size)))) ?_
    rintro e u ⟨A4, k4, rfl, o4, hb⟩
    have o4 := o4.lower hS.size
    have hS2 := hS.trans (hb.mono hS.size)
    refine ⟨hS2, ?_⟩
    clear hS
    have hS := hS2
    clear hS2
    try simp only [Act.put, List.setIfInBounds_toArray, List.set_cons_zero, List.set_cons_succ]
    clear hb
    refine anyH_one (i := 5) (by kernel_rfl) ⟨some 18, _, _, _, _, _⟩ rfl (by rfl) ?_
    refine wp_append8 (.tmp 15) (.tmp 17) w1.heap.size M4 p.load M5 HM5.out rfl rfl rfl rfl o4 (HRB.out _ (hb1.trans (hS.mono hb1.size))) (by rw [L4.out]; omega) hS.size ?_
    intro A5 k5 v5 o5 hb5
    have hT5 := hS.trans hb5
    refine ⟨hT5, ?_⟩
    clear hS hb5
    have hS := hT5
    clear hT5
    try simp only [Act.put, List.setIfInBounds_toArray, List.set_cons_zero, List.set_cons_succ]
    refine wpAnyH_take (i := 6) (oi := ⟨some 2, _, _, _, _, _⟩) (v := ?_) rfl (by kernel_rfl) (by kernel_rfl) (by kernel_rfl) (fun _ _ _ h => h) (Or.inl ⟨by rfl, ?_⟩) hS ?_
    rotate_left 1
    focus ((intro W' hS'; go_simp) <;> with_reducible rfl)
    try simp only [Act.put, List.setIfInBounds_toArray, List.set_cons_zero, List.set_cons_succ]
    refine wpAnyH_take (i := 7) (oi := ⟨some 3, _, _, _, _, _⟩) (v := ?_) rfl (by kernel_rfl) (by kernel_rfl) (by kernel_rfl) (fun _ _ _ h => h) (Or.inl ⟨by rfl, ?_⟩) hS ?_
    rotate_left 1
    focus ((intro W' hS'; go_simp) <;> with_reducible rfl)
    try simp only [Act.put, List.setIfInBounds_toArray, List.set_cons_zero, List.set_cons_succ]
    refine wpAnyH_done (by kernel_rfl) ?_ _
    go_wp2_with fail
    go_ret2
    exact BytesPost.of (by rw [← HF.out]; exact HR.out) rfl hb1.size o5 (hb1.trans (hS.mono hb1.size))
end Go.Proofs.Ytpcfgihomplehaa
