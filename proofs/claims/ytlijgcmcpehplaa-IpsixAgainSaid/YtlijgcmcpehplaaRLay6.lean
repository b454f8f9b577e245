/- Walk: the reference's Lay of IPv6. -/
import Derived.Test.YtlijgcmcpehplaaLay6
import Derived.Test.YtlijgcmcpehplaaRegM
import Derived.Test.YtlijgcmcpehplaaOctR
namespace Go.Proofs.Ytlijgcmcpehplaa
set_option linter.unusedVariables false
set_option linter.unusedSimpArgs false
open Go.RowKit

set_option maxRecDepth 100000 in
set_option maxHeartbeats 2000000 in
theorem rlay6_any (p : Pkt) (dv : Value) (w : World) (hp : p.Ok) (hd : RB w dv p.load) :
    Calls Try.prog 12 #[p.v dv] w (BytesPost (layR p) w) := by
  have HM := hid fun W (h : RB W dv p.load) => rmay6_any p dv W hp h
  have HRB := hid fun W (h : Below w.heap.size w W) => hd.below h
  obtain ⟨A, c, rfl, hrow⟩ := hd
  have hcap := hrow.cap
  have htop := hrow.top
  clear hrow
  unfold Pkt.v at *
  obtain ⟨r, hr⟩ : ∃ r, r = layR p := ⟨_, rfl⟩
  rw [← hr]
  go_enter Try.func12, Try.ntmps12
  go_step
  go_step
  refine wpList_boxF rfl 28 (.tmp 0) rfl (p.cells (.slice A p.load.length c)) rfl ?_
  intro w1 h1 hb1 s1
  have hl1 : w.heap.size < w1.heap.size := by omega
  clear s1
  cases hm : may6 p
  · have HR := hid (hr.trans (layR_no hm))
    clear hr
    rw [hm] at HM
    go_wp2_with (first
      | ((with_reducible refine at_slot 8 ?_); refine wpList_load_row rfl 28 (.tmp 1) rfl w.heap.size rfl _ (p.cells (.slice A p.load.length c)) _ _ h1 Try.underlying28 rfl (info_pkt _ _) ?_)
      | (go_at_call 14; (with_reducible refine Calls.mono (HM.out _ (HRB.out _ hb1)) ?_); rintro e w2 ⟨rfl, hb2⟩))
    go_ret2
    exact BytesPost.nil HR.out (below_after hb1 hb2 (Nat.le_refl _))
  · have HR := hid (hr.trans (layR_ok hm))
    clear hr
    have h6 := (may6_iff p).1 hm
    rw [hm] at HM
    have hof := h6.off
    have hid' := hp.id
    have hph := p.hops.toNat_lt
    have hpp := p.proto.toNat_lt
    clear h6 hm hp
    have HSB : Hid (∀ W, Below w1.heap.size w1 W → RB W (.slice (some ⟨w.heap.size, 1, none⟩) 16 16) p.src.bytes) := fun W hW =>
      RB.inBlock ((hW.block _ hl1).trans h1) rfl (by decide) (by decide) (fun j v hv => by have := p.srcAt (.slice A p.load.length c) (1 + j) v (p.src.cells_byte j v hv); rw [Nat.zero_add] at this; exact this)
    have HDB : Hid (∀ W, Below w1.heap.size w1 W → RB W (.slice (some ⟨w.heap.size, 18, none⟩) 16 16) p.dst.bytes) := fun W hW =>
      RB.inBlock ((hW.block _ hl1).trans h1) rfl (by decide) (by decide) (fun j v hv => by have := p.dstAt (.slice A p.load.length c) (1 + j) v (p.dst.cells_byte j v hv); rw [← Nat.add_assoc] at this; exact this)
    obtain ⟨f0, f1, f2, f3, f4, f5, f6, f7, f8⟩ := pkt_cells h1
    cases hw : p.whole
    · have hof' : p.off = (p.off.toNat : Int) := by omega
      obtain ⟨of_, hof2⟩ : ∃ n, n = p.off.toNat := ⟨_, rfl⟩
      rw [← hof2] at hof'
      have hofb : of_ ≤ 65535 := by omega
      obtain ⟨mo, hmo⟩ : ∃ n : Nat, n = if p.more then 1 else 0 := ⟨_, rfl⟩
      have hmo1 : mo ≤ 1 := by rw [hmo]; split <;> omega
      obtain ⟨M5, hM5⟩ : ∃ M5, [p.proto, 0] ++ beB 2 (of_ + mo) = M5 := ⟨_, rfl⟩
      have l5 : M5.length = 4 := by rw [← hM5, List.length_append, beB_length]; rfl
      obtain ⟨FR, hFR⟩ : ∃ FR, M5 ++ beB 4 p.id = FR := ⟨_, rfl⟩
      have lF : FR.length = 8 := by rw [← hFR, List.length_append, l5, beB_length]
      have HP2 := hid fun W v1 v2 (h1 : RB W v1 [p.proto, 0]) (h2 : RN W v2 [UInt64.ofNat (of_ + mo)]) => rput_any v1 v2 [p.proto, 0] 2 [UInt64.ofNat (of_ + mo)] W h1 h2 (by omega) (by omega) (by simp)
      rw [put2_one (of_ + mo) (by omega), hM5] at HP2
      have HP3 := hid fun W v1 v2 (h1 : RB W v1 M5) (h2 : RN W v2 [UInt64.ofNat p.id]) => rput_any v1 v2 M5 4 [UInt64.ofNat p.id] W h1 h2 (by omega) (by omega) (by rw [l5]; simp)
      rw [put4_one p.id (by omega), hFR] at HP3
      obtain ⟨M0, hM0⟩ : ∃ M0, [0x60, 0, 0, 0] ++ beB 2 (FR.length + p.load.length) = M0 := ⟨_, rfl⟩
      have l0 : M0.length = 6 := by rw [← hM0, List.length_append, beB_length]; rfl
      obtain ⟨M1, hM1⟩ : ∃ M1, M0 ++ [44, p.hops] = M1 := ⟨_, rfl⟩
      have l1 : M1.length = 8 := by rw [← hM1, List.length_append, l0]; rfl
      obtain ⟨M2, hM2⟩ : ∃ M2, M1 ++ p.src.bytes = M2 := ⟨_, rfl⟩
      have l2 : M2.length = 24 := by rw [← hM2, List.length_append, l1]; rfl
      obtain ⟨M3, hM3⟩ : ∃ M3, M2 ++ p.dst.bytes = M3 := ⟨_, rfl⟩
      have l3 : M3.length = 40 := by rw [← hM3, List.length_append, l2]; rfl
      obtain ⟨M6, hM6⟩ : ∃ M6, M3 ++ FR = M6 := ⟨_, rfl⟩
      have l6 : M6.length = 40 + FR.length := by rw [← hM6, List.length_append, l3]
      obtain ⟨M7, hM7⟩ : ∃ M7, M6 ++ p.load = M7 := ⟨_, rfl⟩
      have hfr : frag6 p = FR := by
        unfold frag6
        rw [hw, ← hFR, ← hM5, hof2, hmo]
        simp
      have hfin : bytes6 p = M7 := by
        unfold bytes6
        rw [hfr, hw, ← hM7, ← hM6, ← hM3, ← hM2, ← hM1, ← hM0]
        simp
      have HP1 := hid fun W v1 v2 (h1 : RB W v1 [0x60, 0, 0, 0]) (h2 : RN W v2 [UInt64.ofNat (FR.length + p.load.length)]) => rput_any v1 v2 [0x60, 0, 0, 0] 2 [UInt64.ofNat (FR.length + p.load.length)] W h1 h2 (by omega) (by omega) (by simp)
      rw [put2_one (FR.length + p.load.length) (by omega), hM0] at HP1
      have HM1 := hid hM1
      have HM2 := hid hM2
      have HM3 := hid hM3
      have HM6 := hid hM6
      have HM7 := hid hM7
      have L0 := hid l0
      have L1 := hid l1
      have L2 := hid l2
      have L3 := hid l3
      rw [lF] at l6
      have L6 := hid l6
      have LF := hid lF
      have HF := hid hfin
      have HSZ := hid (show (8 : Int) + (p.load.length : Int) = ((FR.length + p.load.length : Nat) : Int) by omega)
      have hlF : FR.length ≤ 8 := by omega
      have HWI := hid (show IntKind.u64.wrap (p.id : Int) = (p.id : Int) by rw [IntKind.wrap_u64]; omega)
      clear lF hfin hfr hFR hM0 hM1 hM2 hM3 hM6 hM7 l0 l1 l2 l3 l6 hM5 l5
      have HOF := hid hof2
      clear hof2
      have HMO := hid hmo
      clear hmo
      cases hmr : p.more
      · have HOV := hid (show p.off = ((of_ + mo : Nat) : Int) by have := HMO.out; rw [hmr] at this; simp at this; omega)
        clear hof'
        go_upto_region 9 with (first
          | ((with_reducible refine at_slot 8 ?_); refine wpList_load_row rfl 28 (.tmp 1) rfl w.heap.size rfl _ (p.cells (.slice A p.load.length c)) _ _ h1 Try.underlying28 rfl (info_pkt _ _) ?_)
          | (go_at_call 14; (with_reducible refine Calls.mono (HM.out _ (HRB.out _ hb1)) ?_); rintro e w2 ⟨rfl, hb2⟩; obtain ⟨g0, g1, g2, g3, g4, g5, g6, g7, g8⟩ := pkt_cells ((hb2.block w.heap.size hl1).trans h1); rw [hw] at g5; rw [hmr] at g6; clear g0 g1 g3 g4 g8))
        go_cut [4] (fun s4 wx => ∃ (A4 : Option Addr) (k4 : Nat), s4 = .slice A4 FR.length k4 ∧ OB wx w1.heap.size (.slice A4 FR.length k4) FR ∧ Below w1.heap.size w1 wx)
        case first =>
          refine wp_region_hand (fun W' => Below w1.heap.size w1 W') (by kernel_rfl) (below_drewN hb2 1) ?_
          intro hS
          clear g2 g5 g6 g7
          generalize ({ w2 with drawn := w2.drawn + 1 } : World) = u at hS ⊢
          refine wpAnyH_take (i := 0) (oi := ⟨some 23, _, _, _, _, _⟩) (v := ?_) rfl (by kernel_rfl) (by kernel_rfl) (by kernel_rfl) (fun _ _ _ h => h) (Or.inl ⟨by rfl, ?_⟩) hS ?_
          rotate_left 1
          focus ((intro W' hS'; go_simp) <;> with_reducible rfl)
          try simp only [Act.put, List.setIfInBounds_toArray, List.set_cons_zero, List.set_cons_succ]
          refine wpAnyH_take (i := 1) (oi := ⟨some 24, _, _, _, _, _⟩) (v := ?_) rfl (by kernel_rfl) (by kernel_rfl) (by kernel_rfl) (fun _ _ _ h => h) (Or.inl ⟨by rfl, ?_⟩) hS ?_
          rotate_left 1
          focus ((intro W' hS'; have q1 := keep_cell hS' f2 hl1; go_simp) <;> with_reducible rfl)
          try simp only [Act.put, List.setIfInBounds_toArray, List.set_cons_zero, List.set_cons_succ]
          refine wpAnyH_take (i := 3) (oi := ⟨some 26, _, _, _, _, _⟩) (v := ?_) rfl (by kernel_rfl) (by kernel_rfl) (by kernel_rfl) (fun _ _ _ h => h) (Or.inl ⟨by rfl, ?_⟩) hS ?_
          rotate_left 1
          focus ((intro W' hS'; go_simp) <;> with_reducible rfl)
          try simp only [Act.put, List.setIfInBounds_toArray, List.set_cons_zero, List.set_cons_succ]
          refine wpAnyH_take (i := 6) (oi := ⟨some 29, _, _, _, _, _⟩) (v := ?_) rfl (by kernel_rfl) (by kernel_rfl) (by kernel_rfl) (fun _ _ _ h => h) (Or.inl ⟨by rfl, ?_⟩) hS ?_
          rotate_left 1
          focus ((intro W' hS'; go_simp) <;> with_reducible rfl)
          try simp only [Act.put, List.setIfInBounds_toArray, List.set_cons_zero, List.set_cons_succ]
          refine wpAnyH_take (i := 7) (oi := ⟨some 30, _, _, _, _, _⟩) (v := ?_) rfl (by kernel_rfl) (by kernel_rfl) (by kernel_rfl) (fun _ _ _ h => h) (Or.inl ⟨by rfl, ?_⟩) hS ?_
          rotate_left 1
          focus ((intro W' hS'; have q1 := keep_cell hS' f4 hl1; go_simp) <;> with_reducible rfl)
          try simp only [Act.put, List.setIfInBounds_toArray, List.set_cons_zero, List.set_cons_succ]
          refine wpAnyH_take (i := 8) (oi := ⟨some 31, _, _, _, _, _⟩) (v := ?_) rfl (by kernel_rfl) (by kernel_rfl) (by kernel_rfl) (fun _ _ _ h => h) (Or.inl ⟨by rfl, ?_⟩) hS ?_
          rotate_left 1
          focus ((intro W' hS'; have q1 := HWI.out; go_simp) <;> with_reducible rfl)
          try simp only [Act.put, List.setIfInBounds_toArray, List.set_cons_zero, List.set_cons_succ]
          refine anyH_three (i := 2) (j := 4) (l := 9) (by kernel_rfl) (op_in ⟨some 25, _, _, _, _, _⟩ rfl (by rfl) ?_) (op_in ⟨some 27, _, _, _, _, _⟩ rfl (by rfl) ?_) (op_in ⟨some 32, _, _, _, _, _⟩ rfl (by rfl) ?_)
          · refine wp_litF 26 5 2 _ rfl #[(0, .int .u8 (p.proto.toNat : Int)), (1, .int .u8 0)] (by simp [Act.eval]) _ (lit8_2 _ _) ?_
            intro u h hb s
            clear s
            try have r25 := r25.below hb
            try have n27 := n27.below hb
            try have r28 := r28.below hb
            try have n32 := n32.below hb
            have hS2 := hS.trans (hb.mono hS.size)
            refine ⟨hS2, ?_⟩
            clear hS
            have hS := hS2
            clear hS2
            try simp only [Act.put, List.setIfInBounds_toArray, List.set_cons_zero, List.set_cons_succ]
            have r25 : RB u (.slice (some ⟨_, 0, none⟩) 2 2) [p.proto, 0] := RB.lit h rfl (by omega) rfl
            clear hb h
            refine anyH_two (i := 4) (j := 9) (by kernel_rfl) (op_in ⟨some 27, _, _, _, _, _⟩ rfl (by rfl) ?_) (op_in ⟨some 32, _, _, _, _, _⟩ rfl (by rfl) ?_)
            · refine wp_litF 52 49 1 _ rfl #[(0, .int .u64 p.off)] (by simp [Act.eval]) _ (lit64_1 _) ?_
              intro u h hb s
              clear s
              try have r25 := r25.below hb
              try have n27 := n27.below hb
              try have r28 := r28.below hb
              try have n32 := n32.below hb
              have hS2 := hS.trans (hb.mono hS.size)
              refine ⟨hS2, ?_⟩
              clear hS
              have hS := hS2
              clear hS2
              try simp only [Act.put, List.setIfInBounds_toArray, List.set_cons_zero, List.set_cons_succ]
              have n27 := (by rw [HOV.out] at h; exact RN.lit1 h (by omega) : RN _ _ [UInt64.ofNat (of_ + mo)])
              clear hb h
              refine anyH_two (i := 5) (j := 9) (by kernel_rfl) (op_in ⟨some 28, _, _, _, _, _⟩ rfl (by rfl) ?_) (op_in ⟨some 32, _, _, _, _, _⟩ rfl (by rfl) ?_)
              · go_simp
                with_reducible refine Calls.mono (HP2.out _ _ _ r25 n27) ?_
                rintro e u ⟨A, k, rfl, o28, hb⟩
                try have r25 := r25.below hb
                try have n27 := n27.below hb
                try have r28 := r28.below hb
                try have n32 := n32.below hb
                have hS2 := hS.trans (hb.mono hS.size)
                refine ⟨hS2, ?_⟩
                clear hS
                have hS := hS2
                clear hS2
                try simp only [Act.put, List.setIfInBounds_toArray, List.set_cons_zero, List.set_cons_succ]
                have r28 := o28.rb
                clear hb o28
                refine anyH_one (i := 9) (by kernel_rfl) ⟨some 32, _, _, _, _, _⟩ rfl (by rfl) ?_
                refine wp_litF 52 49 1 _ rfl #[(0, .int .u64 (p.id : Int))] (by simp [Act.eval]) _ (lit64_1 _) ?_
                intro u h hb s
                clear s
                try have r25 := r25.below hb
                try have n27 := n27.below hb
                try have r28 := r28.below hb
                try have n32 := n32.below hb
                have hS2 := hS.trans (hb.mono hS.size)
                refine ⟨hS2, ?_⟩
                clear hS
                have hS := hS2
                clear hS2
                try simp only [Act.put, List.setIfInBounds_toArray, List.set_cons_zero, List.set_cons_succ]
                have n32 := RN.lit1 (x := p.id) h (by omega)
                clear hb h
                refine anyH_one (i := 10) (by kernel_rfl) ⟨some 33, _, _, _, _, _⟩ rfl (by rfl) ?_
                go_simp
                with_reducible refine Calls.mono (HP3.out _ _ _ r28 n32) ?_
                rintro e u ⟨A, k, rfl, o33, hb⟩
                have o33 := o33.lower hS.size
                try have r25 := r25.below hb
                try have n27 := n27.below hb
                try have r28 := r28.below hb
                try have n32 := n32.below hb
                have hS2 := hS.trans (hb.mono hS.size)
                refine ⟨hS2, ?_⟩
                clear hS
                have hS := hS2
                clear hS2
                try simp only [Act.put, List.setIfInBounds_toArray, List.set_cons_zero, List.set_cons_succ]
                clear hb
                refine wpAnyH_take (i := 11) (oi := ⟨some 4, _, _, _, _, _⟩) (v := ?_) rfl (by kernel_rfl) (by kernel_rfl) (by kernel_rfl) (fun _ _ _ h => h) (Or.inl ⟨by rfl, ?_⟩) hS ?_
                rotate_left 1
                focus ((intro W' hS'; go_simp) <;> with_reducible rfl)
                try simp only [Act.put, List.setIfInBounds_toArray, List.set_cons_zero, List.set_cons_succ]
                refine wpAnyH_done (by kernel_rfl) ?_ _
                go_wp2_with fail
                go_meet
                exact ⟨A, k, rfl, o33, hS⟩
              · refine wp_litF 52 49 1 _ rfl #[(0, .int .u64 (p.id : Int))] (by simp [Act.eval]) _ (lit64_1 _) ?_
                intro u h hb s
                clear s
                try have r25 := r25.below hb
                try have n27 := n27.below hb
                try have r28 := r28.below hb
                try have n32 := n32.below hb
                have hS2 := hS.trans (hb.mono hS.size)
                refine ⟨hS2, ?_⟩
                clear hS
                have hS := hS2
                clear hS2
                try simp only [Act.put, List.setIfInBounds_toArray, List.set_cons_zero, List.set_cons_succ]
                have n32 := RN.lit1 (x := p.id) h (by omega)
                clear hb h
                refine anyH_one (i := 5) (by kernel_rfl) ⟨some 28, _, _, _, _, _⟩ rfl (by rfl) ?_
                go_simp
                with_reducible refine Calls.mono (HP2.out _ _ _ r25 n27) ?_
                rintro e u ⟨A, k, rfl, o28, hb⟩
                try have r25 := r25.below hb
                try have n27 := n27.below hb
                try have r28 := r28.below hb
                try have n32 := n32.below hb
                have hS2 := hS.trans (hb.mono hS.size)
                refine ⟨hS2, ?_⟩
                clear hS
                have hS := hS2
                clear hS2
                try simp only [Act.put, List.setIfInBounds_toArray, List.set_cons_zero, List.set_cons_succ]
                have r28 := o28.rb
                clear hb o28
                refine anyH_one (i := 10) (by kernel_rfl) ⟨some 33, _, _, _, _, _⟩ rfl (by rfl) ?_
                go_simp
                with_reducible refine Calls.mono (HP3.out _ _ _ r28 n32) ?_
                rintro e u ⟨A, k, rfl, o33, hb⟩
                have o33 := o33.lower hS.size
                try have r25 := r25.below hb
                try have n27 := n27.below hb
                try have r28 := r28.below hb
                try have n32 := n32.below hb
                have hS2 := hS.trans (hb.mono hS.size)
                refine ⟨hS2, ?_⟩
                clear hS
                have hS := hS2
                clear hS2
                try simp only [Act.put, List.setIfInBounds_toArray, List.set_cons_zero, List.set_cons_succ]
                clear hb
                refine wpAnyH_take (i := 11) (oi := ⟨some 4, _, _, _, _, _⟩) (v := ?_) rfl (by kernel_rfl) (by kernel_rfl) (by kernel_rfl) (fun _ _ _ h => h) (Or.inl ⟨by rfl, ?_⟩) hS ?_
                rotate_left 1
                focus ((intro W' hS'; go_simp) <;> with_reducible rfl)
                try simp only [Act.put, List.setIfInBounds_toArray, List.set_cons_zero, List.set_cons_succ]
                refine wpAnyH_done (by kernel_rfl) ?_ _
                go_wp2_with fail
                go_meet
                exact ⟨A, k, rfl, o33, hS⟩
            · refine wp_litF 52 49 1 _ rfl #[(0, .int .u64 (p.id : Int))] (by simp [Act.eval]) _ (lit64_1 _) ?_
              intro u h hb s
              clear s
              try have r25 := r25.below hb
              try have n27 := n27.below hb
              try have r28 := r28.below hb
              try have n32 := n32.below hb
              have hS2 := hS.trans (hb.mono hS.size)
              refine ⟨hS2, ?_⟩
              clear hS
              have hS := hS2
              clear hS2
              try simp only [Act.put, List.setIfInBounds_toArray, List.set_cons_zero, List.set_cons_succ]
              have n32 := RN.lit1 (x := p.id) h (by omega)
              clear hb h
              refine anyH_one (i := 4) (by kernel_rfl) ⟨some 27, _, _, _, _, _⟩ rfl (by rfl) ?_
              refine wp_litF 52 49 1 _ rfl #[(0, .int .u64 p.off)] (by simp [Act.eval]) _ (lit64_1 _) ?_
              intro u h hb s
              clear s
              try have r25 := r25.below hb
              try have n27 := n27.below hb
              try have r28 := r28.below hb
              try have n32 := n32.below hb
              have hS2 := hS.trans (hb.mono hS.size)
              refine ⟨hS2, ?_⟩
              clear hS
              have hS := hS2
              clear hS2
              try simp only [Act.put, List.setIfInBounds_toArray, List.set_cons_zero, List.set_cons_succ]
              have n27 := (by rw [HOV.out] at h; exact RN.lit1 h (by omega) : RN _ _ [UInt64.ofNat (of_ + mo)])
              clear hb h
              refine anyH_one (i := 5) (by kernel_rfl) ⟨some 28, _, _, _, _, _⟩ rfl (by rfl) ?_
              go_simp
              with_reducible refine Calls.mono (HP2.out _ _ _ r25 n27) ?_
              rintro e u ⟨A, k, rfl, o28, hb⟩
              try have r25 := r25.below hb
              try have n27 := n27.below hb
              try have r28 := r28.below hb
              try have n32 := n32.below hb
              have hS2 := hS.trans (hb.mono hS.size)
              refine ⟨hS2, ?_⟩
              clear hS
              have hS := hS2
              clear hS2
              try simp only [Act.put, List.setIfInBounds_toArray, List.set_cons_zero, List.set_cons_succ]
              have r28 := o28.rb
              clear hb o28
              refine anyH_one (i := 10) (by kernel_rfl) ⟨some 33, _, _, _, _, _⟩ rfl (by rfl) ?_
              go_simp
              with_reducible refine Calls.mono (HP3.out _ _ _ r28 n32) ?_
              rintro e u ⟨A, k, rfl, o33, hb⟩
              have o33 := o33.lower hS.size
              try have r25 := r25.below hb
              try have n27 := n27.below hb
              try have r28 := r28.below hb
              try have n32 := n32.below hb
              have hS2 := hS.trans (hb.mono hS.size)
              refine ⟨hS2, ?_⟩
              clear hS
              have hS := hS2
              clear hS2
              try simp only [Act.put, List.setIfInBounds_toArray, List.set_cons_zero, List.set_cons_succ]
              clear hb
              refine wpAnyH_take (i := 11) (oi := ⟨some 4, _, _, _, _, _⟩) (v := ?_) rfl (by kernel_rfl) (by kernel_rfl) (by kernel_rfl) (fun _ _ _ h => h) (Or.inl ⟨by rfl, ?_⟩) hS ?_
              rotate_left 1
              focus ((intro W' hS'; go_simp) <;> with_reducible rfl)
              try simp only [Act.put, List.setIfInBounds_toArray, List.set_cons_zero, List.set_cons_succ]
              refine wpAnyH_done (by kernel_rfl) ?_ _
              go_wp2_with fail
              go_meet
              exact ⟨A, k, rfl, o33, hS⟩
          · refine wp_litF 52 49 1 _ rfl #[(0, .int .u64 p.off)] (by simp [Act.eval]) _ (lit64_1 _) ?_
            intro u h hb s
            clear s
            try have r25 := r25.below hb
            try have n27 := n27.below hb
            try have r28 := r28.below hb
            try have n32 := n32.below hb
            have hS2 := hS.trans (hb.mono hS.size)
            refine ⟨hS2, ?_⟩
            clear hS
            have hS := hS2
            clear hS2
            try simp only [Act.put, List.setIfInBounds_toArray, List.set_cons_zero, List.set_cons_succ]
            have n27 := (by rw [HOV.out] at h; exact RN.lit1 h (by omega) : RN _ _ [UInt64.ofNat (of_ + mo)])
            clear hb h
            refine anyH_two (i := 2) (j := 9) (by kernel_rfl) (op_in ⟨some 25, _, _, _, _, _⟩ rfl (by rfl) ?_) (op_in ⟨some 32, _, _, _, _, _⟩ rfl (by rfl) ?_)
            · refine wp_litF 26 5 2 _ rfl #[(0, .int .u8 (p.proto.toNat : Int)), (1, .int .u8 0)] (by simp [Act.eval]) _ (lit8_2 _ _) ?_
              intro u h hb s
              clear s
              try have r25 := r25.below hb
              try have n27 := n27.below hb
              try have r28 := r28.below hb
              try have n32 := n32.below hb
              have hS2 := hS.trans (hb.mono hS.size)
              refine ⟨hS2, ?_⟩
              clear hS
              have hS := hS2
              clear hS2
              try simp only [Act.put, List.setIfInBounds_toArray, List.set_cons_zero, List.set_cons_succ]
              have r25 : RB u (.slice (some ⟨_, 0, none⟩) 2 2) [p.proto, 0] := RB.lit h rfl (by omega) rfl
              clear hb h
              refine anyH_two (i := 5) (j := 9) (by kernel_rfl) (op_in ⟨some 28, _, _, _, _, _⟩ rfl (by rfl) ?_) (op_in ⟨some 32, _, _, _, _, _⟩ rfl (by rfl) ?_)
              · go_simp
                with_reducible refine Calls.mono (HP2.out _ _ _ r25 n27) ?_
                rintro e u ⟨A, k, rfl, o28, hb⟩
                try have r25 := r25.below hb
                try have n27 := n27.below hb
                try have r28 := r28.below hb
                try have n32 := n32.below hb
                have hS2 := hS.trans (hb.mono hS.size)
                refine ⟨hS2, ?_⟩
                clear hS
                have hS := hS2
                clear hS2
                try simp only [Act.put, List.setIfInBounds_toArray, List.set_cons_zero, List.set_cons_succ]
                have r28 := o28.rb
                clear hb o28
                refine anyH_one (i := 9) (by kernel_rfl) ⟨some 32, _, _, _, _, _⟩ rfl (by rfl) ?_
                refine wp_litF 52 49 1 _ rfl #[(0, .int .u64 (p.id : Int))] (by simp [Act.eval]) _ (lit64_1 _) ?_
                intro u h hb s
                clear s
                try have r25 := r25.below hb
                try have n27 := n27.below hb
                try have r28 := r28.below hb
                try have n32 := n32.below hb
                have hS2 := hS.trans (hb.mono hS.size)
                refine ⟨hS2, ?_⟩
                clear hS
                have hS := hS2
                clear hS2
                try simp only [Act.put, List.setIfInBounds_toArray, List.set_cons_zero, List.set_cons_succ]
                have n32 := RN.lit1 (x := p.id) h (by omega)
                clear hb h
                refine anyH_one (i := 10) (by kernel_rfl) ⟨some 33, _, _, _, _, _⟩ rfl (by rfl) ?_
                go_simp
                with_reducible refine Calls.mono (HP3.out _ _ _ r28 n32) ?_
                rintro e u ⟨A, k, rfl, o33, hb⟩
                have o33 := o33.lower hS.size
                try have r25 := r25.below hb
                try have n27 := n27.below hb
                try have r28 := r28.below hb
                try have n32 := n32.below hb
                have hS2 := hS.trans (hb.mono hS.size)
                refine ⟨hS2, ?_⟩
                clear hS
                have hS := hS2
                clear hS2
                try simp only [Act.put, List.setIfInBounds_toArray, List.set_cons_zero, List.set_cons_succ]
                clear hb
                refine wpAnyH_take (i := 11) (oi := ⟨some 4, _, _, _, _, _⟩) (v := ?_) rfl (by kernel_rfl) (by kernel_rfl) (by kernel_rfl) (fun _ _ _ h => h) (Or.inl ⟨by rfl, ?_⟩) hS ?_
                rotate_left 1
                focus ((intro W' hS'; go_simp) <;> with_reducible rfl)
                try simp only [Act.put, List.setIfInBounds_toArray, List.set_cons_zero, List.set_cons_succ]
                refine wpAnyH_done (by kernel_rfl) ?_ _
                go_wp2_with fail
                go_meet
                exact ⟨A, k, rfl, o33, hS⟩
              · refine wp_litF 52 49 1 _ rfl #[(0, .int .u64 (p.id : Int))] (by simp [Act.eval]) _ (lit64_1 _) ?_
                intro u h hb s
                clear s
                try have r25 := r25.below hb
                try have n27 := n27.below hb
                try have r28 := r28.below hb
                try have n32 := n32.below hb
                have hS2 := hS.trans (hb.mono hS.size)
                refine ⟨hS2, ?_⟩
                clear hS
                have hS := hS2
                clear hS2
                try simp only [Act.put, List.setIfInBounds_toArray, List.set_cons_zero, List.set_cons_succ]
                have n32 := RN.lit1 (x := p.id) h (by omega)
                clear hb h
                refine anyH_one (i := 5) (by kernel_rfl) ⟨some 28, _, _, _, _, _⟩ rfl (by rfl) ?_
                go_simp
                with_reducible refine Calls.mono (HP2.out _ _ _ r25 n27) ?_
                rintro e u ⟨A, k, rfl, o28, hb⟩
                try have r25 := r25.below hb
                try have n27 := n27.below hb
                try have r28 := r28.below hb
                try have n32 := n32.below hb
                have hS2 := hS.trans (hb.mono hS.size)
                refine ⟨hS2, ?_⟩
                clear hS
                have hS := hS2
                clear hS2
                try simp only [Act.put, List.setIfInBounds_toArray, List.set_cons_zero, List.set_cons_succ]
                have r28 := o28.rb
                clear hb o28
                refine anyH_one (i := 10) (by kernel_rfl) ⟨some 33, _, _, _, _, _⟩ rfl (by rfl) ?_
                go_simp
                with_reducible refine Calls.mono (HP3.out _ _ _ r28 n32) ?_
                rintro e u ⟨A, k, rfl, o33, hb⟩
                have o33 := o33.lower hS.size
                try have r25 := r25.below hb
                try have n27 := n27.below hb
                try have r28 := r28.below hb
                try have n32 := n32.below hb
                have hS2 := hS.trans (hb.mono hS.size)
                refine ⟨hS2, ?_⟩
                clear hS
                have hS := hS2
                clear hS2
                try simp only [Act.put, List.setIfInBounds_toArray, List.set_cons_zero, List.set_cons_succ]
                clear hb
                refine wpAnyH_take (i := 11) (oi := ⟨some 4, _, _, _, _, _⟩) (v := ?_) rfl (by kernel_rfl) (by kernel_rfl) (by kernel_rfl) (fun _ _ _ h => h) (Or.inl ⟨by rfl, ?_⟩) hS ?_
                rotate_left 1
                focus ((intro W' hS'; go_simp) <;> with_reducible rfl)
                try simp only [Act.put, List.setIfInBounds_toArray, List.set_cons_zero, List.set_cons_succ]
                refine wpAnyH_done (by kernel_rfl) ?_ _
                go_wp2_with fail
                go_meet
                exact ⟨A, k, rfl, o33, hS⟩
            · refine wp_litF 52 49 1 _ rfl #[(0, .int .u64 (p.id : Int))] (by simp [Act.eval]) _ (lit64_1 _) ?_
              intro u h hb s
              clear s
              try have r25 := r25.below hb
              try have n27 := n27.below hb
              try have r28 := r28.below hb
              try have n32 := n32.below hb
              have hS2 := hS.trans (hb.mono hS.size)
              refine ⟨hS2, ?_⟩
              clear hS
              have hS := hS2
              clear hS2
              try simp only [Act.put, List.setIfInBounds_toArray, List.set_cons_zero, List.set_cons_succ]
              have n32 := RN.lit1 (x := p.id) h (by omega)
              clear hb h
              refine anyH_one (i := 2) (by kernel_rfl) ⟨some 25, _, _, _, _, _⟩ rfl (by rfl) ?_
              refine wp_litF 26 5 2 _ rfl #[(0, .int .u8 (p.proto.toNat : Int)), (1, .int .u8 0)] (by simp [Act.eval]) _ (lit8_2 _ _) ?_
              intro u h hb s
              clear s
              try have r25 := r25.below hb
              try have n27 := n27.below hb
              try have r28 := r28.below hb
              try have n32 := n32.below hb
              have hS2 := hS.trans (hb.mono hS.size)
              refine ⟨hS2, ?_⟩
              clear hS
              have hS := hS2
              clear hS2
              try simp only [Act.put, List.setIfInBounds_toArray, List.set_cons_zero, List.set_cons_succ]
              have r25 : RB u (.slice (some ⟨_, 0, none⟩) 2 2) [p.proto, 0] := RB.lit h rfl (by omega) rfl
              clear hb h
              refine anyH_one (i := 5) (by kernel_rfl) ⟨some 28, _, _, _, _, _⟩ rfl (by rfl) ?_
              go_simp
              with_reducible refine Calls.mono (HP2.out _ _ _ r25 n27) ?_
              rintro e u ⟨A, k, rfl, o28, hb⟩
              try have r25 := r25.below hb
              try have n27 := n27.below hb
              try have r28 := r28.below hb
              try have n32 := n32.below hb
              have hS2 := hS.trans (hb.mono hS.size)
              refine ⟨hS2, ?_⟩
              clear hS
              have hS := hS2
              clear hS2
              try simp only [Act.put, List.setIfInBounds_toArray, List.set_cons_zero, List.set_cons_succ]
              have r28 := o28.rb
              clear hb o28
              refine anyH_one (i := 10) (by kernel_rfl) ⟨some 33, _, _, _, _, _⟩ rfl (by rfl) ?_
              go_simp
              with_reducible refine Calls.mono (HP3.out _ _ _ r28 n32) ?_
              rintro e u ⟨A, k, rfl, o33, hb⟩
              have o33 := o33.lower hS.size
              try have r25 := r25.below hb
              try have n27 := n27.below hb
              try have r28 := r28.below hb
              try have n32 := n32.below hb
              have hS2 := hS.trans (hb.mono hS.size)
              refine ⟨hS2, ?_⟩
              clear hS
              have hS := hS2
              clear hS2
              try simp only [Act.put, List.setIfInBounds_toArray, List.set_cons_zero, List.set_cons_succ]
              clear hb
              refine wpAnyH_take (i := 11) (oi := ⟨some 4, _, _, _, _, _⟩) (v := ?_) rfl (by kernel_rfl) (by kernel_rfl) (by kernel_rfl) (fun _ _ _ h => h) (Or.inl ⟨by rfl, ?_⟩) hS ?_
              rotate_left 1
              focus ((intro W' hS'; go_simp) <;> with_reducible rfl)
              try simp only [Act.put, List.setIfInBounds_toArray, List.set_cons_zero, List.set_cons_succ]
              refine wpAnyH_done (by kernel_rfl) ?_ _
              go_wp2_with fail
              go_meet
              exact ⟨A, k, rfl, o33, hS⟩
          · refine wp_litF 52 49 1 _ rfl #[(0, .int .u64 (p.id : Int))] (by simp [Act.eval]) _ (lit64_1 _) ?_
            intro u h hb s
            clear s
            try have r25 := r25.below hb
            try have n27 := n27.below hb
            try have r28 := r28.below hb
            try have n32 := n32.below hb
            have hS2 := hS.trans (hb.mono hS.size)
            refine ⟨hS2, ?_⟩
            clear hS
            have hS := hS2
            clear hS2
            try simp only [Act.put, List.setIfInBounds_toArray, List.set_cons_zero, List.set_cons_succ]
            have n32 := RN.lit1 (x := p.id) h (by omega)
            clear hb h
            refine anyH_two (i := 2) (j := 4) (by kernel_rfl) (op_in ⟨some 25, _, _, _, _, _⟩ rfl (by rfl) ?_) (op_in ⟨some 27, _, _, _, _, _⟩ rfl (by rfl) ?_)
            · refine wp_litF 26 5 2 _ rfl #[(0, .int .u8 (p.proto.toNat : Int)), (1, .int .u8 0)] (by simp [Act.eval]) _ (lit8_2 _ _) ?_
              intro u h hb s
              clear s
              try have r25 := r25.below hb
              try have n27 := n27.below hb
              try have r28 := r28.below hb
              try have n32 := n32.below hb
              have hS2 := hS.trans (hb.mono hS.size)
              refine ⟨hS2, ?_⟩
              clear hS
              have hS := hS2
              clear hS2
              try simp only [Act.put, List.setIfInBounds_toArray, List.set_cons_zero, List.set_cons_succ]
              have r25 : RB u (.slice (some ⟨_, 0, none⟩) 2 2) [p.proto, 0] := RB.lit h rfl (by omega) rfl
              clear hb h
              refine anyH_one (i := 4) (by kernel_rfl) ⟨some 27, _, _, _, _, _⟩ rfl (by rfl) ?_
              refine wp_litF 52 49 1 _ rfl #[(0, .int .u64 p.off)] (by simp [Act.eval]) _ (lit64_1 _) ?_
              intro u h hb s
              clear s
              try have r25 := r25.below hb
              try have n27 := n27.below hb
              try have r28 := r28.below hb
              try have n32 := n32.below hb
              have hS2 := hS.trans (hb.mono hS.size)
              refine ⟨hS2, ?_⟩
              clear hS
              have hS := hS2
              clear hS2
              try simp only [Act.put, List.setIfInBounds_toArray, List.set_cons_zero, List.set_cons_succ]
              have n27 := (by rw [HOV.out] at h; exact RN.lit1 h (by omega) : RN _ _ [UInt64.ofNat (of_ + mo)])
              clear hb h
              refine anyH_one (i := 5) (by kernel_rfl) ⟨some 28, _, _, _, _, _⟩ rfl (by rfl) ?_
              go_simp
              with_reducible refine Calls.mono (HP2.out _ _ _ r25 n27) ?_
              rintro e u ⟨A, k, rfl, o28, hb⟩
              try have r25 := r25.below hb
              try have n27 := n27.below hb
              try have r28 := r28.below hb
              try have n32 := n32.below hb
              have hS2 := hS.trans (hb.mono hS.size)
              refine ⟨hS2, ?_⟩
              clear hS
              have hS := hS2
              clear hS2
              try simp only [Act.put, List.setIfInBounds_toArray, List.set_cons_zero, List.set_cons_succ]
              have r28 := o28.rb
              clear hb o28
              refine anyH_one (i := 10) (by kernel_rfl) ⟨some 33, _, _, _, _, _⟩ rfl (by rfl) ?_
              go_simp
              with_reducible refine Calls.mono (HP3.out _ _ _ r28 n32) ?_
              rintro e u ⟨A, k, rfl, o33, hb⟩
              have o33 := o33.lower hS.size
              try have r25 := r25.below hb
              try have n27 := n27.below hb
              try have r28 := r28.below hb
              try have n32 := n32.below hb
              have hS2 := hS.trans (hb.mono hS.size)
              refine ⟨hS2, ?_⟩
              clear hS
              have hS := hS2
              clear hS2
              try simp only [Act.put, List.setIfInBounds_toArray, List.set_cons_zero, List.set_cons_succ]
              clear hb
              refine wpAnyH_take (i := 11) (oi := ⟨some 4, _, _, _, _, _⟩) (v := ?_) rfl (by kernel_rfl) (by kernel_rfl) (by kernel_rfl) (fun _ _ _ h => h) (Or.inl ⟨by rfl, ?_⟩) hS ?_
              rotate_left 1
              focus ((intro W' hS'; go_simp) <;> with_reducible rfl)
              try simp only [Act.put, List.setIfInBounds_toArray, List.set_cons_zero, List.set_cons_succ]
              refine wpAnyH_done (by kernel_rfl) ?_ _
              go_wp2_with fail
              go_meet
              exact ⟨A, k, rfl, o33, hS⟩
            · refine wp_litF 52 49 1 _ rfl #[(0, .int .u64 p.off)] (by simp [Act.eval]) _ (lit64_1 _) ?_
              intro u h hb s
              clear s
              try have r25 := r25.below hb
              try have n27 := n27.below hb
              try have r28 := r28.below hb
              try have n32 := n32.below hb
              have hS2 := hS.trans (hb.mono hS.size)
              refine ⟨hS2, ?_⟩
              clear hS
              have hS := hS2
              clear hS2
              try simp only [Act.put, List.setIfInBounds_toArray, List.set_cons_zero, List.set_cons_succ]
              have n27 := (by rw [HOV.out] at h; exact RN.lit1 h (by omega) : RN _ _ [UInt64.ofNat (of_ + mo)])
              clear hb h
              refine anyH_one (i := 2) (by kernel_rfl) ⟨some 25, _, _, _, _, _⟩ rfl (by rfl) ?_
              refine wp_litF 26 5 2 _ rfl #[(0, .int .u8 (p.proto.toNat : Int)), (1, .int .u8 0)] (by simp [Act.eval]) _ (lit8_2 _ _) ?_
              intro u h hb s
              clear s
              try have r25 := r25.below hb
              try have n27 := n27.below hb
              try have r28 := r28.below hb
              try have n32 := n32.below hb
              have hS2 := hS.trans (hb.mono hS.size)
              refine ⟨hS2, ?_⟩
              clear hS
              have hS := hS2
              clear hS2
              try simp only [Act.put, List.setIfInBounds_toArray, List.set_cons_zero, List.set_cons_succ]
              have r25 : RB u (.slice (some ⟨_, 0, none⟩) 2 2) [p.proto, 0] := RB.lit h rfl (by omega) rfl
              clear hb h
              refine anyH_one (i := 5) (by kernel_rfl) ⟨some 28, _, _, _, _, _⟩ rfl (by rfl) ?_
              go_simp
              with_reducible refine Calls.mono (HP2.out _ _ _ r25 n27) ?_
              rintro e u ⟨A, k, rfl, o28, hb⟩
              try have r25 := r25.below hb
              try have n27 := n27.below hb
              try have r28 := r28.below hb
              try have n32 := n32.below hb
              have hS2 := hS.trans (hb.mono hS.size)
              refine ⟨hS2, ?_⟩
              clear hS
              have hS := hS2
              clear hS2
              try simp only [Act.put, List.setIfInBounds_toArray, List.set_cons_zero, List.set_cons_succ]
              have r28 := o28.rb
              clear hb o28
              refine anyH_one (i := 10) (by kernel_rfl) ⟨some 33, _, _, _, _, _⟩ rfl (by rfl) ?_
              go_simp
              with_reducible refine Calls.mono (HP3.out _ _ _ r28 n32) ?_
              rintro e u ⟨A, k, rfl, o33, hb⟩
              have o33 := o33.lower hS.size
              try have r25 := r25.below hb
              try have n27 := n27.below hb
              try have r28 := r28.below hb
              try have n32 := n32.below hb
              have hS2 := hS.trans (hb.mono hS.size)
              refine ⟨hS2, ?_⟩
              clear hS
              have hS := hS2
              clear hS2
              try simp only [Act.put, List.setIfInBounds_toArray, List.set_cons_zero, List.set_cons_succ]
              clear hb
              refine wpAnyH_take (i := 11) (oi := ⟨some 4, _, _, _, _, _⟩) (v := ?_) rfl (by kernel_rfl) (by kernel_rfl) (by kernel_rfl) (fun _ _ _ h => h) (Or.inl ⟨by rfl, ?_⟩) hS ?_
              rotate_left 1
              focus ((intro W' hS'; go_simp) <;> with_reducible rfl)
              try simp only [Act.put, List.setIfInBounds_toArray, List.set_cons_zero, List.set_cons_succ]
              refine wpAnyH_done (by kernel_rfl) ?_ _
              go_wp2_with fail
              go_meet
              exact ⟨A, k, rfl, o33, hS⟩
        case rest =>
          obtain ⟨A4, k4, rfl, o4f, hbc⟩ := hcut
          rw [LF.out] at o4f ⊢
          skip
          go_upto_region 12 with (first
            | ((with_reducible refine at_slot 34 ?_); refine wpList_litF rfl 26 5 4 _ rfl #[(0, .int .u8 96), (1, .int .u8 0), (2, .int .u8 0), (3, .int .u8 0)] (by simp [Act.eval]) _ (lit8_4 _ _ _ _) ?_; intro u4 h4 hb4 s4; clear s4; have q8 := keep_cell (hbc.trans (hb4.mono hbc.size)) f8 hl1)
            | ((with_reducible refine at_slot 42 ?_); refine wpList_litF rfl 52 49 1 _ rfl #[(0, .int .u64 ((8 : Int) + (p.load.length : Int)))] (by simp [Act.eval]) _ (lit64_1 _) ?_; intro u5 h5 hb5 s5; clear s5; rw [HSZ.out] at h5)
            | (go_at_call 24; (with_reducible refine Calls.mono (HP1.out u5 _ _ (RB.below (RB.lit h4 rfl (by omega) rfl) hb5) (RN.lit1 h5 (by omega))) ?_); rintro e u6 ⟨A6, k6, rfl, o7, hb6⟩))
          have hub' := (hbc.trans (hb4.mono hbc.size)).trans (hb5.mono (Nat.le_trans hbc.size hb4.size))
          have hub := hub'
          obtain ⟨bs, hbs⟩ : ∃ bs, bs = u5.heap.size := ⟨_, rfl⟩
          have hbs1 : w1.heap.size ≤ bs := by rw [hbs]; exact hub.size
          have HFB : Hid (∀ W, Below bs u5 W → RB W (.slice A4 8 k4) FR) := fun W hW => ((o4f.below hb4).below hb5).rb.below (by rw [← hbs]; exact hW)
          rw [← hbs] at o7 hb6
          have hz6 : bs ≤ u6.heap.size := by have := hb6.size; omega
          clear hbs h4 h5 hb4 hb5 hub' o4f
          have o7 : OB { u6 with drawn := u6.drawn + 1 } bs (.slice A6 M0.length k6) M0 := o7
          have hz6 : bs ≤ ({ u6 with drawn := u6.drawn + 1 } : World).heap.size := hz6
          refine wp_region_hand (fun W' => Below bs u5 W') (by kernel_rfl) (below_drewN hb6 1) ?_
          intro hS
          clear hb6
          generalize ({ u6 with drawn := u6.drawn + 1 } : World) = u7 at hS o7 hz6 ⊢
          refine wpAnyH_take (i := 0) (oi := ⟨some 44, _, _, _, _, _⟩) (v := ?_) rfl (by kernel_rfl) (by kernel_rfl) (by kernel_rfl) (fun _ _ _ h => h) (Or.inl ⟨by rfl, ?_⟩) hS ?_
          rotate_left 1
          focus ((intro W' hS'; go_simp) <;> with_reducible rfl)
          try simp only [Act.put, List.setIfInBounds_toArray, List.set_cons_zero, List.set_cons_succ]
          refine wpAnyH_take (i := 1) (oi := ⟨some 45, _, _, _, _, _⟩) (v := ?_) rfl (by kernel_rfl) (by kernel_rfl) (by kernel_rfl) (fun _ _ _ h => h) (Or.inl ⟨by rfl, ?_⟩) hS ?_
          rotate_left 1
          focus ((intro W' hS'; go_simp) <;> with_reducible rfl)
          try simp only [Act.put, List.setIfInBounds_toArray, List.set_cons_zero, List.set_cons_succ]
          refine wpAnyH_take (i := 2) (oi := ⟨some 46, _, _, _, _, _⟩) (v := ?_) rfl (by kernel_rfl) (by kernel_rfl) (by kernel_rfl) (fun _ _ _ h => h) (Or.inl ⟨by rfl, ?_⟩) hS ?_
          rotate_left 1
          focus ((intro W' hS'; go_simp) <;> with_reducible rfl)
          try simp only [Act.put, List.setIfInBounds_toArray, List.set_cons_zero, List.set_cons_succ]
          refine wpAnyH_take (i := 3) (oi := ⟨some 47, _, _, _, _, _⟩) (v := ?_) rfl (by kernel_rfl) (by kernel_rfl) (by kernel_rfl) (fun _ _ _ h => h) (Or.inl ⟨by rfl, ?_⟩) hS ?_
          rotate_left 1
          focus ((intro W' hS'; have q1 := keep_cell (hub.trans (hS'.mono hbs1)) f3 hl1; go_simp) <;> with_reducible rfl)
          try simp only [Act.put, List.setIfInBounds_toArray, List.set_cons_zero, List.set_cons_succ]
          refine wpAnyH_take (i := 6) (oi := ⟨some 50, _, _, _, _, _⟩) (v := ?_) rfl (by kernel_rfl) (by kernel_rfl) (by kernel_rfl) (fun _ _ _ h => h) (Or.inl ⟨by rfl, ?_⟩) hS ?_
          rotate_left 1
          focus ((intro W' hS'; go_simp) <;> with_reducible rfl)
          try simp only [Act.put, List.setIfInBounds_toArray, List.set_cons_zero, List.set_cons_succ]
          refine wpAnyH_take (i := 7) (oi := ⟨some 51, _, _, _, _, _⟩) (v := ?_) rfl (by kernel_rfl) (by kernel_rfl) (by kernel_rfl) (fun _ _ _ h => h) (Or.inl ⟨by rfl, ?_⟩) hS ?_
          rotate_left 1
          focus ((intro W' hS'; go_simp) <;> with_reducible rfl)
          try simp only [Act.put, List.setIfInBounds_toArray, List.set_cons_zero, List.set_cons_succ]
          refine wpAnyH_take (i := 8) (oi := ⟨some 52, _, _, _, _, _⟩) (v := ?_) rfl (by kernel_rfl) (by kernel_rfl) (by kernel_rfl) (fun _ _ _ h => h) (Or.inl ⟨by rfl, ?_⟩) hS ?_
          rotate_left 1
          focus ((intro W' hS'; go_simp) <;> with_reducible rfl)
          try simp only [Act.put, List.setIfInBounds_toArray, List.set_cons_zero, List.set_cons_succ]
          refine wpAnyH_take (i := 10) (oi := ⟨some 54, _, _, _, _, _⟩) (v := ?_) rfl (by kernel_rfl) (by kernel_rfl) (by kernel_rfl) (fun _ _ _ h => h) (Or.inl ⟨by rfl, ?_⟩) hS ?_
          rotate_left 1
          focus ((intro W' hS'; go_simp) <;> with_reducible rfl)
          try simp only [Act.put, List.setIfInBounds_toArray, List.set_cons_zero, List.set_cons_succ]
          refine wpAnyH_take (i := 11) (oi := ⟨some 55, _, _, _, _, _⟩) (v := ?_) rfl (by kernel_rfl) (by kernel_rfl) (by kernel_rfl) (fun _ _ _ h => h) (Or.inl ⟨by rfl, ?_⟩) hS ?_
          rotate_left 1
          focus ((intro W' hS'; go_simp) <;> with_reducible rfl)
          try simp only [Act.put, List.setIfInBounds_toArray, List.set_cons_zero, List.set_cons_succ]
          refine wpAnyH_take (i := 12) (oi := ⟨some 56, _, _, _, _, _⟩) (v := ?_) rfl (by kernel_rfl) (by kernel_rfl) (by kernel_rfl) (fun _ _ _ h => h) (Or.inl ⟨by rfl, ?_⟩) hS ?_
          rotate_left 1
          focus ((intro W' hS'; go_simp) <;> with_reducible rfl)
          try simp only [Act.put, List.setIfInBounds_toArray, List.set_cons_zero, List.set_cons_succ]
          refine anyH_one (i := 4) (by kernel_rfl) ⟨some 48, _, _, _, _, _⟩ rfl (by rfl) ?_
          refine wp_litF 26 5 2 _ rfl #[(0, .int .u8 44), (1, .int .u8 (p.hops.toNat : Int))] (by simp [Act.eval]) _ (lit8_2 _ _) ?_
          intro v1 h hb s
          have hT1 := hS.trans (hb.mono (by omega))
          refine ⟨hT1, ?_⟩
          have o71 := o7.below hb
          have hz1 := hb.size
          have rl : RB v1 (.slice (some ⟨_, 0, none⟩) 2 2) [44, p.hops] := RB.lit h rfl (by omega) rfl
          clear hS hb o7 h s
          have hS := hT1
          clear hT1
          try simp only [Act.put, List.setIfInBounds_toArray, List.set_cons_zero, List.set_cons_succ]
          refine anyH_one (i := 5) (by kernel_rfl) ⟨some 49, _, _, _, _, _⟩ rfl (by rfl) ?_
          refine wp_append8 (.tmp 44) (.tmp 48) bs M0 [44, p.hops] M1 HM1.out rfl rfl rfl rfl o71 rl (by rw [L0.out]; simp) (by omega) ?_
          intro A2 k2 v2 o2 hb2
          have hT2 := hS.trans hb2
          refine ⟨hT2, ?_⟩
          have hz2 := hb2.size
          clear hS hb2
          have hS := hT2
          clear hT2
          try simp only [Act.put, List.setIfInBounds_toArray, List.set_cons_zero, List.set_cons_succ]
          refine anyH_one (i := 9) (by kernel_rfl) ⟨some 53, _, _, _, _, _⟩ rfl (by rfl) ?_
          refine wp_append8 (.tmp 49) (.tmp 52) bs M1 p.src.bytes M2 HM2.out rfl rfl rfl rfl o2 (HSB.out _ (hub.trans (hS.mono hbs1))) (by rw [L1.out]; simp [Adr.bytes_length]) (by omega) ?_
          intro A3 k3 v3 o3 hb3
          have hT3 := hS.trans hb3
          refine ⟨hT3, ?_⟩
          have hz3 := hb3.size
          clear hS hb3
          have hS := hT3
          clear hT3
          try simp only [Act.put, List.setIfInBounds_toArray, List.set_cons_zero, List.set_cons_succ]
          refine anyH_one (i := 13) (by kernel_rfl) ⟨some 57, _, _, _, _, _⟩ rfl (by rfl) ?_
          refine wp_append8 (.tmp 53) (.tmp 56) bs M2 p.dst.bytes M3 HM3.out rfl rfl rfl rfl o3 (HDB.out _ (hub.trans (hS.mono hbs1))) (by rw [L2.out]; simp [Adr.bytes_length]) (by omega) ?_
          intro A4 k4 v4 o4 hb4
          have hT4 := hS.trans hb4
          refine ⟨hT4, ?_⟩
          have hz4 := hb4.size
          clear hS hb4
          have hS := hT4
          clear hT4
          try simp only [Act.put, List.setIfInBounds_toArray, List.set_cons_zero, List.set_cons_succ]
          refine wpAnyH_take (i := 14) (oi := ⟨some 7, _, _, _, _, _⟩) (v := ?_) rfl (by kernel_rfl) (by kernel_rfl) (by kernel_rfl) (fun _ _ _ h => h) (Or.inl ⟨by rfl, ?_⟩) hS ?_
          rotate_left 1
          focus ((intro W' hS'; go_simp) <;> with_reducible rfl)
          try simp only [Act.put, List.setIfInBounds_toArray, List.set_cons_zero, List.set_cons_succ]
          refine wpAnyH_done (by kernel_rfl) ?_ _
          have hz4' : bs ≤ v4.heap.size := by omega
          clear o71 o2 o3 hz1 hz2 hz3 hz4 hz6 rl
          go_wp2_with fail
          have o4 : OB { v4 with drawn := v4.drawn + 1 } bs (.slice A4 M3.length k4) M3 := o4
          have hz4 : bs ≤ ({ v4 with drawn := v4.drawn + 1 } : World).heap.size := hz4'
          refine wp_region_hand (fun W' => Below bs u5 W') (by kernel_rfl) (below_drewN hS 1) ?_
          clear hS
          intro hS
          generalize ({ v4 with drawn := v4.drawn + 1 } : World) = v5 at hS o4 hz4 ⊢
          refine wpAnyH_take (i := 0) (oi := ⟨some 58, _, _, _, _, _⟩) (v := ?_) rfl (by kernel_rfl) (by kernel_rfl) (by kernel_rfl) (fun _ _ _ h => h) (Or.inl ⟨by rfl, ?_⟩) hS ?_
          rotate_left 1
          focus ((intro W' hS'; go_simp) <;> with_reducible rfl)
          try simp only [Act.put, List.setIfInBounds_toArray, List.set_cons_zero, List.set_cons_succ]
          refine wpAnyH_take (i := 1) (oi := ⟨some 59, _, _, _, _, _⟩) (v := ?_) rfl (by kernel_rfl) (by kernel_rfl) (by kernel_rfl) (fun _ _ _ h => h) (Or.inl ⟨by rfl, ?_⟩) hS ?_
          rotate_left 1
          focus ((intro W' hS'; go_simp) <;> with_reducible rfl)
          try simp only [Act.put, List.setIfInBounds_toArray, List.set_cons_zero, List.set_cons_succ]
          refine wpAnyH_take (i := 3) (oi := ⟨some 61, _, _, _, _, _⟩) (v := ?_) rfl (by kernel_rfl) (by kernel_rfl) (by kernel_rfl) (fun _ _ _ h => h) (Or.inl ⟨by rfl, ?_⟩) hS ?_
          rotate_left 1
          focus ((intro W' hS'; go_simp) <;> with_reducible rfl)
          try simp only [Act.put, List.setIfInBounds_toArray, List.set_cons_zero, List.set_cons_succ]
          refine wpAnyH_take (i := 4) (oi := ⟨some 62, _, _, _, _, _⟩) (v := ?_) rfl (by kernel_rfl) (by kernel_rfl) (by kernel_rfl) (fun _ _ _ h => h) (Or.inl ⟨by rfl, ?_⟩) hS ?_
          rotate_left 1
          focus ((intro W' hS'; have q1 := keep_cell (hub.trans (hS'.mono hbs1)) f8 hl1; go_simp) <;> with_reducible rfl)
          try simp only [Act.put, List.setIfInBounds_toArray, List.set_cons_zero, List.set_cons_succ]
          refine anyH_one (i := 2) (by kernel_rfl) ⟨some 60, _, _, _, _, _⟩ rfl (by rfl) ?_
          refine wp_append8 (.tmp 58) (.tmp 59) bs M3 FR M6 HM6.out rfl rfl rfl rfl o4 (HFB.out _ hS) (by rw [L3.out, LF.out]; decide) (by omega) ?_
          intro A6 k6 v6 o6 hb6
          have hT6 := hS.trans hb6
          refine ⟨hT6, ?_⟩
          have hz6 := hb6.size
          clear hS hb6
          have hS := hT6
          clear hT6
          try simp only [Act.put, List.setIfInBounds_toArray, List.set_cons_zero, List.set_cons_succ]
          refine anyH_one (i := 5) (by kernel_rfl) ⟨some 63, _, _, _, _, _⟩ rfl (by rfl) ?_
          refine wp_append8 (.tmp 60) (.tmp 62) bs M6 p.load M7 HM7.out rfl rfl rfl rfl o6 (HRB.out _ (hb1.trans ((hub.trans (hS.mono hbs1)).mono hb1.size))) (by rw [L6.out]; omega) (by omega) ?_
          intro A7 k7 v7 o7 hb7
          have hT7 := hS.trans hb7
          refine ⟨hT7, ?_⟩
          have hz7 := hb7.size
          clear hS hb7
          have hS := hT7
          clear hT7
          try simp only [Act.put, List.setIfInBounds_toArray, List.set_cons_zero, List.set_cons_succ]
          refine wpAnyH_take (i := 6) (oi := ⟨some 2, _, _, _, _, _⟩) (v := ?_) rfl (by kernel_rfl) (by kernel_rfl) (by kernel_rfl) (fun _ _ _ h => h) (Or.inl ⟨by rfl, ?_⟩) hS ?_
          rotate_left 1
          focus ((intro W' hS'; go_simp) <;> with_reducible rfl)
          try simp only [Act.put, List.setIfInBounds_toArray, List.set_cons_zero, List.set_cons_succ]
          refine wpAnyH_take (i := 7) (oi := ⟨some 3, _, _, _, _, _⟩) (v := ?_) rfl (by kernel_rfl) (by kernel_rfl) (by kernel_rfl) (fun _ _ _ h => h) (Or.inl ⟨by rfl, ?_⟩) hS ?_
          rotate_left 1
          focus ((intro W' hS'; go_simp) <;> with_reducible rfl)
          try simp only [Act.put, List.setIfInBounds_toArray, List.set_cons_zero, List.set_cons_succ]
          refine wpAnyH_done (by kernel_rfl) ?_ _
          go_wp2_with fail
          go_ret2
          exact BytesPost.of (by rw [← HF.out]; exact HR.out) rfl (Nat.le_trans hb1.size hbs1) o7 (hb1.trans ((hub.trans (hS.mono hbs1)).mono hb1.size))
      · have HOV := hid (show p.off + 1 = ((of_ + mo : Nat) : Int) by have := HMO.out; rw [hmr] at this; simp at this; omega)
        clear hof'
        go_upto_region 9 with (first
          | ((with_reducible refine at_slot 8 ?_); refine wpList_load_row rfl 28 (.tmp 1) rfl w.heap.size rfl _ (p.cells (.slice A p.load.length c)) _ _ h1 Try.underlying28 rfl (info_pkt _ _) ?_)
          | (go_at_call 14; (with_reducible refine Calls.mono (HM.out _ (HRB.out _ hb1)) ?_); rintro e w2 ⟨rfl, hb2⟩; obtain ⟨g0, g1, g2, g3, g4, g5, g6, g7, g8⟩ := pkt_cells ((hb2.block w.heap.size hl1).trans h1); rw [hw] at g5; rw [hmr] at g6; clear g0 g1 g3 g4 g8))
        go_cut [4] (fun s4 wx => ∃ (A4 : Option Addr) (k4 : Nat), s4 = .slice A4 FR.length k4 ∧ OB wx w1.heap.size (.slice A4 FR.length k4) FR ∧ Below w1.heap.size w1 wx)
        case first =>
          refine wp_region_hand (fun W' => Below w1.heap.size w1 W') (by kernel_rfl) (below_drewN hb2 1) ?_
          intro hS
          clear g2 g5 g6 g7
          generalize ({ w2 with drawn := w2.drawn + 1 } : World) = u at hS ⊢
          refine wpAnyH_take (i := 0) (oi := ⟨some 23, _, _, _, _, _⟩) (v := ?_) rfl (by kernel_rfl) (by kernel_rfl) (by kernel_rfl) (fun _ _ _ h => h) (Or.inl ⟨by rfl, ?_⟩) hS ?_
          rotate_left 1
          focus ((intro W' hS'; go_simp) <;> with_reducible rfl)
          try simp only [Act.put, List.setIfInBounds_toArray, List.set_cons_zero, List.set_cons_succ]
          refine wpAnyH_take (i := 1) (oi := ⟨some 24, _, _, _, _, _⟩) (v := ?_) rfl (by kernel_rfl) (by kernel_rfl) (by kernel_rfl) (fun _ _ _ h => h) (Or.inl ⟨by rfl, ?_⟩) hS ?_
          rotate_left 1
          focus ((intro W' hS'; have q1 := keep_cell hS' f2 hl1; go_simp) <;> with_reducible rfl)
          try simp only [Act.put, List.setIfInBounds_toArray, List.set_cons_zero, List.set_cons_succ]
          refine wpAnyH_take (i := 3) (oi := ⟨some 26, _, _, _, _, _⟩) (v := ?_) rfl (by kernel_rfl) (by kernel_rfl) (by kernel_rfl) (fun _ _ _ h => h) (Or.inl ⟨by rfl, ?_⟩) hS ?_
          rotate_left 1
          focus ((intro W' hS'; go_simp) <;> with_reducible rfl)
          try simp only [Act.put, List.setIfInBounds_toArray, List.set_cons_zero, List.set_cons_succ]
          refine wpAnyH_take (i := 6) (oi := ⟨some 29, _, _, _, _, _⟩) (v := ?_) rfl (by kernel_rfl) (by kernel_rfl) (by kernel_rfl) (fun _ _ _ h => h) (Or.inl ⟨by rfl, ?_⟩) hS ?_
          rotate_left 1
          focus ((intro W' hS'; go_simp) <;> with_reducible rfl)
          try simp only [Act.put, List.setIfInBounds_toArray, List.set_cons_zero, List.set_cons_succ]
          refine wpAnyH_take (i := 7) (oi := ⟨some 30, _, _, _, _, _⟩) (v := ?_) rfl (by kernel_rfl) (by kernel_rfl) (by kernel_rfl) (fun _ _ _ h => h) (Or.inl ⟨by rfl, ?_⟩) hS ?_
          rotate_left 1
          focus ((intro W' hS'; have q1 := keep_cell hS' f4 hl1; go_simp) <;> with_reducible rfl)
          try simp only [Act.put, List.setIfInBounds_toArray, List.set_cons_zero, List.set_cons_succ]
          refine wpAnyH_take (i := 8) (oi := ⟨some 31, _, _, _, _, _⟩) (v := ?_) rfl (by kernel_rfl) (by kernel_rfl) (by kernel_rfl) (fun _ _ _ h => h) (Or.inl ⟨by rfl, ?_⟩) hS ?_
          rotate_left 1
          focus ((intro W' hS'; have q1 := HWI.out; go_simp) <;> with_reducible rfl)
          try simp only [Act.put, List.setIfInBounds_toArray, List.set_cons_zero, List.set_cons_succ]
          refine anyH_three (i := 2) (j := 4) (l := 9) (by kernel_rfl) (op_in ⟨some 25, _, _, _, _, _⟩ rfl (by rfl) ?_) (op_in ⟨some 27, _, _, _, _, _⟩ rfl (by rfl) ?_) (op_in ⟨some 32, _, _, _, _, _⟩ rfl (by rfl) ?_)
          · refine wp_litF 26 5 2 _ rfl #[(0, .int .u8 (p.proto.toNat : Int)), (1, .int .u8 0)] (by simp [Act.eval]) _ (lit8_2 _ _) ?_
            intro u h hb s
            clear s
            try have r25 := r25.below hb
            try have n27 := n27.below hb
            try have r28 := r28.below hb
            try have n32 := n32.below hb
            have hS2 := hS.trans (hb.mono hS.size)
            refine ⟨hS2, ?_⟩
            clear hS
            have hS := hS2
            clear hS2
            try simp only [Act.put, List.setIfInBounds_toArray, List.set_cons_zero, List.set_cons_succ]
            have r25 : RB u (.slice (some ⟨_, 0, none⟩) 2 2) [p.proto, 0] := RB.lit h rfl (by omega) rfl
            clear hb h
            refine anyH_two (i := 4) (j := 9) (by kernel_rfl) (op_in ⟨some 27, _, _, _, _, _⟩ rfl (by rfl) ?_) (op_in ⟨some 32, _, _, _, _, _⟩ rfl (by rfl) ?_)
            · refine wp_litF 52 49 1 _ rfl #[(0, .int .u64 (p.off + 1))] (by simp [Act.eval]) _ (lit64_1 _) ?_
              intro u h hb s
              clear s
              try have r25 := r25.below hb
              try have n27 := n27.below hb
              try have r28 := r28.below hb
              try have n32 := n32.below hb
              have hS2 := hS.trans (hb.mono hS.size)
              refine ⟨hS2, ?_⟩
              clear hS
              have hS := hS2
              clear hS2
              try simp only [Act.put, List.setIfInBounds_toArray, List.set_cons_zero, List.set_cons_succ]
              have n27 := (by rw [HOV.out] at h; exact RN.lit1 h (by omega) : RN _ _ [UInt64.ofNat (of_ + mo)])
              clear hb h
              refine anyH_two (i := 5) (j := 9) (by kernel_rfl) (op_in ⟨some 28, _, _, _, _, _⟩ rfl (by rfl) ?_) (op_in ⟨some 32, _, _, _, _, _⟩ rfl (by rfl) ?_)
              · go_simp
                with_reducible refine Calls.mono (HP2.out _ _ _ r25 n27) ?_
                rintro e u ⟨A, k, rfl, o28, hb⟩
                try have r25 := r25.below hb
                try have n27 := n27.below hb
                try have r28 := r28.below hb
                try have n32 := n32.below hb
                have hS2 := hS.trans (hb.mono hS.size)
                refine ⟨hS2, ?_⟩
                clear hS
                have hS := hS2
                clear hS2
                try simp only [Act.put, List.setIfInBounds_toArray, List.set_cons_zero, List.set_cons_succ]
                have r28 := o28.rb
                clear hb o28
                refine anyH_one (i := 9) (by kernel_rfl) ⟨some 32, _, _, _, _, _⟩ rfl (by rfl) ?_
                refine wp_litF 52 49 1 _ rfl #[(0, .int .u64 (p.id : Int))] (by simp [Act.eval]) _ (lit64_1 _) ?_
                intro u h hb s
                clear s
                try have r25 := r25.below hb
                try have n27 := n27.below hb
                try have r28 := r28.below hb
                try have n32 := n32.below hb
                have hS2 := hS.trans (hb.mono hS.size)
                refine ⟨hS2, ?_⟩
                clear hS
                have hS := hS2
                clear hS2
                try simp only [Act.put, List.setIfInBounds_toArray, List.set_cons_zero, List.set_cons_succ]
                have n32 := RN.lit1 (x := p.id) h (by omega)
                clear hb h
                refine anyH_one (i := 10) (by kernel_rfl) ⟨some 33, _, _, _, _, _⟩ rfl (by rfl) ?_
                go_simp
                with_reducible refine Calls.mono (HP3.out _ _ _ r28 n32) ?_
                rintro e u ⟨A, k, rfl, o33, hb⟩
                have o33 := o33.lower hS.size
                try have r25 := r25.below hb
                try have n27 := n27.below hb
                try have r28 := r28.below hb
                try have n32 := n32.below hb
                have hS2 := hS.trans (hb.mono hS.size)
                refine ⟨hS2, ?_⟩
                clear hS
                have hS := hS2
                clear hS2
                try simp only [Act.put, List.setIfInBounds_toArray, List.set_cons_zero, List.set_cons_succ]
                clear hb
                refine wpAnyH_take (i := 11) (oi := ⟨some 4, _, _, _, _, _⟩) (v := ?_) rfl (by kernel_rfl) (by kernel_rfl) (by kernel_rfl) (fun _ _ _ h => h) (Or.inl ⟨by rfl, ?_⟩) hS ?_
                rotate_left 1
                focus ((intro W' hS'; go_simp) <;> with_reducible rfl)
                try simp only [Act.put, List.setIfInBounds_toArray, List.set_cons_zero, List.set_cons_succ]
                refine wpAnyH_done (by kernel_rfl) ?_ _
                go_wp2_with fail
                go_meet
                exact ⟨A, k, rfl, o33, hS⟩
              · refine wp_litF 52 49 1 _ rfl #[(0, .int .u64 (p.id : Int))] (by simp [Act.eval]) _ (lit64_1 _) ?_
                intro u h hb s
                clear s
                try have r25 := r25.below hb
                try have n27 := n27.below hb
                try have r28 := r28.below hb
                try have n32 := n32.below hb
                have hS2 := hS.trans (hb.mono hS.size)
                refine ⟨hS2, ?_⟩
                clear hS
                have hS := hS2
                clear hS2
                try simp only [Act.put, List.setIfInBounds_toArray, List.set_cons_zero, List.set_cons_succ]
                have n32 := RN.lit1 (x := p.id) h (by omega)
                clear hb h
                refine anyH_one (i := 5) (by kernel_rfl) ⟨some 28, _, _, _, _, _⟩ rfl (by rfl) ?_
                go_simp
                with_reducible refine Calls.mono (HP2.out _ _ _ r25 n27) ?_
                rintro e u ⟨A, k, rfl, o28, hb⟩
                try have r25 := r25.below hb
                try have n27 := n27.below hb
                try have r28 := r28.below hb
                try have n32 := n32.below hb
                have hS2 := hS.trans (hb.mono hS.size)
                refine ⟨hS2, ?_⟩
                clear hS
                have hS := hS2
                clear hS2
                try simp only [Act.put, List.setIfInBounds_toArray, List.set_cons_zero, List.set_cons_succ]
                have r28 := o28.rb
                clear hb o28
                refine anyH_one (i := 10) (by kernel_rfl) ⟨some 33, _, _, _, _, _⟩ rfl (by rfl) ?_
                go_simp
                with_reducible refine Calls.mono (HP3.out _ _ _ r28 n32) ?_
                rintro e u ⟨A, k, rfl, o33, hb⟩
                have o33 := o33.lower hS.size
                try have r25 := r25.below hb
                try have n27 := n27.below hb
                try have r28 := r28.below hb
                try have n32 := n32.below hb
                have hS2 := hS.trans (hb.mono hS.size)
                refine ⟨hS2, ?_⟩
                clear hS
                have hS := hS2
                clear hS2
                try simp only [Act.put, List.setIfInBounds_toArray, List.set_cons_zero, List.set_cons_succ]
                clear hb
                refine wpAnyH_take (i := 11) (oi := ⟨some 4, _, _, _, _, _⟩) (v := ?_) rfl (by kernel_rfl) (by kernel_rfl) (by kernel_rfl) (fun _ _ _ h => h) (Or.inl ⟨by rfl, ?_⟩) hS ?_
                rotate_left 1
                focus ((intro W' hS'; go_simp) <;> with_reducible rfl)
                try simp only [Act.put, List.setIfInBounds_toArray, List.set_cons_zero, List.set_cons_succ]
                refine wpAnyH_done (by kernel_rfl) ?_ _
                go_wp2_with fail
                go_meet
                exact ⟨A, k, rfl, o33, hS⟩
            · refine wp_litF 52 49 1 _ rfl #[(0, .int .u64 (p.id : Int))] (by simp [Act.eval]) _ (lit64_1 _) ?_
              intro u h hb s
              clear s
              try have r25 := r25.below hb
              try have n27 := n27.below hb
              try have r28 := r28.below hb
              try have n32 := n32.below hb
              have hS2 := hS.trans (hb.mono hS.size)
              refine ⟨hS2, ?_⟩
              clear hS
              have hS := hS2
              clear hS2
              try simp only [Act.put, List.setIfInBounds_toArray, List.set_cons_zero, List.set_cons_succ]
              have n32 := RN.lit1 (x := p.id) h (by omega)
              clear hb h
              refine anyH_one (i := 4) (by kernel_rfl) ⟨some 27, _, _, _, _, _⟩ rfl (by rfl) ?_
              refine wp_litF 52 49 1 _ rfl #[(0, .int .u64 (p.off + 1))] (by simp [Act.eval]) _ (lit64_1 _) ?_
              intro u h hb s
              clear s
              try have r25 := r25.below hb
              try have n27 := n27.below hb
              try have r28 := r28.below hb
              try have n32 := n32.below hb
              have hS2 := hS.trans (hb.mono hS.size)
              refine ⟨hS2, ?_⟩
              clear hS
              have hS := hS2
              clear hS2
              try simp only [Act.put, List.setIfInBounds_toArray, List.set_cons_zero, List.set_cons_succ]
              have n27 := (by rw [HOV.out] at h; exact RN.lit1 h (by omega) : RN _ _ [UInt64.ofNat (of_ + mo)])
              clear hb h
              refine anyH_one (i := 5) (by kernel_rfl) ⟨some 28, _, _, _, _, _⟩ rfl (by rfl) ?_
              go_simp
              with_reducible refine Calls.mono (HP2.out _ _ _ r25 n27) ?_
              rintro e u ⟨A, k, rfl, o28, hb⟩
              try have r25 := r25.below hb
              try have n27 := n27.below hb
              try have r28 := r28.below hb
              try have n32 := n32.below hb
              have hS2 := hS.trans (hb.mono hS.size)
              refine ⟨hS2, ?_⟩
              clear hS
              have hS := hS2
              clear hS2
              try simp only [Act.put, List.setIfInBounds_toArray, List.set_cons_zero, List.set_cons_succ]
              have r28 := o28.rb
              clear hb o28
              refine anyH_one (i := 10) (by kernel_rfl) ⟨some 33, _, _, _, _, _⟩ rfl (by rfl) ?_
              go_simp
              with_reducible refine Calls.mono (HP3.out _ _ _ r28 n32) ?_
              rintro e u ⟨A, k, rfl, o33, hb⟩
              have o33 := o33.lower hS.size
              try have r25 := r25.below hb
              try have n27 := n27.below hb
              try have r28 := r28.below hb
              try have n32 := n32.below hb
              have hS2 := hS.trans (hb.mono hS.size)
              refine ⟨hS2, ?_⟩
              clear hS
              have hS := hS2
              clear hS2
              try simp only [Act.put, List.setIfInBounds_toArray, List.set_cons_zero, List.set_cons_succ]
              clear hb
              refine wpAnyH_take (i := 11) (oi := ⟨some 4, _, _, _, _, _⟩) (v := ?_) rfl (by kernel_rfl) (by kernel_rfl) (by kernel_rfl) (fun _ _ _ h => h) (Or.inl ⟨by rfl, ?_⟩) hS ?_
              rotate_left 1
              focus ((intro W' hS'; go_simp) <;> with_reducible rfl)
              try simp only [Act.put, List.setIfInBounds_toArray, List.set_cons_zero, List.set_cons_succ]
              refine wpAnyH_done (by kernel_rfl) ?_ _
              go_wp2_with fail
              go_meet
              exact ⟨A, k, rfl, o33, hS⟩
          · refine wp_litF 52 49 1 _ rfl #[(0, .int .u64 (p.off + 1))] (by simp [Act.eval]) _ (lit64_1 _) ?_
            intro u h hb s
            clear s
            try have r25 := r25.below hb
            try have n27 := n27.below hb
            try have r28 := r28.below hb
            try have n32 := n32.below hb
            have hS2 := hS.trans (hb.mono hS.size)
            refine ⟨hS2, ?_⟩
            clear hS
            have hS := hS2
            clear hS2
            try simp only [Act.put, List.setIfInBounds_toArray, List.set_cons_zero, List.set_cons_succ]
            have n27 := (by rw [HOV.out] at h; exact RN.lit1 h (by omega) : RN _ _ [UInt64.ofNat (of_ + mo)])
            clear hb h
            refine anyH_two (i := 2) (j := 9) (by kernel_rfl) (op_in ⟨some 25, _, _, _, _, _⟩ rfl (by rfl) ?_) (op_in ⟨some 32, _, _, _, _, _⟩ rfl (by rfl) ?_)
            · refine wp_litF 26 5 2 _ rfl #[(0, .int .u8 (p.proto.toNat : Int)), (1, .int .u8 0)] (by simp [Act.eval]) _ (lit8_2 _ _) ?_
              intro u h hb s
              clear s
              try have r25 := r25.below hb
              try have n27 := n27.below hb
              try have r28 := r28.below hb
              try have n32 := n32.below hb
              have hS2 := hS.trans (hb.mono hS.size)
              refine ⟨hS2, ?_⟩
              clear hS
              have hS := hS2
              clear hS2
              try simp only [Act.put, List.setIfInBounds_toArray, List.set_cons_zero, List.set_cons_succ]
              have r25 : RB u (.slice (some ⟨_, 0, none⟩) 2 2) [p.proto, 0] := RB.lit h rfl (by omega) rfl
              clear hb h
              refine anyH_two (i := 5) (j := 9) (by kernel_rfl) (op_in ⟨some 28, _, _, _, _, _⟩ rfl (by rfl) ?_) (op_in ⟨some 32, _, _, _, _, _⟩ rfl (by rfl) ?_)
              · go_simp
                with_reducible refine Calls.mono (HP2.out _ _ _ r25 n27) ?_
                rintro e u ⟨A, k, rfl, o28, hb⟩
                try have r25 := r25.below hb
                try have n27 := n27.below hb
                try have r28 := r28.below hb
                try have n32 := n32.below hb
                have hS2 := hS.trans (hb.mono hS.size)
                refine ⟨hS2, ?_⟩
                clear hS
                have hS := hS2
                clear hS2
                try simp only [Act.put, List.setIfInBounds_toArray, List.set_cons_zero, List.set_cons_succ]
                have r28 := o28.rb
                clear hb o28
                refine anyH_one (i := 9) (by kernel_rfl) ⟨some 32, _, _, _, _, _⟩ rfl (by rfl) ?_
                refine wp_litF 52 49 1 _ rfl #[(0, .int .u64 (p.id : Int))] (by simp [Act.eval]) _ (lit64_1 _) ?_
                intro u h hb s
                clear s
                try have r25 := r25.below hb
                try have n27 := n27.below hb
                try have r28 := r28.below hb
                try have n32 := n32.below hb
                have hS2 := hS.trans (hb.mono hS.size)
                refine ⟨hS2, ?_⟩
                clear hS
                have hS := hS2
                clear hS2
                try simp only [Act.put, List.setIfInBounds_toArray, List.set_cons_zero, List.set_cons_succ]
                have n32 := RN.lit1 (x := p.id) h (by omega)
                clear hb h
                refine anyH_one (i := 10) (by kernel_rfl) ⟨some 33, _, _, _, _, _⟩ rfl (by rfl) ?_
                go_simp
                with_reducible refine Calls.mono (HP3.out _ _ _ r28 n32) ?_
                rintro e u ⟨A, k, rfl, o33, hb⟩
                have o33 := o33.lower hS.size
                try have r25 := r25.below hb
                try have n27 := n27.below hb
                try have r28 := r28.below hb
                try have n32 := n32.below hb
                have hS2 := hS.trans (hb.mono hS.size)
                refine ⟨hS2, ?_⟩
                clear hS
                have hS := hS2
                clear hS2
                try simp only [Act.put, List.setIfInBounds_toArray, List.set_cons_zero, List.set_cons_succ]
                clear hb
                refine wpAnyH_take (i := 11) (oi := ⟨some 4, _, _, _, _, _⟩) (v := ?_) rfl (by kernel_rfl) (by kernel_rfl) (by kernel_rfl) (fun _ _ _ h => h) (Or.inl ⟨by rfl, ?_⟩) hS ?_
                rotate_left 1
                focus ((intro W' hS'; go_simp) <;> with_reducible rfl)
                try simp only [Act.put, List.setIfInBounds_toArray, List.set_cons_zero, List.set_cons_succ]
                refine wpAnyH_done (by kernel_rfl) ?_ _
                go_wp2_with fail
                go_meet
                exact ⟨A, k, rfl, o33, hS⟩
              · refine wp_litF 52 49 1 _ rfl #[(0, .int .u64 (p.id : Int))] (by simp [Act.eval]) _ (lit64_1 _) ?_
                intro u h hb s
                clear s
                try have r25 := r25.below hb
                try have n27 := n27.below hb
                try have r28 := r28.below hb
                try have n32 := n32.below hb
                have hS2 := hS.trans (hb.mono hS.size)
                refine ⟨hS2, ?_⟩
                clear hS
                have hS := hS2
                clear hS2
                try simp only [Act.put, List.setIfInBounds_toArray, List.set_cons_zero, List.set_cons_succ]
                have n32 := RN.lit1 (x := p.id) h (by omega)
                clear hb h
                refine anyH_one (i := 5) (by kernel_rfl) ⟨some 28, _, _, _, _, _⟩ rfl (by rfl) ?_
                go_simp
                with_reducible refine Calls.mono (HP2.out _ _ _ r25 n27) ?_
                rintro e u ⟨A, k, rfl, o28, hb⟩
                try have r25 := r25.below hb
                try have n27 := n27.below hb
                try have r28 := r28.below hb
                try have n32 := n32.below hb
                have hS2 := hS.trans (hb.mono hS.size)
                refine ⟨hS2, ?_⟩
                clear hS
                have hS := hS2
                clear hS2
                try simp only [Act.put, List.setIfInBounds_toArray, List.set_cons_zero, List.set_cons_succ]
                have r28 := o28.rb
                clear hb o28
                refine anyH_one (i := 10) (by kernel_rfl) ⟨some 33, _, _, _, _, _⟩ rfl (by rfl) ?_
                go_simp
                with_reducible refine Calls.mono (HP3.out _ _ _ r28 n32) ?_
                rintro e u ⟨A, k, rfl, o33, hb⟩
                have o33 := o33.lower hS.size
                try have r25 := r25.below hb
                try have n27 := n27.below hb
                try have r28 := r28.below hb
                try have n32 := n32.below hb
                have hS2 := hS.trans (hb.mono hS.size)
                refine ⟨hS2, ?_⟩
                clear hS
                have hS := hS2
                clear hS2
                try simp only [Act.put, List.setIfInBounds_toArray, List.set_cons_zero, List.set_cons_succ]
                clear hb
                refine wpAnyH_take (i := 11) (oi := ⟨some 4, _, _, _, _, _⟩) (v := ?_) rfl (by kernel_rfl) (by kernel_rfl) (by kernel_rfl) (fun _ _ _ h => h) (Or.inl ⟨by rfl, ?_⟩) hS ?_
                rotate_left 1
                focus ((intro W' hS'; go_simp) <;> with_reducible rfl)
                try simp only [Act.put, List.setIfInBounds_toArray, List.set_cons_zero, List.set_cons_succ]
                refine wpAnyH_done (by kernel_rfl) ?_ _
                go_wp2_with fail
                go_meet
                exact ⟨A, k, rfl, o33, hS⟩
            · refine wp_litF 52 49 1 _ rfl #[(0, .int .u64 (p.id : Int))] (by simp [Act.eval]) _ (lit64_1 _) ?_
              intro u h hb s
              clear s
              try have r25 := r25.below hb
              try have n27 := n27.below hb
              try have r28 := r28.below hb
              try have n32 := n32.below hb
              have hS2 := hS.trans (hb.mono hS.size)
              refine ⟨hS2, ?_⟩
              clear hS
              have hS := hS2
              clear hS2
              try simp only [Act.put, List.setIfInBounds_toArray, List.set_cons_zero, List.set_cons_succ]
              have n32 := RN.lit1 (x := p.id) h (by omega)
              clear hb h
              refine anyH_one (i := 2) (by kernel_rfl) ⟨some 25, _, _, _, _, _⟩ rfl (by rfl) ?_
              refine wp_litF 26 5 2 _ rfl #[(0, .int .u8 (p.proto.toNat : Int)), (1, .int .u8 0)] (by simp [Act.eval]) _ (lit8_2 _ _) ?_
              intro u h hb s
              clear s
              try have r25 := r25.below hb
              try have n27 := n27.below hb
              try have r28 := r28.below hb
              try have n32 := n32.below hb
              have hS2 := hS.trans (hb.mono hS.size)
              refine ⟨hS2, ?_⟩
              clear hS
              have hS := hS2
              clear hS2
              try simp only [Act.put, List.setIfInBounds_toArray, List.set_cons_zero, List.set_cons_succ]
              have r25 : RB u (.slice (some ⟨_, 0, none⟩) 2 2) [p.proto, 0] := RB.lit h rfl (by omega) rfl
              clear hb h
              refine anyH_one (i := 5) (by kernel_rfl) ⟨some 28, _, _, _, _, _⟩ rfl (by rfl) ?_
              go_simp
              with_reducible refine Calls.mono (HP2.out _ _ _ r25 n27) ?_
              rintro e u ⟨A, k, rfl, o28, hb⟩
              try have r25 := r25.below hb
              try have n27 := n27.below hb
              try have r28 := r28.below hb
              try have n32 := n32.below hb
              have hS2 := hS.trans (hb.mono hS.size)
              refine ⟨hS2, ?_⟩
              clear hS
              have hS := hS2
              clear hS2
              try simp only [Act.put, List.setIfInBounds_toArray, List.set_cons_zero, List.set_cons_succ]
              have r28 := o28.rb
              clear hb o28
              refine anyH_one (i := 10) (by kernel_rfl) ⟨some 33, _, _, _, _, _⟩ rfl (by rfl) ?_
              go_simp
              with_reducible refine Calls.mono (HP3.out _ _ _ r28 n32) ?_
              rintro e u ⟨A, k, rfl, o33, hb⟩
              have o33 := o33.lower hS.size
              try have r25 := r25.below hb
              try have n27 := n27.below hb
              try have r28 := r28.below hb
              try have n32 := n32.below hb
              have hS2 := hS.trans (hb.mono hS.size)
              refine ⟨hS2, ?_⟩
              clear hS
              have hS := hS2
              clear hS2
              try simp only [Act.put, List.setIfInBounds_toArray, List.set_cons_zero, List.set_cons_succ]
              clear hb
              refine wpAnyH_take (i := 11) (oi := ⟨some 4, _, _, _, _, _⟩) (v := ?_) rfl (by kernel_rfl) (by kernel_rfl) (by kernel_rfl) (fun _ _ _ h => h) (Or.inl ⟨by rfl, ?_⟩) hS ?_
              rotate_left 1
              focus ((intro W' hS'; go_simp) <;> with_reducible rfl)
              try simp only [Act.put, List.setIfInBounds_toArray, List.set_cons_zero, List.set_cons_succ]
              refine wpAnyH_done (by kernel_rfl) ?_ _
              go_wp2_with fail
              go_meet
              exact ⟨A, k, rfl, o33, hS⟩
          · refine wp_litF 52 49 1 _ rfl #[(0, .int .u64 (p.id : Int))] (by simp [Act.eval]) _ (lit64_1 _) ?_
            intro u h hb s
            clear s
            try have r25 := r25.below hb
            try have n27 := n27.below hb
            try have r28 := r28.below hb
            try have n32 := n32.below hb
            have hS2 := hS.trans (hb.mono hS.size)
            refine ⟨hS2, ?_⟩
            clear hS
            have hS := hS2
            clear hS2
            try simp only [Act.put, List.setIfInBounds_toArray, List.set_cons_zero, List.set_cons_succ]
            have n32 := RN.lit1 (x := p.id) h (by omega)
            clear hb h
            refine anyH_two (i := 2) (j := 4) (by kernel_rfl) (op_in ⟨some 25, _, _, _, _, _⟩ rfl (by rfl) ?_) (op_in ⟨some 27, _, _, _, _, _⟩ rfl (by rfl) ?_)
            · refine wp_litF 26 5 2 _ rfl #[(0, .int .u8 (p.proto.toNat : Int)), (1, .int .u8 0)] (by simp [Act.eval]) _ (lit8_2 _ _) ?_
              intro u h hb s
              clear s
              try have r25 := r25.below hb
              try have n27 := n27.below hb
              try have r28 := r28.below hb
              try have n32 := n32.below hb
              have hS2 := hS.trans (hb.mono hS.size)
              refine ⟨hS2, ?_⟩
              clear hS
              have hS := hS2
              clear hS2
              try simp only [Act.put, List.setIfInBounds_toArray, List.set_cons_zero, List.set_cons_succ]
              have r25 : RB u (.slice (some ⟨_, 0, none⟩) 2 2) [p.proto, 0] := RB.lit h rfl (by omega) rfl
              clear hb h
              refine anyH_one (i := 4) (by kernel_rfl) ⟨some 27, _, _, _, _, _⟩ rfl (by rfl) ?_
              refine wp_litF 52 49 1 _ rfl #[(0, .int .u64 (p.off + 1))] (by simp [Act.eval]) _ (lit64_1 _) ?_
              intro u h hb s
              clear s
              try have r25 := r25.below hb
              try have n27 := n27.below hb
              try have r28 := r28.below hb
              try have n32 := n32.below hb
              have hS2 := hS.trans (hb.mono hS.size)
              refine ⟨hS2, ?_⟩
              clear hS
              have hS := hS2
              clear hS2
              try simp only [Act.put, List.setIfInBounds_toArray, List.set_cons_zero, List.set_cons_succ]
              have n27 := (by rw [HOV.out] at h; exact RN.lit1 h (by omega) : RN _ _ [UInt64.ofNat (of_ + mo)])
              clear hb h
              refine anyH_one (i := 5) (by kernel_rfl) ⟨some 28, _, _, _, _, _⟩ rfl (by rfl) ?_
              go_simp
              with_reducible refine Calls.mono (HP2.out _ _ _ r25 n27) ?_
              rintro e u ⟨A, k, rfl, o28, hb⟩
              try have r25 := r25.below hb
              try have n27 := n27.below hb
              try have r28 := r28.below hb
              try have n32 := n32.below hb
              have hS2 := hS.trans (hb.mono hS.size)
              refine ⟨hS2, ?_⟩
              clear hS
              have hS := hS2
              clear hS2
              try simp only [Act.put, List.setIfInBounds_toArray, List.set_cons_zero, List.set_cons_succ]
              have r28 := o28.rb
              clear hb o28
              refine anyH_one (i := 10) (by kernel_rfl) ⟨some 33, _, _, _, _, _⟩ rfl (by rfl) ?_
              go_simp
              with_reducible refine Calls.mono (HP3.out _ _ _ r28 n32) ?_
              rintro e u ⟨A, k, rfl, o33, hb⟩
              have o33 := o33.lower hS.size
              try have r25 := r25.below hb
              try have n27 := n27.below hb
              try have r28 := r28.below hb
              try have n32 := n32.below hb
              have hS2 := hS.trans (hb.mono hS.size)
              refine ⟨hS2, ?_⟩
              clear hS
              have hS := hS2
              clear hS2
              try simp only [Act.put, List.setIfInBounds_toArray, List.set_cons_zero, List.set_cons_succ]
              clear hb
              refine wpAnyH_take (i := 11) (oi := ⟨some 4, _, _, _, _, _⟩) (v := ?_) rfl (by kernel_rfl) (by kernel_rfl) (by kernel_rfl) (fun _ _ _ h => h) (Or.inl ⟨by rfl, ?_⟩) hS ?_
              rotate_left 1
              focus ((intro W' hS'; go_simp) <;> with_reducible rfl)
              try simp only [Act.put, List.setIfInBounds_toArray, List.set_cons_zero, List.set_cons_succ]
              refine wpAnyH_done (by kernel_rfl) ?_ _
              go_wp2_with fail
              go_meet
              exact ⟨A, k, rfl, o33, hS⟩
            · refine wp_litF 52 49 1 _ rfl #[(0, .int .u64 (p.off + 1))] (by simp [Act.eval]) _ (lit64_1 _) ?_
              intro u h hb s
              clear s
              try have r25 := r25.below hb
              try have n27 := n27.below hb
              try have r28 := r28.below hb
              try have n32 := n32.below hb
              have hS2 := hS.trans (hb.mono hS.size)
              refine ⟨hS2, ?_⟩
              clear hS
              have hS := hS2
              clear hS2
              try simp only [Act.put, List.setIfInBounds_toArray, List.set_cons_zero, List.set_cons_succ]
              have n27 := (by rw [HOV.out] at h; exact RN.lit1 h (by omega) : RN _ _ [UInt64.ofNat (of_ + mo)])
              clear hb h
              refine anyH_one (i := 2) (by kernel_rfl) ⟨some 25, _, _, _, _, _⟩ rfl (by rfl) ?_
              refine wp_litF 26 5 2 _ rfl #[(0, .int .u8 (p.proto.toNat : Int)), (1, .int .u8 0)] (by simp [Act.eval]) _ (lit8_2 _ _) ?_
              intro u h hb s
              clear s
              try have r25 := r25.below hb
              try have n27 := n27.below hb
              try have r28 := r28.below hb
              try have n32 := n32.below hb
              have hS2 := hS.trans (hb.mono hS.size)
              refine ⟨hS2, ?_⟩
              clear hS
              have hS := hS2
              clear hS2
              try simp only [Act.put, List.setIfInBounds_toArray, List.set_cons_zero, List.set_cons_succ]
              have r25 : RB u (.slice (some ⟨_, 0, none⟩) 2 2) [p.proto, 0] := RB.lit h rfl (by omega) rfl
              clear hb h
              refine anyH_one (i := 5) (by kernel_rfl) ⟨some 28, _, _, _, _, _⟩ rfl (by rfl) ?_
              go_simp
              with_reducible refine Calls.mono (HP2.out _ _ _ r25 n27) ?_
              rintro e u ⟨A, k, rfl, o28, hb⟩
              try have r25 := r25.below hb
              try have n27 := n27.below hb
              try have r28 := r28.below hb
              try have n32 := n32.below hb
              have hS2 := hS.trans (hb.mono hS.size)
              refine ⟨hS2, ?_⟩
              clear hS
              have hS := hS2
              clear hS2
              try simp only [Act.put, List.setIfInBounds_toArray, List.set_cons_zero, List.set_cons_succ]
              have r28 := o28.rb
              clear hb o28
              refine anyH_one (i := 10) (by kernel_rfl) ⟨some 33, _, _, _, _, _⟩ rfl (by rfl) ?_
              go_simp
              with_reducible refine Calls.mono (HP3.out _ _ _ r28 n32) ?_
              rintro e u ⟨A, k, rfl, o33, hb⟩
              have o33 := o33.lower hS.size
              try have r25 := r25.below hb
              try have n27 := n27.below hb
              try have r28 := r28.below hb
              try have n32 := n32.below hb
              have hS2 := hS.trans (hb.mono hS.size)
              refine ⟨hS2, ?_⟩
              clear hS
              have hS := hS2
              clear hS2
              try simp only [Act.put, List.setIfInBounds_toArray, List.set_cons_zero, List.set_cons_succ]
              clear hb
              refine wpAnyH_take (i := 11) (oi := ⟨some 4, _, _, _, _, _⟩) (v := ?_) rfl (by kernel_rfl) (by kernel_rfl) (by kernel_rfl) (fun _ _ _ h => h) (Or.inl ⟨by rfl, ?_⟩) hS ?_
              rotate_left 1
              focus ((intro W' hS'; go_simp) <;> with_reducible rfl)
              try simp only [Act.put, List.setIfInBounds_toArray, List.set_cons_zero, List.set_cons_succ]
              refine wpAnyH_done (by kernel_rfl) ?_ _
              go_wp2_with fail
              go_meet
              exact ⟨A, k, rfl, o33, hS⟩
        case rest =>
          obtain ⟨A4, k4, rfl, o4f, hbc⟩ := hcut
          rw [LF.out] at o4f ⊢
          skip
          go_upto_region 12 with (first
            | ((with_reducible refine at_slot 34 ?_); refine wpList_litF rfl 26 5 4 _ rfl #[(0, .int .u8 96), (1, .int .u8 0), (2, .int .u8 0), (3, .int .u8 0)] (by simp [Act.eval]) _ (lit8_4 _ _ _ _) ?_; intro u4 h4 hb4 s4; clear s4; have q8 := keep_cell (hbc.trans (hb4.mono hbc.size)) f8 hl1)
            | ((with_reducible refine at_slot 42 ?_); refine wpList_litF rfl 52 49 1 _ rfl #[(0, .int .u64 ((8 : Int) + (p.load.length : Int)))] (by simp [Act.eval]) _ (lit64_1 _) ?_; intro u5 h5 hb5 s5; clear s5; rw [HSZ.out] at h5)
            | (go_at_call 24; (with_reducible refine Calls.mono (HP1.out u5 _ _ (RB.below (RB.lit h4 rfl (by omega) rfl) hb5) (RN.lit1 h5 (by omega))) ?_); rintro e u6 ⟨A6, k6, rfl, o7, hb6⟩))
          have hub' := (hbc.trans (hb4.mono hbc.size)).trans (hb5.mono (Nat.le_trans hbc.size hb4.size))
          have hub := hub'
          obtain ⟨bs, hbs⟩ : ∃ bs, bs = u5.heap.size := ⟨_, rfl⟩
          have hbs1 : w1.heap.size ≤ bs := by rw [hbs]; exact hub.size
          have HFB : Hid (∀ W, Below bs u5 W → RB W (.slice A4 8 k4) FR) := fun W hW => ((o4f.below hb4).below hb5).rb.below (by rw [← hbs]; exact hW)
          rw [← hbs] at o7 hb6
          have hz6 : bs ≤ u6.heap.size := by have := hb6.size; omega
          clear hbs h4 h5 hb4 hb5 hub' o4f
          have o7 : OB { u6 with drawn := u6.drawn + 1 } bs (.slice A6 M0.length k6) M0 := o7
          have hz6 : bs ≤ ({ u6 with drawn := u6.drawn + 1 } : World).heap.size := hz6
          refine wp_region_hand (fun W' => Below bs u5 W') (by kernel_rfl) (below_drewN hb6 1) ?_
          intro hS
          clear hb6
          generalize ({ u6 with drawn := u6.drawn + 1 } : World) = u7 at hS o7 hz6 ⊢
          refine wpAnyH_take (i := 0) (oi := ⟨some 44, _, _, _, _, _⟩) (v := ?_) rfl (by kernel_rfl) (by kernel_rfl) (by kernel_rfl) (fun _ _ _ h => h) (Or.inl ⟨by rfl, ?_⟩) hS ?_
          rotate_left 1
          focus ((intro W' hS'; go_simp) <;> with_reducible rfl)
          try simp only [Act.put, List.setIfInBounds_toArray, List.set_cons_zero, List.set_cons_succ]
          refine wpAnyH_take (i := 1) (oi := ⟨some 45, _, _, _, _, _⟩) (v := ?_) rfl (by kernel_rfl) (by kernel_rfl) (by kernel_rfl) (fun _ _ _ h => h) (Or.inl ⟨by rfl, ?_⟩) hS ?_
          rotate_left 1
          focus ((intro W' hS'; go_simp) <;> with_reducible rfl)
          try simp only [Act.put, List.setIfInBounds_toArray, List.set_cons_zero, List.set_cons_succ]
          refine wpAnyH_take (i := 2) (oi := ⟨some 46, _, _, _, _, _⟩) (v := ?_) rfl (by kernel_rfl) (by kernel_rfl) (by kernel_rfl) (fun _ _ _ h => h) (Or.inl ⟨by rfl, ?_⟩) hS ?_
          rotate_left 1
          focus ((intro W' hS'; go_simp) <;> with_reducible rfl)
          try simp only [Act.put, List.setIfInBounds_toArray, List.set_cons_zero, List.set_cons_succ]
          refine wpAnyH_take (i := 3) (oi := ⟨some 47, _, _, _, _, _⟩) (v := ?_) rfl (by kernel_rfl) (by kernel_rfl) (by kernel_rfl) (fun _ _ _ h => h) (Or.inl ⟨by rfl, ?_⟩) hS ?_
          rotate_left 1
          focus ((intro W' hS'; have q1 := keep_cell (hub.trans (hS'.mono hbs1)) f3 hl1; go_simp) <;> with_reducible rfl)
          try simp only [Act.put, List.setIfInBounds_toArray, List.set_cons_zero, List.set_cons_succ]
          refine wpAnyH_take (i := 6) (oi := ⟨some 50, _, _, _, _, _⟩) (v := ?_) rfl (by kernel_rfl) (by kernel_rfl) (by kernel_rfl) (fun _ _ _ h => h) (Or.inl ⟨by rfl, ?_⟩) hS ?_
          rotate_left 1
          focus ((intro W' hS'; go_simp) <;> with_reducible rfl)
          try simp only [Act.put, List.setIfInBounds_toArray, List.set_cons_zero, List.set_cons_succ]
          refine wpAnyH_take (i := 7) (oi := ⟨some 51, _, _, _, _, _⟩) (v := ?_) rfl (by kernel_rfl) (by kernel_rfl) (by kernel_rfl) (fun _ _ _ h => h) (Or.inl ⟨by rfl, ?_⟩) hS ?_
          rotate_left 1
          focus ((intro W' hS'; go_simp) <;> with_reducible rfl)
          try simp only [Act.put, List.setIfInBounds_toArray, List.set_cons_zero, List.set_cons_succ]
          refine wpAnyH_take (i := 8) (oi := ⟨some 52, _, _, _, _, _⟩) (v := ?_) rfl (by kernel_rfl) (by kernel_rfl) (by kernel_rfl) (fun _ _ _ h => h) (Or.inl ⟨by rfl, ?_⟩) hS ?_
          rotate_left 1
          focus ((intro W' hS'; go_simp) <;> with_reducible rfl)
          try simp only [Act.put, List.setIfInBounds_toArray, List.set_cons_zero, List.set_cons_succ]
          refine wpAnyH_take (i := 10) (oi := ⟨some 54, _, _, _, _, _⟩) (v := ?_) rfl (by kernel_rfl) (by kernel_rfl) (by kernel_rfl) (fun _ _ _ h => h) (Or.inl ⟨by rfl, ?_⟩) hS ?_
          rotate_left 1
          focus ((intro W' hS'; go_simp) <;> with_reducible rfl)
          try simp only [Act.put, List.setIfInBounds_toArray, List.set_cons_zero, List.set_cons_succ]
          refine wpAnyH_take (i := 11) (oi := ⟨some 55, _, _, _, _, _⟩) (v := ?_) rfl (by kernel_rfl) (by kernel_rfl) (by kernel_rfl) (fun _ _ _ h => h) (Or.inl ⟨by rfl, ?_⟩) hS ?_
          rotate_left 1
          focus ((intro W' hS'; go_simp) <;> with_reducible rfl)
          try simp only [Act.put, List.setIfInBounds_toArray, List.set_cons_zero, List.set_cons_succ]
          refine wpAnyH_take (i := 12) (oi := ⟨some 56, _, _, _, _, _⟩) (v := ?_) rfl (by kernel_rfl) (by kernel_rfl) (by kernel_rfl) (fun _ _ _ h => h) (Or.inl ⟨by rfl, ?_⟩) hS ?_
          rotate_left 1
          focus ((intro W' hS'; go_simp) <;> with_reducible rfl)
          try simp only [Act.put, List.setIfInBounds_toArray, List.set_cons_zero, List.set_cons_succ]
          refine anyH_one (i := 4) (by kernel_rfl) ⟨some 48, _, _, _, _, _⟩ rfl (by rfl) ?_
          refine wp_litF 26 5 2 _ rfl #[(0, .int .u8 44), (1, .int .u8 (p.hops.toNat : Int))] (by simp [Act.eval]) _ (lit8_2 _ _) ?_
          intro v1 h hb s
          have hT1 := hS.trans (hb.mono (by omega))
          refine ⟨hT1, ?_⟩
          have o71 := o7.below hb
          have hz1 := hb.size
          have rl : RB v1 (.slice (some ⟨_, 0, none⟩) 2 2) [44, p.hops] := RB.lit h rfl (by omega) rfl
          clear hS hb o7 h s
          have hS := hT1
          clear hT1
          try simp only [Act.put, List.setIfInBounds_toArray, List.set_cons_zero, List.set_cons_succ]
          refine anyH_one (i := 5) (by kernel_rfl) ⟨some 49, _, _, _, _, _⟩ rfl (by rfl) ?_
          refine wp_append8 (.tmp 44) (.tmp 48) bs M0 [44, p.hops] M1 HM1.out rfl rfl rfl rfl o71 rl (by rw [L0.out]; simp) (by omega) ?_
          intro A2 k2 v2 o2 hb2
          have hT2 := hS.trans hb2
          refine ⟨hT2, ?_⟩
          have hz2 := hb2.size
          clear hS hb2
          have hS := hT2
          clear hT2
          try simp only [Act.put, List.setIfInBounds_toArray, List.set_cons_zero, List.set_cons_succ]
          refine anyH_one (i := 9) (by kernel_rfl) ⟨some 53, _, _, _, _, _⟩ rfl (by rfl) ?_
          refine wp_append8 (.tmp 49) (.tmp 52) bs M1 p.src.bytes M2 HM2.out rfl rfl rfl rfl o2 (HSB.out _ (hub.trans (hS.mono hbs1))) (by rw [L1.out]; simp [Adr.bytes_length]) (by omega) ?_
          intro A3 k3 v3 o3 hb3
          have hT3 := hS.trans hb3
          refine ⟨hT3, ?_⟩
          have hz3 := hb3.size
          clear hS hb3
          have hS := hT3
          clear hT3
          try simp only [Act.put, List.setIfInBounds_toArray, List.set_cons_zero, List.set_cons_succ]
          refine anyH_one (i := 13) (by kernel_rfl) ⟨some 57, _, _, _, _, _⟩ rfl (by rfl) ?_
          refine wp_append8 (.tmp 53) (.tmp 56) bs M2 p.dst.bytes M3 HM3.out rfl rfl rfl rfl o3 (HDB.out _ (hub.trans (hS.mono hbs1))) (by rw [L2.out]; simp [Adr.bytes_length]) (by omega) ?_
          intro A4 k4 v4 o4 hb4
          have hT4 := hS.trans hb4
          refine ⟨hT4, ?_⟩
          have hz4 := hb4.size
          clear hS hb4
          have hS := hT4
          clear hT4
          try simp only [Act.put, List.setIfInBounds_toArray, List.set_cons_zero, List.set_cons_succ]
          refine wpAnyH_take (i := 14) (oi := ⟨some 7, _, _, _, _, _⟩) (v := ?_) rfl (by kernel_rfl) (by kernel_rfl) (by kernel_rfl) (fun _ _ _ h => h) (Or.inl ⟨by rfl, ?_⟩) hS ?_
          rotate_left 1
          focus ((intro W' hS'; go_simp) <;> with_reducible rfl)
          try simp only [Act.put, List.setIfInBounds_toArray, List.set_cons_zero, List.set_cons_succ]
          refine wpAnyH_done (by kernel_rfl) ?_ _
          have hz4' : bs ≤ v4.heap.size := by omega
          clear o71 o2 o3 hz1 hz2 hz3 hz4 hz6 rl
          go_wp2_with fail
          have o4 : OB { v4 with drawn := v4.drawn + 1 } bs (.slice A4 M3.length k4) M3 := o4
          have hz4 : bs ≤ ({ v4 with drawn := v4.drawn + 1 } : World).heap.size := hz4'
          refine wp_region_hand (fun W' => Below bs u5 W') (by kernel_rfl) (below_drewN hS 1) ?_
          clear hS
          intro hS
          generalize ({ v4 with drawn := v4.drawn + 1 } : World) = v5 at hS o4 hz4 ⊢
          refine wpAnyH_take (i := 0) (oi := ⟨some 58, _, _, _, _, _⟩) (v := ?_) rfl (by kernel_rfl) (by kernel_rfl) (by kernel_rfl) (fun _ _ _ h => h) (Or.inl ⟨by rfl, ?_⟩) hS ?_
          rotate_left 1
          focus ((intro W' hS'; go_simp) <;> with_reducible rfl)
          try simp only [Act.put, List.setIfInBounds_toArray, List.set_cons_zero, List.set_cons_succ]
          refine wpAnyH_take (i := 1) (oi := ⟨some 59, _, _, _, _, _⟩) (v := ?_) rfl (by kernel_rfl) (by kernel_rfl) (by kernel_rfl) (fun _ _ _ h => h) (Or.inl ⟨by rfl, ?_⟩) hS ?_
          rotate_left 1
          focus ((intro W' hS'; go_simp) <;> with_reducible rfl)
          try simp only [Act.put, List.setIfInBounds_toArray, List.set_cons_zero, List.set_cons_succ]
          refine wpAnyH_take (i := 3) (oi := ⟨some 61, _, _, _, _, _⟩) (v := ?_) rfl (by kernel_rfl) (by kernel_rfl) (by kernel_rfl) (fun _ _ _ h => h) (Or.inl ⟨by rfl, ?_⟩) hS ?_
          rotate_left 1
          focus ((intro W' hS'; go_simp) <;> with_reducible rfl)
          try simp only [Act.put, List.setIfInBounds_toArray, List.set_cons_zero, List.set_cons_succ]
          refine wpAnyH_take (i := 4) (oi := ⟨some 62, _, _, _, _, _⟩) (v := ?_) rfl (by kernel_rfl) (by kernel_rfl) (by kernel_rfl) (fun _ _ _ h => h) (Or.inl ⟨by rfl, ?_⟩) hS ?_
          rotate_left 1
          focus ((intro W' hS'; have q1 := keep_cell (hub.trans (hS'.mono hbs1)) f8 hl1; go_simp) <;> with_reducible rfl)
          try simp only [Act.put, List.setIfInBounds_toArray, List.set_cons_zero, List.set_cons_succ]
          refine anyH_one (i := 2) (by kernel_rfl) ⟨some 60, _, _, _, _, _⟩ rfl (by rfl) ?_
          refine wp_append8 (.tmp 58) (.tmp 59) bs M3 FR M6 HM6.out rfl rfl rfl rfl o4 (HFB.out _ hS) (by rw [L3.out, LF.out]; decide) (by omega) ?_
          intro A6 k6 v6 o6 hb6
          have hT6 := hS.trans hb6
          refine ⟨hT6, ?_⟩
          have hz6 := hb6.size
          clear hS hb6
          have hS := hT6
          clear hT6
          try simp only [Act.put, List.setIfInBounds_toArray, List.set_cons_zero, List.set_cons_succ]
          refine anyH_one (i := 5) (by kernel_rfl) ⟨some 63, _, _, _, _, _⟩ rfl (by rfl) ?_
          refine wp_append8 (.tmp 60) (.tmp 62) bs M6 p.load M7 HM7.out rfl rfl rfl rfl o6 (HRB.out _ (hb1.trans ((hub.trans (hS.mono hbs1)).mono hb1.size))) (by rw [L6.out]; omega) (by omega) ?_
          intro A7 k7 v7 o7 hb7
          have hT7 := hS.trans hb7
          refine ⟨hT7, ?_⟩
          have hz7 := hb7.size
          clear hS hb7
          have hS := hT7
          clear hT7
          try simp only [Act.put, List.setIfInBounds_toArray, List.set_cons_zero, List.set_cons_succ]
          refine wpAnyH_take (i := 6) (oi := ⟨some 2, _, _, _, _, _⟩) (v := ?_) rfl (by kernel_rfl) (by kernel_rfl) (by kernel_rfl) (fun _ _ _ h => h) (Or.inl ⟨by rfl, ?_⟩) hS ?_
          rotate_left 1
          focus ((intro W' hS'; go_simp) <;> with_reducible rfl)
          try simp only [Act.put, List.setIfInBounds_toArray, List.set_cons_zero, List.set_cons_succ]
          refine wpAnyH_take (i := 7) (oi := ⟨some 3, _, _, _, _, _⟩) (v := ?_) rfl (by kernel_rfl) (by kernel_rfl) (by kernel_rfl) (fun _ _ _ h => h) (Or.inl ⟨by rfl, ?_⟩) hS ?_
          rotate_left 1
          focus ((intro W' hS'; go_simp) <;> with_reducible rfl)
          try simp only [Act.put, List.setIfInBounds_toArray, List.set_cons_zero, List.set_cons_succ]
          refine wpAnyH_done (by kernel_rfl) ?_ _
          go_wp2_with fail
          go_ret2
          exact BytesPost.of (by rw [← HF.out]; exact HR.out) rfl (Nat.le_trans hb1.size hbs1) o7 (hb1.trans ((hub.trans (hS.mono hbs1)).mono hb1.size))
    · obtain ⟨FR, hFR⟩ : ∃ FR : List UInt8, [] = FR := ⟨_, rfl⟩
      have lF : FR.length = 0 := by rw [← hFR]; rfl
      obtain ⟨M0, hM0⟩ : ∃ M0, [0x60, 0, 0, 0] ++ beB 2 (FR.length + p.load.length) = M0 := ⟨_, rfl⟩
      have l0 : M0.length = 6 := by rw [← hM0, List.length_append, beB_length]; rfl
      obtain ⟨M1, hM1⟩ : ∃ M1, M0 ++ [p.proto, p.hops] = M1 := ⟨_, rfl⟩
      have l1 : M1.length = 8 := by rw [← hM1, List.length_append, l0]; rfl
      obtain ⟨M2, hM2⟩ : ∃ M2, M1 ++ p.src.bytes = M2 := ⟨_, rfl⟩
      have l2 : M2.length = 24 := by rw [← hM2, List.length_append, l1]; rfl
      obtain ⟨M3, hM3⟩ : ∃ M3, M2 ++ p.dst.bytes = M3 := ⟨_, rfl⟩
      have l3 : M3.length = 40 := by rw [← hM3, List.length_append, l2]; rfl
      obtain ⟨M6, hM6⟩ : ∃ M6, M3 ++ FR = M6 := ⟨_, rfl⟩
      have l6 : M6.length = 40 + FR.length := by rw [← hM6, List.length_append, l3]
      obtain ⟨M7, hM7⟩ : ∃ M7, M6 ++ p.load = M7 := ⟨_, rfl⟩
      have hfr : frag6 p = FR := by
        unfold frag6
        rw [hw, ← hFR]
        simp
      have hfin : bytes6 p = M7 := by
        unfold bytes6
        rw [hfr, hw, ← hM7, ← hM6, ← hM3, ← hM2, ← hM1, ← hM0]
        simp
      have HP1 := hid fun W v1 v2 (h1 : RB W v1 [0x60, 0, 0, 0]) (h2 : RN W v2 [UInt64.ofNat (FR.length + p.load.length)]) => rput_any v1 v2 [0x60, 0, 0, 0] 2 [UInt64.ofNat (FR.length + p.load.length)] W h1 h2 (by omega) (by omega) (by simp)
      rw [put2_one (FR.length + p.load.length) (by omega), hM0] at HP1
      have HM1 := hid hM1
      have HM2 := hid hM2
      have HM3 := hid hM3
      have HM6 := hid hM6
      have HM7 := hid hM7
      have L0 := hid l0
      have L1 := hid l1
      have L2 := hid l2
      have L3 := hid l3
      rw [lF] at l6
      have L6 := hid l6
      have LF := hid lF
      have HF := hid hfin
      have HSZ := hid (show (p.load.length : Int) = ((FR.length + p.load.length : Nat) : Int) by omega)
      have hlF : FR.length ≤ 8 := by omega
      have HWI := hid (show IntKind.u64.wrap (p.id : Int) = (p.id : Int) by rw [IntKind.wrap_u64]; omega)
      clear lF hfin hfr hFR hM0 hM1 hM2 hM3 hM6 hM7 l0 l1 l2 l3 l6
      go_upto_region 11 with (first
        | ((with_reducible refine at_slot 8 ?_); refine wpList_load_row rfl 28 (.tmp 1) rfl w.heap.size rfl _ (p.cells (.slice A p.load.length c)) _ _ h1 Try.underlying28 rfl (info_pkt _ _) ?_)
        | (go_at_call 14; (with_reducible refine Calls.mono (HM.out _ (HRB.out _ hb1)) ?_); rintro e w2 ⟨rfl, hb2⟩; obtain ⟨g0, g1, g2, g3, g4, g5, g6, g7, g8⟩ := pkt_cells ((hb2.block w.heap.size hl1).trans h1); rw [hw] at g5; clear g0 g1 g3 g4 g8 g6 g7))
      skip
      go_upto_region 12 with (first
        | ((with_reducible refine at_slot 34 ?_); refine wpList_litF rfl 26 5 4 _ rfl #[(0, .int .u8 96), (1, .int .u8 0), (2, .int .u8 0), (3, .int .u8 0)] (by simp [Act.eval]) _ (lit8_4 _ _ _ _) ?_; intro u4 h4 hb4 s4; clear s4; have q8 := keep_cell (hb2.trans (hb4.mono hb2.size)) f8 hl1)
        | ((with_reducible refine at_slot 42 ?_); refine wpList_litF rfl 52 49 1 _ rfl #[(0, .int .u64 (p.load.length : Int))] (by simp [Act.eval]) _ (lit64_1 _) ?_; intro u5 h5 hb5 s5; clear s5; rw [HSZ.out] at h5)
        | (go_at_call 24; (with_reducible refine Calls.mono (HP1.out u5 _ _ (RB.below (RB.lit h4 rfl (by omega) rfl) hb5) (RN.lit1 h5 (by omega))) ?_); rintro e u6 ⟨A6, k6, rfl, o7, hb6⟩))
      have hub' := (hb2.trans (hb4.mono hb2.size)).trans (hb5.mono (Nat.le_trans hb2.size hb4.size))
      have hub := hub'
      obtain ⟨bs, hbs⟩ : ∃ bs, bs = u5.heap.size := ⟨_, rfl⟩
      have hbs1 : w1.heap.size ≤ bs := by rw [hbs]; exact hub.size
      have HFB : Hid (∀ W, Below bs u5 W → RB W (.slice none 0 0) FR) := fun W _ => by rw [List.eq_nil_of_length_eq_zero LF.out]; exact RB.nil _
      rw [← hbs] at o7 hb6
      have hz6 : bs ≤ u6.heap.size := by have := hb6.size; omega
      clear hbs h4 h5 hb4 hb5 hub' hb2
      have o7 : OB { u6 with drawn := u6.drawn + 1 } bs (.slice A6 M0.length k6) M0 := o7
      have hz6 : bs ≤ ({ u6 with drawn := u6.drawn + 1 } : World).heap.size := hz6
      refine wp_region_hand (fun W' => Below bs u5 W') (by kernel_rfl) (below_drewN hb6 1) ?_
      intro hS
      clear hb6
      generalize ({ u6 with drawn := u6.drawn + 1 } : World) = u7 at hS o7 hz6 ⊢
      refine wpAnyH_take (i := 0) (oi := ⟨some 44, _, _, _, _, _⟩) (v := ?_) rfl (by kernel_rfl) (by kernel_rfl) (by kernel_rfl) (fun _ _ _ h => h) (Or.inl ⟨by rfl, ?_⟩) hS ?_
      rotate_left 1
      focus ((intro W' hS'; go_simp) <;> with_reducible rfl)
      try simp only [Act.put, List.setIfInBounds_toArray, List.set_cons_zero, List.set_cons_succ]
      refine wpAnyH_take (i := 1) (oi := ⟨some 45, _, _, _, _, _⟩) (v := ?_) rfl (by kernel_rfl) (by kernel_rfl) (by kernel_rfl) (fun _ _ _ h => h) (Or.inl ⟨by rfl, ?_⟩) hS ?_
      rotate_left 1
      focus ((intro W' hS'; go_simp) <;> with_reducible rfl)
      try simp only [Act.put, List.setIfInBounds_toArray, List.set_cons_zero, List.set_cons_succ]
      refine wpAnyH_take (i := 2) (oi := ⟨some 46, _, _, _, _, _⟩) (v := ?_) rfl (by kernel_rfl) (by kernel_rfl) (by kernel_rfl) (fun _ _ _ h => h) (Or.inl ⟨by rfl, ?_⟩) hS ?_
      rotate_left 1
      focus ((intro W' hS'; go_simp) <;> with_reducible rfl)
      try simp only [Act.put, List.setIfInBounds_toArray, List.set_cons_zero, List.set_cons_succ]
      refine wpAnyH_take (i := 3) (oi := ⟨some 47, _, _, _, _, _⟩) (v := ?_) rfl (by kernel_rfl) (by kernel_rfl) (by kernel_rfl) (fun _ _ _ h => h) (Or.inl ⟨by rfl, ?_⟩) hS ?_
      rotate_left 1
      focus ((intro W' hS'; have q1 := keep_cell (hub.trans (hS'.mono hbs1)) f3 hl1; go_simp) <;> with_reducible rfl)
      try simp only [Act.put, List.setIfInBounds_toArray, List.set_cons_zero, List.set_cons_succ]
      refine wpAnyH_take (i := 6) (oi := ⟨some 50, _, _, _, _, _⟩) (v := ?_) rfl (by kernel_rfl) (by kernel_rfl) (by kernel_rfl) (fun _ _ _ h => h) (Or.inl ⟨by rfl, ?_⟩) hS ?_
      rotate_left 1
      focus ((intro W' hS'; go_simp) <;> with_reducible rfl)
      try simp only [Act.put, List.setIfInBounds_toArray, List.set_cons_zero, List.set_cons_succ]
      refine wpAnyH_take (i := 7) (oi := ⟨some 51, _, _, _, _, _⟩) (v := ?_) rfl (by kernel_rfl) (by kernel_rfl) (by kernel_rfl) (fun _ _ _ h => h) (Or.inl ⟨by rfl, ?_⟩) hS ?_
      rotate_left 1
      focus ((intro W' hS'; go_simp) <;> with_reducible rfl)
      try simp only [Act.put, List.setIfInBounds_toArray, List.set_cons_zero, List.set_cons_succ]
      refine wpAnyH_take (i := 8) (oi := ⟨some 52, _, _, _, _, _⟩) (v := ?_) rfl (by kernel_rfl) (by kernel_rfl) (by kernel_rfl) (fun _ _ _ h => h) (Or.inl ⟨by rfl, ?_⟩) hS ?_
      rotate_left 1
      focus ((intro W' hS'; go_simp) <;> with_reducible rfl)
      try simp only [Act.put, List.setIfInBounds_toArray, List.set_cons_zero, List.set_cons_succ]
      refine wpAnyH_take (i := 10) (oi := ⟨some 54, _, _, _, _, _⟩) (v := ?_) rfl (by kernel_rfl) (by kernel_rfl) (by kernel_rfl) (fun _ _ _ h => h) (Or.inl ⟨by rfl, ?_⟩) hS ?_
      rotate_left 1
      focus ((intro W' hS'; go_simp) <;> with_reducible rfl)
      try simp only [Act.put, List.setIfInBounds_toArray, List.set_cons_zero, List.set_cons_succ]
      refine wpAnyH_take (i := 11) (oi := ⟨some 55, _, _, _, _, _⟩) (v := ?_) rfl (by kernel_rfl) (by kernel_rfl) (by kernel_rfl) (fun _ _ _ h => h) (Or.inl ⟨by rfl, ?_⟩) hS ?_
      rotate_left 1
      focus ((intro W' hS'; go_simp) <;> with_reducible rfl)
      try simp only [Act.put, List.setIfInBounds_toArray, List.set_cons_zero, List.set_cons_succ]
      refine wpAnyH_take (i := 12) (oi := ⟨some 56, _, _, _, _, _⟩) (v := ?_) rfl (by kernel_rfl) (by kernel_rfl) (by kernel_rfl) (fun _ _ _ h => h) (Or.inl ⟨by rfl, ?_⟩) hS ?_
      rotate_left 1
      focus ((intro W' hS'; go_simp) <;> with_reducible rfl)
      try simp only [Act.put, List.setIfInBounds_toArray, List.set_cons_zero, List.set_cons_succ]
      refine anyH_one (i := 4) (by kernel_rfl) ⟨some 48, _, _, _, _, _⟩ rfl (by rfl) ?_
      refine wp_litF 26 5 2 _ rfl #[(0, .int .u8 (p.proto.toNat : Int)), (1, .int .u8 (p.hops.toNat : Int))] (by simp [Act.eval]) _ (lit8_2 _ _) ?_
      intro v1 h hb s
      have hT1 := hS.trans (hb.mono (by omega))
      refine ⟨hT1, ?_⟩
      have o71 := o7.below hb
      have hz1 := hb.size
      have rl : RB v1 (.slice (some ⟨_, 0, none⟩) 2 2) [p.proto, p.hops] := RB.lit h rfl (by omega) rfl
      clear hS hb o7 h s
      have hS := hT1
      clear hT1
      try simp only [Act.put, List.setIfInBounds_toArray, List.set_cons_zero, List.set_cons_succ]
      refine anyH_one (i := 5) (by kernel_rfl) ⟨some 49, _, _, _, _, _⟩ rfl (by rfl) ?_
      refine wp_append8 (.tmp 44) (.tmp 48) bs M0 [p.proto, p.hops] M1 HM1.out rfl rfl rfl rfl o71 rl (by rw [L0.out]; simp) (by omega) ?_
      intro A2 k2 v2 o2 hb2
      have hT2 := hS.trans hb2
      refine ⟨hT2, ?_⟩
      have hz2 := hb2.size
      clear hS hb2
      have hS := hT2
      clear hT2
      try simp only [Act.put, List.setIfInBounds_toArray, List.set_cons_zero, List.set_cons_succ]
      refine anyH_one (i := 9) (by kernel_rfl) ⟨some 53, _, _, _, _, _⟩ rfl (by rfl) ?_
      refine wp_append8 (.tmp 49) (.tmp 52) bs M1 p.src.bytes M2 HM2.out rfl rfl rfl rfl o2 (HSB.out _ (hub.trans (hS.mono hbs1))) (by rw [L1.out]; simp [Adr.bytes_length]) (by omega) ?_
      intro A3 k3 v3 o3 hb3
      have hT3 := hS.trans hb3
      refine ⟨hT3, ?_⟩
      have hz3 := hb3.size
      clear hS hb3
      have hS := hT3
      clear hT3
      try simp only [Act.put, List.setIfInBounds_toArray, List.set_cons_zero, List.set_cons_succ]
      refine anyH_one (i := 13) (by kernel_rfl) ⟨some 57, _, _, _, _, _⟩ rfl (by rfl) ?_
      refine wp_append8 (.tmp 53) (.tmp 56) bs M2 p.dst.bytes M3 HM3.out rfl rfl rfl rfl o3 (HDB.out _ (hub.trans (hS.mono hbs1))) (by rw [L2.out]; simp [Adr.bytes_length]) (by omega) ?_
      intro A4 k4 v4 o4 hb4
      have hT4 := hS.trans hb4
      refine ⟨hT4, ?_⟩
      have hz4 := hb4.size
      clear hS hb4
      have hS := hT4
      clear hT4
      try simp only [Act.put, List.setIfInBounds_toArray, List.set_cons_zero, List.set_cons_succ]
      refine wpAnyH_take (i := 14) (oi := ⟨some 7, _, _, _, _, _⟩) (v := ?_) rfl (by kernel_rfl) (by kernel_rfl) (by kernel_rfl) (fun _ _ _ h => h) (Or.inl ⟨by rfl, ?_⟩) hS ?_
      rotate_left 1
      focus ((intro W' hS'; go_simp) <;> with_reducible rfl)
      try simp only [Act.put, List.setIfInBounds_toArray, List.set_cons_zero, List.set_cons_succ]
      refine wpAnyH_done (by kernel_rfl) ?_ _
      have hz4' : bs ≤ v4.heap.size := by omega
      clear o71 o2 o3 hz1 hz2 hz3 hz4 hz6 rl
      go_wp2_with fail
      have o4 : OB { v4 with drawn := v4.drawn + 1 } bs (.slice A4 M3.length k4) M3 := o4
      have hz4 : bs ≤ ({ v4 with drawn := v4.drawn + 1 } : World).heap.size := hz4'
      refine wp_region_hand (fun W' => Below bs u5 W') (by kernel_rfl) (below_drewN hS 1) ?_
      clear hS
      intro hS
      generalize ({ v4 with drawn := v4.drawn + 1 } : World) = v5 at hS o4 hz4 ⊢
      refine wpAnyH_take (i := 0) (oi := ⟨some 58, _, _, _, _, _⟩) (v := ?_) rfl (by kernel_rfl) (by kernel_rfl) (by kernel_rfl) (fun _ _ _ h => h) (Or.inl ⟨by rfl, ?_⟩) hS ?_
      rotate_left 1
      focus ((intro W' hS'; go_simp) <;> with_reducible rfl)
      try simp only [Act.put, List.setIfInBounds_toArray, List.set_cons_zero, List.set_cons_succ]
      refine wpAnyH_take (i := 1) (oi := ⟨some 59, _, _, _, _, _⟩) (v := ?_) rfl (by kernel_rfl) (by kernel_rfl) (by kernel_rfl) (fun _ _ _ h => h) (Or.inl ⟨by rfl, ?_⟩) hS ?_
      rotate_left 1
      focus ((intro W' hS'; go_simp) <;> with_reducible rfl)
      try simp only [Act.put, List.setIfInBounds_toArray, List.set_cons_zero, List.set_cons_succ]
      refine wpAnyH_take (i := 3) (oi := ⟨some 61, _, _, _, _, _⟩) (v := ?_) rfl (by kernel_rfl) (by kernel_rfl) (by kernel_rfl) (fun _ _ _ h => h) (Or.inl ⟨by rfl, ?_⟩) hS ?_
      rotate_left 1
      focus ((intro W' hS'; go_simp) <;> with_reducible rfl)
      try simp only [Act.put, List.setIfInBounds_toArray, List.set_cons_zero, List.set_cons_succ]
      refine wpAnyH_take (i := 4) (oi := ⟨some 62, _, _, _, _, _⟩) (v := ?_) rfl (by kernel_rfl) (by kernel_rfl) (by kernel_rfl) (fun _ _ _ h => h) (Or.inl ⟨by rfl, ?_⟩) hS ?_
      rotate_left 1
      focus ((intro W' hS'; have q1 := keep_cell (hub.trans (hS'.mono hbs1)) f8 hl1; go_simp) <;> with_reducible rfl)
      try simp only [Act.put, List.setIfInBounds_toArray, List.set_cons_zero, List.set_cons_succ]
      refine anyH_one (i := 2) (by kernel_rfl) ⟨some 60, _, _, _, _, _⟩ rfl (by rfl) ?_
      refine wp_append8 (.tmp 58) (.tmp 59) bs M3 FR M6 HM6.out rfl rfl rfl rfl o4 (HFB.out _ hS) (by rw [L3.out, LF.out]; decide) (by omega) ?_
      intro A6 k6 v6 o6 hb6
      have hT6 := hS.trans hb6
      refine ⟨hT6, ?_⟩
      have hz6 := hb6.size
      clear hS hb6
      have hS := hT6
      clear hT6
      try simp only [Act.put, List.setIfInBounds_toArray, List.set_cons_zero, List.set_cons_succ]
      refine anyH_one (i := 5) (by kernel_rfl) ⟨some 63, _, _, _, _, _⟩ rfl (by rfl) ?_
      refine wp_append8 (.tmp 60) (.tmp 62) bs M6 p.load M7 HM7.out rfl rfl rfl rfl o6 (HRB.out _ (hb1.trans ((hub.trans (hS.mono hbs1)).mono hb1.size))) (by rw [L6.out]; omega) (by omega) ?_
      intro A7 k7 v7 o7 hb7
      have hT7 := hS.trans hb7
      refine ⟨hT7, ?_⟩
      have hz7 := hb7.size
      clear hS hb7
      have hS := hT7
      clear hT7
      try simp only [Act.put, List.setIfInBounds_toArray, List.set_cons_zero, List.set_cons_succ]
      refine wpAnyH_take (i := 6) (oi := ⟨some 2, _, _, _, _, _⟩) (v := ?_) rfl (by kernel_rfl) (by kernel_rfl) (by kernel_rfl) (fun _ _ _ h => h) (Or.inl ⟨by rfl, ?_⟩) hS ?_
      rotate_left 1
      focus ((intro W' hS'; go_simp) <;> with_reducible rfl)
      try simp only [Act.put, List.setIfInBounds_toArray, List.set_cons_zero, List.set_cons_succ]
      refine wpAnyH_take (i := 7) (oi := ⟨some 3, _, _, _, _, _⟩) (v := ?_) rfl (by kernel_rfl) (by kernel_rfl) (by kernel_rfl) (fun _ _ _ h => h) (Or.inl ⟨by rfl, ?_⟩) hS ?_
      rotate_left 1
      focus ((intro W' hS'; go_simp) <;> with_reducible rfl)
      try simp only [Act.put, List.setIfInBounds_toArray, List.set_cons_zero, List.set_cons_succ]
      refine wpAnyH_done (by kernel_rfl) ?_ _
      go_wp2_with fail
      go_ret2
      exact BytesPost.of (by rw [← HF.out]; exact HR.out) rfl (Nat.le_trans hb1.size hbs1) o7 (hb1.trans ((hub.trans (hS.mono hbs1)).mono hb1.size))
end Go.Proofs.Ytlijgcmcpehplaa
