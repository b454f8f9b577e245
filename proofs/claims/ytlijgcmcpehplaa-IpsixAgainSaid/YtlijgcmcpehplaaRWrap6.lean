/- Walk: the reference's Wrap. -/
import Derived.Test.YtlijgcmcpehplaaWrap6
import Derived.Test.YtlijgcmcpehplaaBuf
import Derived.Test.YtlijgcmcpehplaaRegM
import Derived.Test.YtlijgcmcpehplaaOctR
namespace Go.Proofs.Ytlijgcmcpehplaa
set_option linter.unusedVariables false
set_option linter.unusedSimpArgs false
open Go.RowKit

set_option maxRecDepth 100000 in
set_option maxHeartbeats 2000000 in
theorem rwrap6_any (v u : Value) (b load : List UInt8) (next : UInt8) (w : World) (hx : RB w v b) (hy : RB w u load) (hl : b.length ≤ 3000) (hl2 : load.length ≤ 3000) :
    Calls Try.prog 16 #[v, .int .u8 (next.toNat : Int), u] w (BytesPost (wrap6 b next load) w) := by
  have HX := hid hx
  have HY := hid hy
  obtain ⟨Au, cu, rfl, hru⟩ := hy
  have hcu := hru.cap
  have htu := hru.top
  clear hru
  have hh : wrap6 b next load = if !isPastS next then ([], 11)
    else if load.length % 8 ≠ 6 ∨ 2046 < load.length then ([], 1)
    else if (parse6 b).2 ≠ 0 then ([], (parse6 b).2)
    else if !(parse6 b).1.whole || !decide (b.getD 6 0 = (parse6 b).1.proto) || decide (65535 < size6 b load) then ([], 1)
    else (wrapped6 b next load, 0) := rfl
  generalize hr : wrap6 b next load = r at hh
  have HH := hid hh
  have hnx := next.toNat_lt
  clear hr hh
  have hpn : isPastS next = (decide ((next.toNat : Int) = 0) || decide ((next.toNat : Int) = 43) || decide ((next.toNat : Int) = 60)) := by
    unfold isPastS
    rw [Bool.eq_iff_iff]
    simp [← UInt8.toNat_inj]
    omega
  have hN3 : (((next.toNat : Int) != 0) = true ∧ ((next.toNat : Int) != 43) = true ∧ ((next.toNat : Int) != 60) = true ∧ isPastS next = false) ∨ (((next.toNat : Int) != 0) = false ∧ isPastS next = true) ∨ (((next.toNat : Int) != 0) = true ∧ ((next.toNat : Int) != 43) = false ∧ isPastS next = true) ∨ (((next.toNat : Int) != 0) = true ∧ ((next.toNat : Int) != 43) = true ∧ ((next.toNat : Int) != 60) = false ∧ isPastS next = true) := by
    rw [hpn]
    by_cases h1 : (next.toNat : Int) = 0
    · right; left; simp [h1]
    · by_cases h2 : (next.toNat : Int) = 43
      · right; right; left; simp [h2]
      · by_cases h3 : (next.toNat : Int) = 60
        · right; right; right; simp [h3]
        · left; simp [h1, h2, h3]; omega
  clear hpn
  have hN4 : (((next.toNat : Int) != 0) = true ∧ ((next.toNat : Int) != 43) = true ∧ ((next.toNat : Int) != 60) = true ∧ isPastS next = false) ∨ ((((next.toNat : Int) != 0) = false ∨ (((next.toNat : Int) != 0) = true ∧ ((next.toNat : Int) != 43) = false) ∨ (((next.toNat : Int) != 0) = true ∧ ((next.toNat : Int) != 43) = true ∧ ((next.toNat : Int) != 60) = false)) ∧ isPastS next = true) := by
    rcases hN3 with h | ⟨h1, h2⟩ | ⟨h1, h2, h3⟩ | ⟨h1, h2, h3, h4⟩
    · exact .inl h
    · exact .inr ⟨.inl h1, h2⟩
    · exact .inr ⟨.inr (.inl ⟨h1, h2⟩), h3⟩
    · exact .inr ⟨.inr (.inr ⟨h1, h2, h3⟩), h4⟩
  clear hN3
  rcases hN4 with ⟨n0, n43, n60, hp⟩ | ⟨hN, hp⟩
  · have HR : Hid (r = ([], 11)) := by rw [HH.out, hp]; exact rfl
    go_enter Try.func16, Try.ntmps16
    go_wp2_with fail
    go_ret2
    exact BytesPost.nil HR.out (Below.refl _ _)
  · rcases hN with n0 | ⟨n0, n43⟩ | ⟨n0, n43, n60⟩
    all_goals
      by_cases h8 : load.length % 8 ≠ 6 ∨ 2046 < load.length
      · have HR : Hid (r = ([], 1)) := by rw [HH.out, hp, if_neg (by simp), if_pos h8]; exact rfl
        have h8' : (((load.length : Int) % 8 != 6) = true) ∨ (((load.length : Int) % 8 != 6) = false ∧ decide ((2046 : Int) < (load.length : Int)) = true) := by
          by_cases h6 : load.length % 8 = 6
          · right; refine ⟨by simp; omega, by simp; omega⟩
          · left; simp; omega
        clear h8
        go_enter Try.func16, Try.ntmps16
        rcases h8' with h8 | ⟨h8, h9⟩
        all_goals
          go_wp2_with fail
          go_ret2
          exact BytesPost.nil HR.out (Below.refl _ _)
      · have h86 : ((load.length : Int) % 8 != 6) = false := by simp; omega
        have h20 : decide ((2046 : Int) < (load.length : Int)) = false := by simp; omega
        have h20' : load.length ≤ 2046 := by omega
        have HPA := hid (rparse6_any v b w HX.out (by omega))
        have hlen := parse6_len b
        have HH2 : Hid (r = if (parse6 b).2 ≠ 0 then ([], (parse6 b).2)
          else if !(parse6 b).1.whole || !decide (b.getD 6 0 = (parse6 b).1.proto) || decide (65535 < size6 b load) then ([], 1)
          else (wrapped6 b next load, 0)) := by
          have := HH.out
          rw [hp, if_neg (by simp), if_neg h8] at this
          exact this
        have H8 := hid h8
        clear HH h8
        unfold ParPost at HPA
        generalize parse6 b = pr at HPA hlen HH2
        obtain ⟨p, n⟩ := pr
        simp only at hlen HH2
        have HL := hid hlen
        clear hlen
        have hpp := p.proto.toNat_lt
        by_cases hn : n = 0
        · subst hn
          obtain ⟨h40, _⟩ := HL.out rfl
          obtain ⟨A, c, rfl, hrow⟩ := HX.out
          obtain ⟨ad, rfl⟩ := hrow.addr (by rw [by8_length]; omega)
          have hcap := hrow.cap
          have htop := hrow.top
          have e6 := hrow.lit 6 _ (by omega) (by8_get b 6 (by omega))
          have hA6 := World.block_lt_of_cell? w _ e6
          have hbl := (b.getD 6 0).toNat_lt
          obtain ⟨k6, hk6⟩ : ∃ k6, k6 = b.getD 6 0 := ⟨_, rfl⟩
          rw [← hk6] at e6 hbl HH2
          obtain ⟨B4, k4, r4, hr4, _⟩ := cut_lh HX.out 4 6 4 6 rfl rfl (by omega) (by omega)
          have hG := hid fun W (h : RB W (.slice B4 2 k4) ((b.drop 4).take 2)) => rget_any _ _ W h
          rw [getS_short _ (by rw [List.length_take]; omega)] at hG
          have HG := hid hG.out
          have hsz : size6 b load = be ((b.drop 4).take 2) + 2 + load.length := rfl
          have hnm := be2_max b 4
          obtain ⟨z, hz⟩ : ∃ z, z = size6 b load := ⟨_, rfl⟩
          rw [← hz] at HH2 hsz
          generalize hN : be ((b.drop 4).take 2) = nn at hsz hG HG hnm
          have hzz : (nn : Int) + (load.length : Int) + 2 = (z : Int) := by omega
          have HZ := hid hz
          have HK6 := hid hk6
          have HSZ := hid hsz
          have hzm : z ≤ 70000 := by omega
          have HZZ := hid hzz
          clear hz hk6 hN hG hsz hrow hzz
          have hl6 : (6 : Int) < (b.length : Int) := by omega
          have hl6' : 6 < b.length := by omega
          have h4 : p.whole = false ∨ (p.whole = true ∧ ((k6.toNat : Int) != (p.proto.toNat : Int)) = true) ∨ (p.whole = true ∧ ((k6.toNat : Int) != (p.proto.toNat : Int)) = false ∧ decide ((65535 : Int) < (z : Int)) = true) ∨ (p.whole = true ∧ ((k6.toNat : Int) != (p.proto.toNat : Int)) = false ∧ decide ((65535 : Int) < (z : Int)) = false) := by
            cases p.whole <;> cases ((k6.toNat : Int) != (p.proto.toNat : Int)) <;> cases decide ((65535 : Int) < (z : Int)) <;> simp
          have hpe : ((k6.toNat : Int) != (p.proto.toNat : Int)) = true ↔ ¬ k6 = p.proto := by simp [← UInt8.toNat_inj]; omega
          have HPE := hid hpe
          clear hpe
          go_enter Try.func16, Try.ntmps16
          go_wp2_with (first
          | (go_at_call 19; refine Calls.mono HPA.out ?_; rintro e w1 ⟨dv, rfl, hr1, hb1⟩)
          | ((with_reducible refine at_slot 8 ?_); refine wpList_allocF rfl 28 rfl (noPkt.cells nilS) alloc_noPkt ?_; intro w2 h2 hb2 s2)
          | ((with_reducible refine at_store 8 34 ?_); refine wpList_rowF rfl 28 (.tmp 8) (.tmp 34) rfl w1.heap.size 28 _ (p.cells dv) rfl rfl h2 (info_pkt _ _) rfl (Pkt.one _ _ hr1.one) ?_; intro w3 h3 m3 s3; have hB3 := m3.below (hb1.trans (hb2.mono hb1.size)) (Nat.le_refl _) (by simp; exact hb1.size); clear m3 hb1 hb2 h2)
          | (go_at_call 29; (with_reducible refine Calls.mono (HG.out _ (hr4.below hB3)) ?_); rintro e w' ⟨rfl, rfl⟩))
          have hzz := HZZ.out
          have q6 := keep_cell hB3 e6 hA6
          obtain ⟨c0, c1, c2, c3, c4, c5, c6, c7, c8⟩ := pkt_cells h3
          clear c0 c1 c3 c4 c6 c7 c8 r4 hr4 HG
          rcases h4 with hw | ⟨hw, hk⟩ | ⟨hw, hk, hs⟩ | ⟨hw, hk, hs⟩
          · have HR : Hid (r = ([], 1)) := by rw [HH2.out, if_neg (by simp), hw]; exact rfl
            rw [hw] at c5
            clear hw
            go_quiet (fail)
            go_wp2_with fail
            go_ret2
            exact BytesPost.nil HR.out (below_drewN hB3 _)
          · have HR : Hid (r = ([], 1)) := by rw [HH2.out, if_neg (by simp), hw, decide_eq_false (HPE.out.1 hk)]; exact rfl
            rw [hw] at c5
            clear hw
            go_quiet (fail)
            go_wp2_with fail
            go_ret2
            exact BytesPost.nil HR.out (below_drewN hB3 _)
          · have HR : Hid (r = ([], 1)) := by
              have hz : 65535 < z := by simp at hs; omega
              rw [HH2.out, if_neg (by simp), if_pos (by simp [hz])]; exact rfl
            rw [hw] at c5
            clear hw
            go_quiet (fail)
            go_wp2_with fail
            go_ret2
            exact BytesPost.nil HR.out (below_drewN hB3 _)
          · have hkp : k6 = p.proto := by
              rcases Classical.em (k6 = p.proto) with h | h
              · exact h
              · rw [HPE.out.2 h] at hk; cases hk
            have HR : Hid (r = (wrapped6 b next load, 0)) := by
              have hz : ¬ 65535 < z := by simp at hs; omega
              rw [HH2.out, if_neg (by simp), if_neg (by simp [hw, hkp, hz])]; exact rfl
            have HKP := hid hkp
            rw [hw] at c5
            clear hw hkp
            obtain ⟨B40, k40, r40, hr40, _⟩ := cut_h HX.out 4 4 rfl (by omega)
            obtain ⟨B41, k41, r41, hr41, _⟩ := cut_l HX.out 40 40 rfl (by omega)
            obtain ⟨B7, k7, r7, hr7, _⟩ := cut_lh HX.out 7 40 7 40 rfl rfl (by omega) (by omega)
            have l40 : (b.take 4).length = 4 := by rw [List.length_take]; omega
            have hput := fun W (v2 : Value) h1 h2 => rput_any (.slice B40 4 k40) v2 (b.take 4) 2 [UInt64.ofNat z] W h1 h2 (by omega) (by omega) (by rw [l40]; simp)
            rw [put2_one z (by omega)] at hput
            obtain ⟨L1, hL1⟩ : ∃ L1, b.take 4 ++ beB 2 z = L1 := ⟨_, rfl⟩
            have hl1 : L1.length = 6 := by rw [← hL1, List.length_append, l40, beB_length]
            rw [hL1] at hput
            obtain ⟨L2, hL2⟩ : ∃ L2, L1 ++ [next] = L2 := ⟨_, rfl⟩
            have hl2' : L2.length = 7 := by rw [← hL2, List.length_append, hl1]; rfl
            obtain ⟨L3, hL3⟩ : ∃ L3, L2 ++ (b.drop 7).take 33 = L3 := ⟨_, rfl⟩
            have hl3 : L3.length = 40 := by rw [← hL3, List.length_append, hl2', List.length_take, List.length_drop]; omega
            obtain ⟨L4, hL4⟩ : ∃ L4, L3 ++ [k6, UInt8.ofNat ((load.length + 2) / 8 - 1)] = L4 := ⟨_, rfl⟩
            have hl4 : L4.length = 42 := by rw [← hL4, List.length_append, hl3]; rfl
            obtain ⟨L5, hL5⟩ : ∃ L5, L4 ++ load = L5 := ⟨_, rfl⟩
            have hl5 : L5.length = 42 + load.length := by rw [← hL5, List.length_append, hl4]
            obtain ⟨L6, hL6⟩ : ∃ L6, L5 ++ b.drop 40 = L6 := ⟨_, rfl⟩
            have hfin : L6 = wrapped6 b next load := by
              have e8 : (load.length + 2) / 8 - 1 = load.length / 8 := by have := H8.out; omega
              rw [← hL6, ← hL5, ← hL4, ← hL3, ← hL2, ← hL1, e8, HK6.out, HZ.out, wrapped6]
              simp
            have HLEN := hid (show L1.length = 6 ∧ L2.length = 7 ∧ L3.length = 40 ∧ L4.length = 42 ∧ L5.length = 42 + load.length ∧ ((b.drop 7).take 33).length ≤ 33 ∧ (b.drop 40).length ≤ 3000 from ⟨hl1, hl2', hl3, hl4, hl5, by rw [List.length_take]; omega, by rw [List.length_drop]; omega⟩)
            have HPUT := hid hput
            have HL2 := hid hL2
            have HL3 := hid hL3
            have HL4 := hid hL4
            have HL5 := hid hL5
            have HL6 := hid hL6
            have HFIN := hid hfin
            have V3 := hid (show (((load.length : Int) + 2) / 8 - 1) % 256 = ((UInt8.ofNat ((load.length + 2) / 8 - 1)).toNat : Int) by have := H8.out; rw [UInt8.toNat_ofNat']; omega)
            clear l40 hput hL1 hl1 hL2 hl2' hL3 hl3 hL4 hl4 hL5 hl5 hL6 hfin
            go_quiet (fail)
            have hB4 := below_drewN hB3 nq
            generalize w3.drewN nq = w4 at hB4 ⊢
            clear h3 hB3 q6 c2 c5 s2 s3
            go_upto_region 12 with (first
              | ((with_reducible refine at_slot 66 ?_); refine wpList_litF rfl 52 49 1 _ rfl #[(0, .int .u64 (z : Int))] (by simp [Act.eval]) _ (lit64_1 _) ?_; intro w5 h5 hb5 s5)
              | (go_at_call 24; (with_reducible refine Calls.mono (HPUT.out w5 _ (hr40.below (hB4.trans (hb5.mono hB4.size))) (RN.lit1 h5 (by omega))) ?_); rintro e w6 ⟨A6, c6, rfl, o6, hb6⟩))
            have hz4 := hB4.size
            have hS : Below w.heap.size w w6 := (hB4.trans (hb5.mono hz4)).trans (hb6.mono (by omega))
            obtain ⟨bs, hbse⟩ : ∃ bs, bs = w5.heap.size := ⟨_, rfl⟩
            rw [← hbse] at o6
            have hbs := hid (show w.heap.size ≤ bs by omega)
            have hz6 : bs ≤ w6.heap.size := by have := hb6.size; omega
            clear hB4 h5 hb5 s5 hb6 hbse hz4 hzz
            refine wp_region_hand (fun W' => Below w.heap.size w W') (by kernel_rfl) (below_drewN hS 1) ?_
            intro hS
            have o6 : OB { w6 with drawn := w6.drawn + 1 } bs (.slice A6 L1.length c6) L1 := o6
            have hz6 : bs ≤ ({ w6 with drawn := w6.drawn + 1 } : World).heap.size := hz6
            generalize ({ w6 with drawn := w6.drawn + 1 } : World) = u6 at hS o6 hz6 ⊢
            clear HPUT
            refine wpAnyH_take (i := 0) (oi := ⟨some 68, _, _, _, _, _⟩) (v := ?_) rfl (by kernel_rfl) (by kernel_rfl) (by kernel_rfl) (fun _ _ _ h => h) (Or.inl ⟨by rfl, ?_⟩) hS ?_
            rotate_left 1
            focus ((intro W' hS'; go_simp) <;> with_reducible rfl)
            try simp only [Act.put, List.setIfInBounds_toArray, List.set_cons_zero, List.set_cons_succ]
            refine wpAnyH_take (i := 1) (oi := ⟨some 69, _, _, _, _, _⟩) (v := ?_) rfl (by kernel_rfl) (by kernel_rfl) (by kernel_rfl) (fun _ _ _ h => h) (Or.inl ⟨by rfl, ?_⟩) hS ?_
            rotate_left 1
            focus ((intro W' hS'; go_simp) <;> with_reducible rfl)
            try simp only [Act.put, List.setIfInBounds_toArray, List.set_cons_zero, List.set_cons_succ]
            refine wpAnyH_take (i := 4) (oi := ⟨some 72, _, _, _, _, _⟩) (v := ?_) rfl (by kernel_rfl) (by kernel_rfl) (by kernel_rfl) (fun _ _ _ h => h) (Or.inl ⟨by rfl, ?_⟩) hS ?_
            rotate_left 1
            focus ((intro W' hS'; go_simp) <;> with_reducible rfl)
            try simp only [Act.put, List.setIfInBounds_toArray, List.set_cons_zero, List.set_cons_succ]
            refine wpAnyH_take (i := 5) (oi := ⟨some 73, _, _, _, _, _⟩) (v := ?_) rfl (by kernel_rfl) (by kernel_rfl) (by kernel_rfl) (fun _ _ _ h => h) (Or.inl ⟨by rfl, ?_⟩) hS ?_
            rotate_left 1
            focus ((intro W' hS'; have q1 := r7; go_simp) <;> with_reducible rfl)
            try simp only [Act.put, List.setIfInBounds_toArray, List.set_cons_zero, List.set_cons_succ]
            refine anyH_one (i := 2) (by kernel_rfl) ⟨some 70, _, _, _, _, _⟩ rfl (by rfl) ?_
            refine wp_litF 26 5 1 _ rfl #[(0, .int .u8 (next.toNat : Int))] (by simp [Act.eval]) _ (lit8_1 _) ?_
            intro u1 h1 hb1 s1
            have hS1 := hS.trans (hb1.mono hS.size)
            refine ⟨hS1, ?_⟩
            have o61 := o6.below hb1
            have hz1 := hb1.size
            have rl1 : RB u1 (.slice (some ⟨_, 0, none⟩) 1 1) [next] := RB.lit h1 rfl (by omega) rfl
            clear hS hb1 o6 h1
            have hS := hS1
            clear hS1
            refine anyH_one (i := 3) (by kernel_rfl) ⟨some 71, _, _, _, _, _⟩ rfl (by rfl) ?_
            refine wp_append8 (.tmp 68) (.tmp 70) bs L1 [next] L2 HL2.out rfl rfl rfl rfl o61 rl1 (by have := HLEN.out; simp; omega) (by omega) ?_
            intro A2 c2 u2 o2 hb2
            have hS2 := hS.trans (hb2.mono hbs.out)
            refine ⟨hS2, ?_⟩
            have hz2 := hb2.size
            clear hS hb2
            have hS := hS2
            clear hS2
            refine anyH_one (i := 6) (by kernel_rfl) ⟨some 74, _, _, _, _, _⟩ rfl (by rfl) ?_
            refine wp_append8 (.tmp 71) (.tmp 73) bs L2 ((b.drop 7).take 33) L3 HL3.out rfl rfl rfl rfl o2 (hr7.below hS) (by have := HLEN.out; simp; omega) (by omega) ?_
            intro A3 c3 u3 o3 hb3
            have hS3 := hS.trans (hb3.mono hbs.out)
            refine ⟨hS3, ?_⟩
            have hz3 := hb3.size
            clear hS hb3
            have hS := hS3
            clear hS3
            refine wpAnyH_take (i := 7) (oi := ⟨some 11, _, _, _, _, _⟩) (v := ?_) rfl (by kernel_rfl) (by kernel_rfl) (by kernel_rfl) (fun _ _ _ h => h) (Or.inl ⟨by rfl, ?_⟩) hS ?_
            rotate_left 1
            focus ((intro W' hS'; go_simp) <;> with_reducible rfl)
            try simp only [Act.put, List.setIfInBounds_toArray, List.set_cons_zero, List.set_cons_succ]
            refine wpAnyH_done (by kernel_rfl) ?_ _
            have hzb : bs ≤ u3.heap.size := by omega
            have q6 := keep_cell hS e6 hA6
            clear o6 o61 o2 rl1 hz6 hz1 hz2 hz3 s1 r7 hr7
            go_upto_region 14 with (first
              | ((with_reducible refine at_slot 85 ?_); refine wpList_litF rfl 26 5 2 _ rfl #[(0, .int .u8 (k6.toNat : Int)), (1, .int .u8 ((((load.length : Int) + 2) / 8 - 1) % 256))] (by simp [Act.eval]) _ (lit8_2 _ _) ?_; intro u7 h7 hb7 s7)
              | ((with_reducible refine at_slot 86 ?_); refine append_u8 (.tmp 75) (.tmp 85) bs L3 [k6, UInt8.ofNat ((load.length + 2) / 8 - 1)] L4 HL4.out rfl rfl rfl rfl (o3.below hb7) (RB.lit h7 rfl (by omega) (by show (#[Value.int .u8 (k6.toNat : Int), Value.int .u8 ((((load.length : Int) + 2) / 8 - 1) % 256)] : Array Value) = #[Value.int .u8 (k6.toNat : Int), Value.int .u8 ((UInt8.ofNat ((load.length + 2) / 8 - 1)).toNat : Int)]; rw [V3.out])) (by have := HLEN.out; simp; omega) (by omega) ?_; intro A4 c4 u8' o4 hb8 _ _))
            have hS8 := (hS.trans (hb7.mono hS.size)).trans (hb8.mono hbs.out)
            have hz8 : bs ≤ u8'.heap.size := by have := hb8.size; omega
            clear hS o3 hb7 h7 s7 hb8 hzb q6
            refine wp_region_hand (fun W' => Below w.heap.size w W') (by kernel_rfl) (below_drewN hS8 1) ?_
            intro hS
            have o4 : OB { u8' with drawn := u8'.drawn + 1 } bs (.slice A4 L4.length c4) L4 := o4
            have hz8 : bs ≤ ({ u8' with drawn := u8'.drawn + 1 } : World).heap.size := hz8
            clear hS8
            generalize ({ u8' with drawn := u8'.drawn + 1 } : World) = u9 at hS o4 hz8 ⊢
            refine wpAnyH_take (i := 0) (oi := ⟨some 87, _, _, _, _, _⟩) (v := ?_) rfl (by kernel_rfl) (by kernel_rfl) (by kernel_rfl) (fun _ _ _ h => h) (Or.inl ⟨by rfl, ?_⟩) hS ?_
            rotate_left 1
            focus ((intro W' hS'; go_simp) <;> with_reducible rfl)
            try simp only [Act.put, List.setIfInBounds_toArray, List.set_cons_zero, List.set_cons_succ]
            refine wpAnyH_take (i := 1) (oi := ⟨some 88, _, _, _, _, _⟩) (v := ?_) rfl (by kernel_rfl) (by kernel_rfl) (by kernel_rfl) (fun _ _ _ h => h) (Or.inl ⟨by rfl, ?_⟩) hS ?_
            rotate_left 1
            focus ((intro W' hS'; go_simp) <;> with_reducible rfl)
            try simp only [Act.put, List.setIfInBounds_toArray, List.set_cons_zero, List.set_cons_succ]
            refine wpAnyH_take (i := 3) (oi := ⟨some 90, _, _, _, _, _⟩) (v := ?_) rfl (by kernel_rfl) (by kernel_rfl) (by kernel_rfl) (fun _ _ _ h => h) (Or.inl ⟨by rfl, ?_⟩) hS ?_
            rotate_left 1
            focus ((intro W' hS'; go_simp) <;> with_reducible rfl)
            try simp only [Act.put, List.setIfInBounds_toArray, List.set_cons_zero, List.set_cons_succ]
            refine wpAnyH_take (i := 4) (oi := ⟨some 91, _, _, _, _, _⟩) (v := ?_) rfl (by kernel_rfl) (by kernel_rfl) (by kernel_rfl) (fun _ _ _ h => h) (Or.inl ⟨by rfl, ?_⟩) hS ?_
            rotate_left 1
            focus ((intro W' hS'; have q1 := r41; go_simp) <;> with_reducible rfl)
            try simp only [Act.put, List.setIfInBounds_toArray, List.set_cons_zero, List.set_cons_succ]
            refine anyH_one (i := 2) (by kernel_rfl) ⟨some 89, _, _, _, _, _⟩ rfl (by rfl) ?_
            refine wp_append8 (.tmp 87) (.tmp 88) bs L4 load L5 HL5.out rfl rfl rfl rfl o4 (HY.out.below hS) (by have := HLEN.out; simp; omega) (by omega) ?_
            intro A5 c5 u5 o5 hb5
            have hS5 := hS.trans (hb5.mono hbs.out)
            refine ⟨hS5, ?_⟩
            have hz5 := hb5.size
            clear hS hb5
            have hS := hS5
            clear hS5
            refine anyH_one (i := 5) (by kernel_rfl) ⟨some 92, _, _, _, _, _⟩ rfl (by rfl) ?_
            refine wp_append8 (.tmp 89) (.tmp 91) bs L5 (b.drop 40) L6 HL6.out rfl rfl rfl rfl o5 (hr41.below hS) (by have := HLEN.out; simp; omega) (by omega) ?_
            intro A6 c6 u6 o6 hb6
            have hS6 := hS.trans (hb6.mono hbs.out)
            refine ⟨hS6, ?_⟩
            have hz6 := hb6.size
            clear hS hb6
            have hS := hS6
            clear hS6
            refine wpAnyH_take (i := 6) (oi := ⟨some 6, _, _, _, _, _⟩) (v := ?_) rfl (by kernel_rfl) (by kernel_rfl) (by kernel_rfl) (fun _ _ _ h => h) (Or.inl ⟨by rfl, ?_⟩) hS ?_
            rotate_left 1
            focus ((intro W' hS'; go_simp) <;> with_reducible rfl)
            try simp only [Act.put, List.setIfInBounds_toArray, List.set_cons_zero, List.set_cons_succ]
            refine wpAnyH_take (i := 7) (oi := ⟨some 7, _, _, _, _, _⟩) (v := ?_) rfl (by kernel_rfl) (by kernel_rfl) (by kernel_rfl) (fun _ _ _ h => h) (Or.inl ⟨by rfl, ?_⟩) hS ?_
            rotate_left 1
            focus ((intro W' hS'; go_simp) <;> with_reducible rfl)
            try simp only [Act.put, List.setIfInBounds_toArray, List.set_cons_zero, List.set_cons_succ]
            refine wpAnyH_done (by kernel_rfl) ?_ _
            go_wp2_with fail
            go_ret2
            exact BytesPost.of (by rw [HFIN.out]; exact HR.out) rfl hbs.out o6 hS
        · have HR : Hid (r = ([], n)) := by rw [HH2.out, if_pos hn]; exact rfl
          have e1 : ((n : Int) != 0) = true := by simpa using hn
          clear hn
          go_enter Try.func16, Try.ntmps16
          go_wp2_with (first
          | (go_at_call 19; refine Calls.mono HPA.out ?_; rintro e w1 ⟨dv, rfl, hr1, hb1⟩)
          | ((with_reducible refine at_slot 8 ?_); refine wpList_allocF rfl 28 rfl (noPkt.cells nilS) alloc_noPkt ?_; intro w2 h2 hb2 s2)
          | ((with_reducible refine at_store 8 34 ?_); refine wpList_rowF rfl 28 (.tmp 8) (.tmp 34) rfl w1.heap.size 28 _ (p.cells dv) rfl rfl h2 (info_pkt _ _) rfl (Pkt.one _ _ hr1.one) ?_; intro w3 h3 m3 s3; have hB3 := m3.below (hb1.trans (hb2.mono hb1.size)) (Nat.le_refl _) (by simp; exact hb1.size); clear m3 hb1 hb2 h2)
          | (go_at_call 29; (with_reducible refine Calls.mono (HG.out _ (hr4.below hB3)) ?_); rintro e w' ⟨rfl, rfl⟩))
          go_ret2
          exact BytesPost.nil HR.out hB3
end Go.Proofs.Ytlijgcmcpehplaa
