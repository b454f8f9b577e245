/- Walk: ipsix.Wrap. -/
import Derived.Test.YtlijgcmcpehplaaHop6
import Derived.Deep.QuietTactic
import Derived.BigQuiet
import Derived.Deep.DeepCutAuto
import Derived.Deep.CutBlock
namespace Go.Proofs.Ytlijgcmcpehplaa
set_option linter.unusedVariables false
set_option linter.unusedSimpArgs false
open Go.RowKit

theorem set_three (b : List UInt8) (h : 40 ≤ b.length) (x y z : UInt8) : (((b.take 40).set 4 x).set 5 y).set 6 z = b.take 4 ++ ([x, y] ++ (z :: (b.drop 7).take 33)) := by
  obtain ⟨b0, b1, b2, b3, b4, b5, b6, t, rfl⟩ : ∃ b0 b1 b2 b3 b4 b5 b6 t, b = b0 :: b1 :: b2 :: b3 :: b4 :: b5 :: b6 :: t := by
    match b, h with
    | b0 :: b1 :: b2 :: b3 :: b4 :: b5 :: b6 :: t, _ => exact ⟨_, _, _, _, _, _, _, _, rfl⟩
  rfl
theorem beB2 (z : Nat) : beB 2 z = [UInt8.ofNat (z / 256), UInt8.ofNat z] := by simp [beB]
theorem wrapped6_eq (b : List UInt8) (next : UInt8) (load : List UInt8) (h : 40 ≤ b.length) :
    ((((b.take 40).set 4 (UInt8.ofNat (size6 b load / 256))).set 5 (UInt8.ofNat (size6 b load))).set 6 next) ++ [b.getD 6 0, UInt8.ofNat (load.length / 8)] ++ load ++ b.drop 40 = wrapped6 b next load := by
  rw [set_three b h, wrapped6, beB2]
  simp
set_option maxRecDepth 100000 in
set_option maxHeartbeats 2000000 in
theorem wrap6_any (v u : Value) (b load : List UInt8) (next : UInt8) (w : World) (hx : RB w v b) (hy : RB w u load) (hl : b.length ≤ 3000) (hl2 : load.length ≤ 3000) :
    Calls Try.prog 15 #[v, .int .u8 (next.toNat : Int), u] w (BytesPost (wrap6 b next load) w) := by
  have HX := hid hx
  have HY := hid hy
  obtain ⟨Au, cu, rfl, hru⟩ := hy
  have hcu := hru.cap
  have htu := hru.top
  clear hru
  have hh : wrap6 b next load = if !isPastS next then ([], 11)
    else if load.length % 8 ≠ 6 ∨ 2046 < load.length then ([], 1)
    else if (parse6 b).2 ≠ 0 then ([], (parse6 b).2)
    else if !(parse6 b).1.whole || !decide (b.getD 6 0 = (parse6 b).1.proto) || decide (65535 < size6 b load) then ([], 1)
    else (wrapped6 b next load, 0) := rfl
  generalize hr : wrap6 b next load = r at hh
  have HH := hid hh
  have hnx := next.toNat_lt
  clear hr hh
  cases hp : isPastS next
  · have HR : Hid (r = ([], 11)) := by rw [HH.out, hp]; exact rfl
    go_enter Try.func15, Try.ntmps15
    go_wp2_with (go_at_call 25; (with_reducible refine Calls.mono (past_any _ _) ?_); rintro e w' ⟨rfl, rfl⟩)
    go_ret2
    exact BytesPost.nil HR.out (Below.refl _ _)
  · by_cases h8 : load.length % 8 ≠ 6 ∨ 2046 < load.length
    · have HR : Hid (r = ([], 1)) := by rw [HH.out, hp, if_neg (by simp), if_pos h8]; exact rfl
      have h8' : (((load.length : Int) % 8 != 6) = true) ∨ (((load.length : Int) % 8 != 6) = false ∧ decide ((2046 : Int) < (load.length : Int)) = true) := by
        by_cases h6 : load.length % 8 = 6
        · right; refine ⟨by simp; omega, by simp; omega⟩
        · left; simp; omega
      clear h8
      go_enter Try.func15, Try.ntmps15
      rcases h8' with h8 | ⟨h8, h9⟩
      all_goals
        go_wp2_with (go_at_call 25; (with_reducible refine Calls.mono (past_any _ _) ?_); rintro e w' ⟨rfl, rfl⟩)
        go_ret2
        exact BytesPost.nil HR.out (Below.refl _ _)
    · have h86 : ((load.length : Int) % 8 != 6) = false := by simp; omega
      have h20 : decide ((2046 : Int) < (load.length : Int)) = false := by simp; omega
      have h20' : load.length ≤ 2046 := by omega
      have HPA := hid (parse6_any v b w HX.out (by omega))
      have hlen := parse6_len b
      have HH2 : Hid (r = if (parse6 b).2 ≠ 0 then ([], (parse6 b).2)
        else if !(parse6 b).1.whole || !decide (b.getD 6 0 = (parse6 b).1.proto) || decide (65535 < size6 b load) then ([], 1)
        else (wrapped6 b next load, 0)) := by
        have := HH.out
        rw [hp, if_neg (by simp), if_neg h8] at this
        exact this
      have H8 := hid h8
      clear HH h8
      unfold ParPost at HPA
      generalize parse6 b = pr at HPA hlen HH2
      obtain ⟨p, n⟩ := pr
      simp only at hlen HH2
      have HL := hid hlen
      clear hlen
      have hpp := p.proto.toNat_lt
      by_cases hn : n = 0
      · subst hn
        obtain ⟨h40, _⟩ := HL.out rfl
        obtain ⟨A, c, rfl, hrow⟩ := HX.out
        obtain ⟨ad, rfl⟩ := hrow.addr (by rw [by8_length]; omega)
        have hcap := hrow.cap
        have htop := hrow.top
        have e6 := hrow.lit 6 _ (by omega) (by8_get b 6 (by omega))
        have hA6 := World.block_lt_of_cell? w _ e6
        have hbl := (b.getD 6 0).toNat_lt
        obtain ⟨k6, hk6⟩ : ∃ k6, k6 = b.getD 6 0 := ⟨_, rfl⟩
        rw [← hk6] at e6 hbl HH2
        obtain ⟨B4, k4, r4, hr4, _⟩ := cut_lh HX.out 4 6 4 6 rfl rfl (by omega) (by omega)
        have hG := hid fun W (h : RB W (.slice B4 2 k4) ((b.drop 4).take 2)) => get_any _ _ W h
        rw [getS_short _ (by rw [List.length_take]; omega)] at hG
        have HG := hid hG.out
        have hsz : size6 b load = be ((b.drop 4).take 2) + 2 + load.length := rfl
        have hnm := be2_max b 4
        obtain ⟨z, hz⟩ : ∃ z, z = size6 b load := ⟨_, rfl⟩
        rw [← hz] at HH2 hsz
        generalize hN : be ((b.drop 4).take 2) = nn at hsz hG HG hnm
        have hzz : (nn : Int) + 2 + (load.length : Int) = (z : Int) := by omega
        have HZ := hid hz
        have HK6 := hid hk6
        have HSZ := hid hsz
        have hzm : z ≤ 70000 := by omega
        have HZZ := hid hzz
        clear hz hk6 hN hG hsz hrow hzz
        have hl6 : (6 : Int) < (b.length : Int) := by omega
        have hl6' : 6 < b.length := by omega
        have h4 : p.whole = false ∨ (p.whole = true ∧ ((k6.toNat : Int) != (p.proto.toNat : Int)) = true) ∨ (p.whole = true ∧ ((k6.toNat : Int) != (p.proto.toNat : Int)) = false ∧ decide ((65535 : Int) < (z : Int)) = true) ∨ (p.whole = true ∧ ((k6.toNat : Int) != (p.proto.toNat : Int)) = false ∧ decide ((65535 : Int) < (z : Int)) = false) := by
          cases p.whole <;> cases ((k6.toNat : Int) != (p.proto.toNat : Int)) <;> cases decide ((65535 : Int) < (z : Int)) <;> simp
        have hpe : ((k6.toNat : Int) != (p.proto.toNat : Int)) = true ↔ ¬ k6 = p.proto := by simp [← UInt8.toNat_inj]; omega
        have HPE := hid hpe
        clear hpe
        go_enter Try.func15, Try.ntmps15
        go_wp2_with (first
        | (go_at_call 25; (with_reducible refine Calls.mono (past_any _ _) ?_); rintro e w' ⟨rfl, rfl⟩)
        | (go_at_call 17; refine Calls.mono HPA.out ?_; rintro e w1 ⟨dv, rfl, hr1, hb1⟩)
        | ((with_reducible refine at_slot 8 ?_); refine wpList_allocF rfl 28 rfl (noPkt.cells nilS) alloc_noPkt ?_; intro w2 h2 hb2 s2)
        | ((with_reducible refine at_store 8 29 ?_); refine wpList_rowF rfl 28 (.tmp 8) (.tmp 29) rfl w1.heap.size 28 _ (p.cells dv) rfl rfl h2 (info_pkt _ _) rfl (Pkt.one _ _ hr1.one) ?_; intro w3 h3 m3 s3; have hB3 := m3.below (hb1.trans (hb2.mono hb1.size)) (Nat.le_refl _) (by simp; exact hb1.size); clear m3 hb1 hb2 h2)
        | (go_at_call 27; (with_reducible refine Calls.mono (HG.out _ (hr4.below hB3)) ?_); rintro e w' ⟨rfl, rfl⟩))
        have hzz := HZZ.out
        have q6 := keep_cell hB3 e6 hA6
        obtain ⟨c0, c1, c2, c3, c4, c5, c6, c7, c8⟩ := pkt_cells h3
        clear c0 c1 c3 c4 c6 c7 c8 e6 r4 hr4 HG
        rcases h4 with hw | ⟨hw, hk⟩ | ⟨hw, hk, hs⟩ | ⟨hw, hk, hs⟩
        · have HR : Hid (r = ([], 1)) := by rw [HH2.out, if_neg (by simp), hw]; exact rfl
          rw [hw] at c5
          clear hw
          go_quiet (fail)
          go_wp2_with fail
          go_ret2
          exact BytesPost.nil HR.out (below_drewN hB3 _)
        · have HR : Hid (r = ([], 1)) := by rw [HH2.out, if_neg (by simp), hw, decide_eq_false (HPE.out.1 hk)]; exact rfl
          rw [hw] at c5
          clear hw
          go_quiet (fail)
          go_wp2_with fail
          go_ret2
          exact BytesPost.nil HR.out (below_drewN hB3 _)
        · have HR : Hid (r = ([], 1)) := by
            have hz : 65535 < z := by simp at hs; omega
            rw [HH2.out, if_neg (by simp), if_pos (by simp [hz])]; exact rfl
          rw [hw] at c5
          clear hw
          go_quiet (fail)
          go_wp2_with fail
          go_ret2
          exact BytesPost.nil HR.out (below_drewN hB3 _)
        · have hkp : k6 = p.proto := by
            rcases Classical.em (k6 = p.proto) with h | h
            · exact h
            · rw [HPE.out.2 h] at hk; cases hk
          have HR : Hid (r = (wrapped6 b next load, 0)) := by
            have hz : ¬ 65535 < z := by simp at hs; omega
            rw [HH2.out, if_neg (by simp), if_neg (by simp [hw, hkp, hz])]; exact rfl
          have HKP := hid hkp
          rw [hw] at c5
          clear hw hkp
          obtain ⟨B40, k40, r40, hr40, _⟩ := cut_h HX.out 40 40 rfl (by omega)
          obtain ⟨B41, k41, r41, hr41, _⟩ := cut_l HX.out 40 40 rfl (by omega)
          have l40 : (b.take 40).length = 40 := by rw [List.length_take]; omega
          have hcl := fun W h => clone_any (.slice B40 40 k40) (b.take 40) W h (by rw [l40]; omega)
          rw [l40] at hcl
          have HCL := hid hcl
          have L40 := hid l40
          have hlz := hB3.size
          have h3l : w1.heap.size < w3.heap.size := by omega
          have v1 : IntKind.u8.wrap ((z : Int) / 256) = ((UInt8.ofNat (z / 256)).toNat : Int) := by rw [← u8wrap_nat]; rfl
          have v2 := u8wrap_nat z
          have v3 : IntKind.u8.wrap ((load.length : Int) / 8) = ((UInt8.ofNat (load.length / 8)).toNat : Int) := by rw [← u8wrap_nat]; rfl
          have V1 := hid v1
          have V2 := hid v2
          have V3 := hid (show (load.length : Int) / 8 = ((UInt8.ofNat (load.length / 8)).toNat : Int) by rw [UInt8.toNat_ofNat']; omega)
          clear l40 hcl v1 v2 v3
          go_quiet (fail)
          have hB4 := below_drewN hB3 nq
          have h34 : (w3.drewN nq).heap[w1.heap.size]? = some (.cells (p.cells dv) 28 (0, 0)) := h3
          have h4l : w1.heap.size < (w3.drewN nq).heap.size := h3l
          generalize w3.drewN nq = w4 at hB4 h34 h4l ⊢
          clear h3 hB3 hlz h3l q6 c2 c5 s2 s3
          go_wp2_with fail
          with_reducible refine Calls.mono (HCL.out w4 (hr40.below hB4)) ?_
          rintro e w5 ⟨A5, c5, rfl, ho5, hb5⟩
          obtain ⟨g, rfl, hg1, hg2, hjunk⟩ := ho5.blk (by omega)
          clear hjunk
          have h35 := (hb5.block _ h4l).trans h34
          have hB5 := below_after hB4 hb5 (Nat.le_refl _)
          have hne : w1.heap.size ≠ g := by omega
          have hB4x := hB4.size
          have hgw : w.heap.size ≤ g := by omega
          have h45 := hb5.size
          obtain ⟨i4, f4, t4⟩ := ho5.store 4 (by rw [L40.out]; omega)
          obtain ⟨i5, f5, _⟩ := ho5.store 5 (by rw [L40.out]; omega)
          obtain ⟨i6, f6, _⟩ := ho5.store 6 (by rw [L40.out]; omega)
          have o4 := t4 (UInt8.ofNat (z / 256)) ((z : Int) / 256 % 256) (by rw [UInt8.toNat_ofNat']; omega)
          obtain ⟨_, _, t5⟩ := o4.store 5 (by rw [List.length_set, L40.out]; omega)
          have o5 := t5 (UInt8.ofNat z) ((z : Int) % 256) (by rw [UInt8.toNat_ofNat']; omega)
          obtain ⟨_, _, t6⟩ := o5.store 6 (by rw [List.length_set, List.length_set, L40.out]; omega)
          have o6 := t6 next _ rfl
          have O6 := hid o6
          have H35 := hid (((Mod.setCell (M := [g]) (w := w5) g 4 (.int .u8 ((z : Int) / 256 % 256)) (by simp)).trans (Mod.setCell (M := [g]) g 5 (.int .u8 ((z : Int) % 256)) (by simp))).trans (Mod.setCell (M := [g]) g 6 (.int .u8 (next.toNat : Int)) (by simp)))
          clear t4 t5 t6 o4 o5 o6 ho5 hb5 h34 hB4 h4l
          have hzz := HZZ.out
          generalize (b.take 40).getD 4 0 = y4 at i4
          generalize (b.take 40).getD 5 0 = y5 at i5
          generalize (b.take 40).getD 6 0 = y6 at i6
          go_upto_region 13 with (fail)
          have o6 := O6.out
          have m6 := H35.out
          clear O6 H35 i4 i5 i6 f4 f5 f6
          generalize ((w5.setCell ⟨g, 4, none⟩ (.int .u8 ((z : Int) / 256 % 256))).setCell ⟨g, 5, none⟩ (.int .u8 ((z : Int) % 256))).setCell ⟨g, 6, none⟩ (.int .u8 (next.toNat : Int)) = w6 at o6 m6 ⊢
          have h36 := m6.keeps h35 (by simp; omega)
          have hB6 := m6.below hB5 (Nat.le_refl _) (by simp; omega)
          have lo6 : ((((b.take 40).set 4 (UInt8.ofNat (z / 256))).set 5 (UInt8.ofNat z)).set 6 next).length = 40 := by rw [List.length_set, List.length_set, List.length_set]; exact L40.out
          have hfin := wrapped6_eq b next load h40
          rw [← HZ.out, ← HK6.out, HKP.out] at hfin
          generalize (((b.take 40).set 4 (UInt8.ofNat (z / 256))).set 5 (UInt8.ofNat z)).set 6 next = L at o6 lo6 hfin
          have LO := hid lo6
          obtain ⟨M1, hM1⟩ : ∃ M1, L ++ [p.proto, UInt8.ofNat (load.length / 8)] = M1 := ⟨_, rfl⟩
          have hm1 : M1.length = 42 := by rw [← hM1, List.length_append, lo6]; rfl
          rw [hM1] at hfin
          obtain ⟨M2, hM2⟩ : ∃ M2, M1 ++ load = M2 := ⟨_, rfl⟩
          have hm2 : M2.length = 42 + load.length := by rw [← hM2, List.length_append, hm1]
          rw [hM2] at hfin
          obtain ⟨M3, hM3⟩ : ∃ M3, M2 ++ b.drop 40 = M3 := ⟨_, rfl⟩
          rw [hM3] at hfin
          have HF := hid hfin
          have HM1 := hid hM1
          have HM2 := hid hM2
          have HM3 := hid hM3
          have L1 := hid hm1
          have L2 := hid hm2
          clear hM1 hM2 hM3 hm1 hm2
          have hz6 := m6.size
          clear hfin lo6 m6 h35 hB5
          obtain ⟨c0, c1, c2, c3, c4, c5', c6, c7, c8⟩ := pkt_cells h36
          clear c0 c1 c3 c4 c5' c6 c7 c8
          go_wp2_with (first
            | ((with_reducible refine at_slot 80 ?_); refine append_u8 (.tmp 72) (.tmp 79) w4.heap.size L [p.proto, UInt8.ofNat (load.length / 8)] M1 HM1.out rfl rfl rfl rfl (o6.alloc _) (RB.new w6 _ _ _ _ 2 rfl rfl (by omega) (by show (#[Value.int .u8 (p.proto.toNat : Int), Value.int .u8 ((load.length : Int) / 8)] : Array Value) = #[Value.int .u8 (p.proto.toNat : Int), Value.int .u8 ((UInt8.ofNat (load.length / 8)).toNat : Int)]; rw [V3.out])) (by rw [LO.out]; simp) (by simp; omega) ?_; intro A7 c7 w7 o7 hb7 _ _; have HB7 := hid ((below_alloc (Below.refl w4.heap.size w6) _ (by omega)).trans hb7); have hz7 := hb7.size; clear hb7)
            | ((with_reducible refine at_slot 83 ?_); refine append_u8 (.tmp 81) (.tmp 82) w4.heap.size M1 load M2 HM2.out rfl rfl rfl rfl o7 (HY.out.below (hB6.trans (HB7.out.mono (by omega)))) (by rw [L1.out]; omega) (by have := HB7.out.size; omega) ?_; intro A8 c8 w8 o8 hb8 _ _)
            | ((with_reducible refine at_slot 87 ?_); refine append_u8 (.tmp 84) (.tmp 86) w4.heap.size M2 (b.drop 40) M3 HM3.out rfl rfl rfl rfl o8 (hr41.below (hB6.trans ((HB7.out.trans hb8).mono (by omega)))) (by rw [L2.out, List.length_drop]; omega) (by have := HB7.out.size; have := hb8.size; omega) ?_; intro A9 c9 w9 o9 hb9 _ _))
          go_ret2
          exact BytesPost.of (by rw [HF.out]; exact HR.out) rfl (by omega) o9 (hB6.trans (((HB7.out.trans hb8).trans hb9).mono (by omega)))
      · have HR : Hid (r = ([], n)) := by rw [HH2.out, if_pos hn]; exact rfl
        have e1 : ((n : Int) != 0) = true := by simpa using hn
        clear hn
        go_enter Try.func15, Try.ntmps15
        go_wp2_with (first
        | (go_at_call 25; (with_reducible refine Calls.mono (past_any _ _) ?_); rintro e w' ⟨rfl, rfl⟩)
        | (go_at_call 17; refine Calls.mono HPA.out ?_; rintro e w1 ⟨dv, rfl, hr1, hb1⟩)
        | ((with_reducible refine at_slot 8 ?_); refine wpList_allocF rfl 28 rfl (noPkt.cells nilS) alloc_noPkt ?_; intro w2 h2 hb2 s2)
        | ((with_reducible refine at_store 8 29 ?_); refine wpList_rowF rfl 28 (.tmp 8) (.tmp 29) rfl w1.heap.size 28 _ (p.cells dv) rfl rfl h2 (info_pkt _ _) rfl (Pkt.one _ _ hr1.one) ?_; intro w3 h3 m3 s3; have hB3 := m3.below (hb1.trans (hb2.mono hb1.size)) (Nat.le_refl _) (by simp; exact hb1.size); clear m3 hb1 hb2 h2)
        | (go_at_call 27; (with_reducible refine Calls.mono (HG.out _ (hr4.below hB3)) ?_); rintro e w' ⟨rfl, rfl⟩))
        go_ret2
        exact BytesPost.nil HR.out hB3
end Go.Proofs.Ytlijgcmcpehplaa
