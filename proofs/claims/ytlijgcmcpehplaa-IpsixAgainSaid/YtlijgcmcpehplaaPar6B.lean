/- Walk: ipsix.Parse. -/
import Derived.Test.YtlijgcmcpehplaaPar6A
namespace Go.Proofs.Ytlijgcmcpehplaa
set_option linter.unusedVariables false
set_option linter.unusedSimpArgs false
open Go.RowKit

def ParPost (b : List UInt8) (w : World) (e : Ending) (w' : World) : Prop :=
  ∃ dv, e = .returned (.tuple #[(parse6 b).1.v dv, .int .i64 (parse6 b).2]) ∧ RB w' dv (parse6 b).1.load ∧ Below w.heap.size w w'
theorem ParPost.err {b : List UInt8} {n : Int} {w w' : World} (h : parse6 b = (noPkt, n)) (hb : Below w.heap.size w w') : ParPost b w (.returned (.tuple #[noPkt.v nilS, .int .i64 n])) w' :=
  ⟨nilS, by rw [h], by rw [h]; exact RB.nil _, hb⟩
set_option maxHeartbeats 1000000 in
theorem parse6_any (v : Value) (b : List UInt8) (w : World) (hx : RB w v b) (hl : b.length ≤ 70368744177664) :
    Calls Try.prog 17 #[v] w (ParPost b w) := by
  have hx0 := hid hx
  obtain ⟨A, c, rfl, hrow⟩ := hx
  have hcap := hrow.cap
  have htop := hrow.top
  have HR := hid hrow
  clear hrow
  go_enter Try.func17, Try.ntmps17
  go_step
  go_step
  refine wpList_allocF rfl 28 rfl (noPkt.cells nilS) alloc_noPkt ?_
  intro w1 h0 hb1 hs1
  have hs1l := Nat.le_of_eq hs1.symm
  clear hs1
  by_cases h40 : b.length < 40
  · have e1 : decide ((b.length : Int) < 40) = true := by simp; omega
    have HP := hid (show parse6 b = (noPkt, 4) by unfold parse6; rw [if_pos h40])
    clear h40
    go_wp2_with (first
      | ((with_reducible refine at_build 28 ?_); refine wpList_buildF rfl 28 _ rfl _ rfl _ build_noPkt ?_)
      | ((with_reducible refine at_store 2 11 ?_); refine wpList_rowF rfl 28 (.tmp 2) (.tmp 11) rfl w.heap.size 28 _ (noPkt.cells nilS) rfl rfl h0 (info_pkt _ _) rfl (Pkt.one _ _ rfl) ?_; intro w2 h2 m2 s2))
    exact ret_cell_tmp rfl rfl rfl h2 Try.underlying28 rfl (info_pkt _ _) (ParPost.err HP.out (m2.below hb1 (by omega) (by simp)))
  · have e1 : decide ((b.length : Int) < 40) = false := by simp; omega
    have e1' : decide (b.length < 40) = false := by simp; omega
    obtain ⟨ad, rfl⟩ := HR.out.addr (by rw [by8_length]; omega)
    have hrow := HR.out.below hb1
    have q0 := hrow.get 0 _ (by8_get b 0 (by omega))
    rw [add_zero'] at q0
    have hx0l := (b.getD 0 0).toNat_lt
    have HL := hid h40
    have hge : 40 ≤ b.length := by omega
    have hpos : 0 < b.length := by omega
    generalize hX0 : (b.getD 0 0).toNat = x0 at q0 hx0l
    have HX0 := hid hX0
    clear h40 hX0
    by_cases hk : x0 / 16 = 6
    · have e2 : ((x0 : Int) / 16 != 6) = false := by simp; omega
      obtain ⟨B4, k4, r4, hr4, _⟩ := cut_lh (hx0.out) 4 6 4 6 rfl rfl (by omega) (by omega)
      have hn := be2_max b 4
      have hG := hid fun W (h : RB W (.slice B4 2 k4) ((b.drop 4).take 2)) => get_any _ _ W h
      rw [getS_short _ (by rw [List.length_take]; omega)] at hG
      have HK := hid hk
      generalize hN : be ((b.drop 4).take 2) = n at hn hG
      have HN := hid hN
      clear hk hN
      by_cases hsz : b.length - 40 < n
      · have e3 : decide ((b.length : Int) - 40 < (n : Int)) = true := by simp; omega
        have HP := hid (show parse6 b = (noPkt, 4) by unfold parse6; rw [if_neg HL.out, HX0.out, if_neg (by rw [HK.out]; simp), HN.out, if_pos hsz])
        have HS := hid hsz
        clear hsz hrow
        go_wp2_with (first
          | (go_at_call 27; (with_reducible refine Calls.mono (hG.out _ (hr4.below hb1)) ?_); rintro e w' ⟨rfl, rfl⟩)
          | ((with_reducible refine at_build 28 ?_); refine wpList_buildF rfl 28 _ rfl _ rfl _ build_noPkt ?_)
          | ((with_reducible refine at_store 2 28 ?_); refine wpList_rowF rfl 28 (.tmp 2) (.tmp 28) rfl w.heap.size 28 _ (noPkt.cells nilS) rfl rfl h0 (info_pkt _ _) rfl (Pkt.one _ _ rfl) ?_; intro w2 h2 m2 s2))
        exact ret_cell_tmp rfl rfl rfl h2 Try.underlying28 rfl (info_pkt _ _) (ParPost.err HP.out (m2.below hb1 (by omega) (by simp)))
      · have e3 : decide ((b.length : Int) - 40 < (n : Int)) = false := by simp; omega
        have hsz' : 40 + n ≤ b.length := by omega
        have HS := hid hsz
        clear hsz
        go_wp2_with (first
          | (go_at_call 27; (with_reducible refine Calls.mono (hG.out _ (hr4.below hb1)) ?_); rintro e w' ⟨rfl, rfl⟩))
        obtain ⟨B8, k8, r8, hr8, _⟩ := cut_lh (hx0.out.below hb1) 40 (40 + n) 40 (40 + (n : Int)) rfl (by omega) (by omega) (by omega)
        have hln : 40 + n - 40 = n := by omega
        rw [hln] at r8 hr8
        have e6 := hrow.lit 6 _ (by omega) (by8_get b 6 (by omega))
        have e7 := hrow.lit 7 _ (by omega) (by8_get b 7 (by omega))
        have hA6 := World.block_lt_of_cell? w1 _ e6
        have hA7 := World.block_lt_of_cell? w1 _ e7
        have hxl : ((b.drop 40).take n).length ≤ 70368744177664 := by rw [List.length_take]; omega
        generalize hkp : b.getD 6 0 = kp at e6
        generalize hhp : b.getD 7 0 = hp at e7
        generalize hxs : (b.drop 40).take n = xs at hr8 hxl
        have HKP := hid hkp
        have HHP := hid hhp
        have HXS := hid hxs
        have H0 := hid h0
        clear hkp hhp hxs h0 hrow hln
        have l6 : (6 : Int) < (b.length : Int) := by omega
        have l7 : (7 : Int) < (b.length : Int) := by omega
        have HWR := hid (IntWalk.i64_in (40 + (n : Int)) (by omega))
        refine wp_region_hand (fun W' => Below w1.heap.size w1 W') (by kernel_rfl) (below_drewN (Below.refl _ _) 1) ?_
        intro hS
        generalize ({ w1 with drawn := w1.drawn + 1 } : World) = w2 at hS ⊢
        refine wpAnyH_take (i := 0) (oi := ⟨some 29, _, _, _, _, _⟩) (v := ?_) rfl (by kernel_rfl) (by kernel_rfl) (by kernel_rfl) (fun _ _ _ h => h) (Or.inl ⟨by rfl, ?_⟩) hS ?_
        rotate_left 1
        focus ((intro W' hS'; go_simp) <;> with_reducible rfl)
        try simp only [Act.put, List.setIfInBounds_toArray, List.set_cons_zero, List.set_cons_succ]
        refine wpAnyH_take (i := 1) (oi := ⟨some 30, _, _, _, _, _⟩) (v := ?_) rfl (by kernel_rfl) (by kernel_rfl) (by kernel_rfl) (fun _ _ _ h => h) (Or.inl ⟨by rfl, ?_⟩) hS ?_
        rotate_left 1
        focus ((intro W' hS'; go_simp) <;> with_reducible rfl)
        try simp only [Act.put, List.setIfInBounds_toArray, List.set_cons_zero, List.set_cons_succ]
        refine wpAnyH_take (i := 2) (oi := ⟨some 31, _, _, _, _, _⟩) (v := ?_) rfl (by kernel_rfl) (by kernel_rfl) (by kernel_rfl) (fun _ _ _ h => h) (Or.inl ⟨by rfl, ?_⟩) hS ?_
        rotate_left 1
        focus ((intro W' hS'; have q1 := HWR.out; go_simp) <;> with_reducible rfl)
        try simp only [Act.put, List.setIfInBounds_toArray, List.set_cons_zero, List.set_cons_succ]
        refine wpAnyH_take (i := 3) (oi := ⟨some 32, _, _, _, _, _⟩) (v := ?_) rfl (by kernel_rfl) (by kernel_rfl) (by kernel_rfl) (fun _ _ _ h => h) (Or.inl ⟨by rfl, ?_⟩) hS ?_
        rotate_left 1
        focus ((intro W' hS'; have q1 := r8; go_simp) <;> with_reducible rfl)
        try simp only [Act.put, List.setIfInBounds_toArray, List.set_cons_zero, List.set_cons_succ]
        refine wpAnyH_take (i := 5) (oi := ⟨some 34, _, _, _, _, _⟩) (v := ?_) rfl (by kernel_rfl) (by kernel_rfl) (by kernel_rfl) (fun _ _ _ h => h) (Or.inl ⟨by rfl, ?_⟩) hS ?_
        rotate_left 1
        focus ((intro W' hS'; go_simp) <;> with_reducible rfl)
        try simp only [Act.put, List.setIfInBounds_toArray, List.set_cons_zero, List.set_cons_succ]
        refine wpAnyH_take (i := 6) (oi := ⟨some 35, _, _, _, _, _⟩) (v := ?_) rfl (by kernel_rfl) (by kernel_rfl) (by kernel_rfl) (fun _ _ _ h => h) (Or.inl ⟨by rfl, ?_⟩) hS ?_
        rotate_left 1
        focus ((intro W' hS'; go_simp) <;> with_reducible rfl)
        try simp only [Act.put, List.setIfInBounds_toArray, List.set_cons_zero, List.set_cons_succ]
        refine wpAnyH_take (i := 7) (oi := ⟨some 36, _, _, _, _, _⟩) (v := ?_) rfl (by kernel_rfl) (by kernel_rfl) (by kernel_rfl) (fun _ _ _ h => h) (Or.inl ⟨by rfl, ?_⟩) hS ?_
        rotate_left 1
        focus ((intro W' hS'; have q1 := keep_cell hS' e6 hA6; go_simp) <;> with_reducible rfl)
        try simp only [Act.put, List.setIfInBounds_toArray, List.set_cons_zero, List.set_cons_succ]
        refine wpAnyH_take (i := 8) (oi := ⟨some 37, _, _, _, _, _⟩) (v := ?_) rfl (by kernel_rfl) (by kernel_rfl) (by kernel_rfl) (fun _ _ _ h => h) (Or.inl ⟨by rfl, ?_⟩) hS ?_
        rotate_left 1
        focus ((intro W' hS'; go_simp) <;> with_reducible rfl)
        try simp only [Act.put, List.setIfInBounds_toArray, List.set_cons_zero, List.set_cons_succ]
        refine wpAnyH_take (i := 9) (oi := ⟨some 38, _, _, _, _, _⟩) (v := ?_) rfl (by kernel_rfl) (by kernel_rfl) (by kernel_rfl) (fun _ _ _ h => h) (Or.inl ⟨by rfl, ?_⟩) hS ?_
        rotate_left 1
        focus ((intro W' hS'; go_simp) <;> with_reducible rfl)
        try simp only [Act.put, List.setIfInBounds_toArray, List.set_cons_zero, List.set_cons_succ]
        refine wpAnyH_take (i := 10) (oi := ⟨some 39, _, _, _, _, _⟩) (v := ?_) rfl (by kernel_rfl) (by kernel_rfl) (by kernel_rfl) (fun _ _ _ h => h) (Or.inl ⟨by rfl, ?_⟩) hS ?_
        rotate_left 1
        focus ((intro W' hS'; have q1 := keep_cell hS' e7 hA7; go_simp) <;> with_reducible rfl)
        try simp only [Act.put, List.setIfInBounds_toArray, List.set_cons_zero, List.set_cons_succ]
        refine wpAnyH_take (i := 11) (oi := ⟨some 40, _, _, _, _, _⟩) (v := (.agg ((pkt0 kp hp).cells nilS))) rfl (by kernel_rfl) (by kernel_rfl) (by kernel_rfl) (fun _ _ _ h => h) (Or.inl ⟨by rfl, fun W' _ => exec_build 28 _ rfl #[(5, .bool true), (2, .int .u8 (kp.toNat : Int)), (3, .int .u8 (hp.toNat : Int))] (by simp [Act.eval]) _ (build_pkt0 kp hp)⟩) hS ?_
        try simp only [Act.put, List.setIfInBounds_toArray, List.set_cons_zero, List.set_cons_succ]
        refine anyH_one (i := 4) (by kernel_rfl) ⟨some 33, _, _, _, _, _⟩ rfl (by rfl) ?_
        go_simp
        with_reducible refine Calls.mono (readD _ _ _ (hr8.below hS) hxl) ?_
        rintro e w3 ⟨g, d, rfl, hg1, hd1, hdg, hrd, hb3⟩
        have hB2s := hS.size
        have hB3s := Nat.le_trans hB2s hb3.size
        have hS3 := hS.trans (hb3.mono hS.size)
        refine ⟨hS3, ?_⟩
        clear hS
        have hS := hS3
        clear hS3
        refine wpAnyH_take (i := 12) (oi := ⟨some 41, _, _, _, _, _⟩) (v := (.agg (rdCells g (pkt0 kp hp) nilS))) rfl (by kernel_rfl) (by kernel_rfl) (by kernel_rfl) (fun _ _ _ h => h) (Or.inl ⟨by rfl, fun W' _ => exec_build 61 _ rfl #[(0, .pointer (some ⟨g, 0, none⟩)), (1, .agg ((pkt0 kp hp).cells nilS))] (by simp [Act.eval]) _ (build_rd g kp hp)⟩) hS ?_
        try simp only [Act.put, List.setIfInBounds_toArray, List.set_cons_zero, List.set_cons_succ]
        refine anyH_one (i := 13) (by kernel_rfl) ⟨some 42, _, _, _, _, _⟩ rfl (by rfl) ?_
        refine wp_yield (exec_box 61 (.tmp 41) rfl (rdCells g (pkt0 kp hp) nilS) rfl) ?_
        have hgl := hrd.lt
        have hB4 := bl1 w3 (.cells (rdCells g (pkt0 kp hp) nilS) 61)
        have hst : RSt (w3.alloc (.cells (rdCells g (pkt0 kp hp) nilS) 61)) w3.heap.size g d (pkt0 kp hp) nilS xs := ⟨nw1 _ _, hrd.below hB4, by omega, by omega, hdg⟩
        have hS4 := hS.trans (hB4.mono hS.size)
        refine ⟨hS4, ?_⟩
        clear hS
        have hS := hS4
        clear hS4 hrd
        obtain ⟨bb, hbb⟩ : ∃ bb, bb = w3.heap.size := ⟨_, rfl⟩
        have hbg : g < bb := by omega
        have hbw : w1.heap.size ≤ bb := by have := hb3.size; have := hS.size; have := hB3s; omega
        have hg1' : w1.heap.size ≤ g := Nat.le_trans hB2s hg1
        have hd1' : w1.heap.size ≤ d := Nat.le_trans hB2s hd1
        rw [← hbb] at hst ⊢
        clear hbb hB4 hb3 hgl hg1 hd1 hB3s
        generalize w3.alloc _ = w4 at hst hS ⊢
        refine wpAnyH_take (i := 14) (oi := ⟨some 5, _, _, _, _, _⟩) (v := ?_) rfl (by kernel_rfl) (by kernel_rfl) (by kernel_rfl) (fun _ _ _ h => h) (Or.inl ⟨by rfl, ?_⟩) hS ?_
        rotate_left 1
        focus ((intro W' hS'; go_simp) <;> with_reducible rfl)
        try simp only [Act.put, List.setIfInBounds_toArray, List.set_cons_zero, List.set_cons_succ]
        refine wpAnyH_done (by kernel_rfl) ?_ _
        have h0' := (hS.block w.heap.size (by omega)).trans H0.out
        have hbase := hb1.trans (hS.mono (by omega))
        have hbR : w.heap.size < g ∧ w.heap.size < bb ∧ w.heap.size < d := ⟨by omega, by omega, by omega⟩
        clear hS H0 e6 e7 hA6 hA7 hr8 r8 l6 l7 q0 r4 hr4 hG e1 e1' e2 e3 hb1 hB2s hbw hg1' hd1' hs1l
        obtain ⟨B9, k9, r9, hr9, _⟩ := cut_lh hx0.out 8 24 8 24 rfl rfl (by omega) (by omega)
        obtain ⟨B10, k10, r10, hr10, _⟩ := cut_lh hx0.out 24 40 24 40 rfl rfl (by omega) (by omega)
        have l9 : ((b.drop 8).take (24 - 8)).length = 16 := by rw [List.length_take, List.length_drop]; omega
        have l10 : ((b.drop 24).take (40 - 24)).length = 16 := by rw [List.length_take, List.length_drop]; omega
        generalize hA1 : (b.drop 8).take (24 - 8) = a1 at hr9 l9
        generalize hA2 : (b.drop 24).take (40 - 24) = a2 at hr10 l10
        have HA1 := hid hA1
        have HA2 := hid hA2
        have L9 := hid l9
        have L10 := hid l10
        clear hA1 hA2 l9 l10
        obtain ⟨hbl, hgl⟩ : bb < w4.heap.size ∧ g < w4.heap.size := ⟨hst.lt, hst.rdr.lt⟩
        go_wp2_with fail
        with_reducible refine Calls.mono (adrOf16 _ a1 w4 (hr9.below hbase) L9.out) ?_
        rintro e w5 ⟨rfl, hb5⟩
        have hst5 := hst.below hb5
        have h05 := (hb5.block w.heap.size (by omega)).trans h0'
        have hbase5 := below_after hbase hb5 (Nat.le_refl _)
        clear hst h0' hbase hb5 hr9
        go_wp2_with ((with_reducible refine at_store 52 48 ?_); refine wpList_partF rfl 24 (.tmp 52) (.tmp 48) rfl bb 1 61 (rdCells g (pkt0 kp hp) nilS) (rdCells g { pkt0 kp hp with src := adr6 a1 } nilS) (adr6 a1).cells.toList rfl rfl hst5.blk (by show 1 + 17 ≤ 42; omega) (Adr.oneL _) (info_addr _) rfl ?_; intro w6 h6 m6 s6)
        have hst6 := hst5.part h6 m6
        have h06 := m6.keeps h05 (by simp; omega)
        have hb6 := m6.below hbase5 (Nat.le_refl _) (by simp; omega)
        have hr6 := hr10.below hb6
        clear hst5 h05 hbase5 h6 m6
        with_reducible refine Calls.mono (adrOf16 _ a2 w6 hr6 L10.out) ?_
        rintro e w7 ⟨rfl, hb7⟩
        have hst7 := hst6.below hb7
        have h07 := (hb7.block w.heap.size (by have := hst6.lt; omega)).trans h06
        have hbase7 := below_after hb6 hb7 (Nat.le_refl _)
        clear hst6 h06 hb6 hb7 hr6 hr10 r9 r10
        go_wp2_with ((with_reducible refine at_store 62 58 ?_); refine wpList_partF rfl 24 (.tmp 62) (.tmp 58) rfl bb 18 61 (rdCells g { pkt0 kp hp with src := adr6 a1 } nilS) (rdCells g { pkt0 kp hp with src := adr6 a1, dst := adr6 a2 } nilS) (adr6 a2).cells.toList rfl rfl hst7.blk (by show 18 + 17 ≤ 42; omega) (Adr.oneL _) (info_addr _) rfl ?_; intro w8 h8 m8 s8)
        have hst8 := hst7.part h8 m8
        have h08 := m8.keeps h07 (by simp; omega)
        have hb8 := m8.below hbase7 (Nat.le_refl _) (by simp; omega)
        clear hst7 h07 hbase7 h8 m8
        obtain ⟨p1, hp1⟩ : ∃ p1, p1 = ({ pkt0 kp hp with src := adr6 a1, dst := adr6 a2 } : Pkt) := ⟨_, rfl⟩
        have hst8 : RSt w8 bb g d p1 nilS xs := by rw [hp1]; exact hst8
        have hpw : p1.whole = true := by rw [hp1]; rfl
        have hpk : p1.proto = kp := by rw [hp1]; rfl
        have HP1 := hid hp1
        clear hp1
        have hH := headers_any w8 bb g d p1 nilS xs hst8 hpw
        unfold HsPost at hH
        rw [hpk] at hH
        clear hpw hpk
        have HH := hid hH
        clear hH
        with_reducible refine Calls.mono HH.out ?_
        rintro e w9 ⟨m9, hps2⟩
        clear HH
        obtain ⟨R, hR⟩ : ∃ R, R = heads6 9 0 kp xs := ⟨_, rfl⟩
        rw [← hR] at hps2
        have h09 := m9.keeps h08 (by simp; omega)
        have hb9 := m9.below hb8 (Nat.le_refl _) (by simp; omega)
        clear hst8 h08 hb8 m9
        cases R with
        | err n' =>
          obtain rfl := hps2
          have hne : ((n' : Int) != 0) = true := by
            have := heads6_err_ne 9 0 kp xs
            rw [← hR] at this
            simp
            rintro rfl
            exact this rfl
          have HP := hid (show parse6 b = (noPkt, n') by
            unfold parse6
            rw [if_neg HL.out, HX0.out, if_neg (by rw [HK.out]; simp), HN.out, if_neg HS.out, HKP.out, HXS.out, ← hR])
          have HRR := hid hR
          clear hR
          go_wp2_with (first
            | ((with_reducible refine at_build 28 ?_); refine wpList_buildF rfl 28 _ rfl _ rfl _ build_noPkt ?_)
            | ((with_reducible refine at_store 2 67 ?_); refine wpList_rowF rfl 28 (.tmp 2) (.tmp 67) rfl w.heap.size 28 _ (noPkt.cells nilS) rfl rfl h09 (info_pkt _ _) rfl (Pkt.one _ _ rfl) ?_; intro w2 h2 m2 s2))
          exact ret_cell_tmp rfl rfl rfl h2 Try.underlying28 rfl (info_pkt _ _) (ParPost.err HP.out (m2.below hb9 (by omega) (by simp)))
        | ok k f ys =>
          obtain ⟨rfl, hst⟩ := hps2
          have HRR := hid hR
          clear hR
          go_wp2_with fail
          have hbg9 := hst.bg
          have hbd9 := hst.bd
          have hb9l := hst.lt
          have hg9l := hst.rdr.lt
          obtain ⟨q, hq⟩ : ∃ q, q = pktH p1 k f := ⟨_, rfl⟩
          rw [← hq] at hst
          have HQ := hid hq
          clear hq
          by_cases hy : ys.length = 0
          · obtain rfl : ys = [] := List.eq_nil_of_length_eq_zero hy
            clear hy
            refine wp_region_hand (fun W' => Mod [bb, g] w9 W' ∧ W'.cell? ⟨bb, 0, none⟩ = some (.pointer (some ⟨g, 0, none⟩))) (by kernel_rfl) ⟨Mod.drew, hst.cells.1⟩ ?_
            intro hS
            have hst : RSt { w9 with drawn := w9.drawn + 1 } bb g d q nilS [] := hst.mod (M := []) Mod.drew (by simp) (by simp) (by simp)
            generalize ({ w9 with drawn := w9.drawn + 1 } : World) = w10 at hS hst ⊢
            refine wpAnyH_take (i := 0) (oi := ⟨some 69, _, _, _, _, _⟩) (v := ?_) rfl (by kernel_rfl) (by kernel_rfl) (by kernel_rfl) (fun _ _ _ h => h) (Or.inl ⟨by rfl, ?_⟩) hS ?_
            rotate_left 1
            focus ((intro W' hS'; go_simp) <;> with_reducible rfl)
            try simp only [Act.put, List.setIfInBounds_toArray, List.set_cons_zero, List.set_cons_succ]
            refine wpAnyH_take (i := 1) (oi := ⟨some 70, _, _, _, _, _⟩) (v := ?_) rfl (by kernel_rfl) (by kernel_rfl) (by kernel_rfl) (fun _ _ _ h => h) (Or.inl ⟨by rfl, ?_⟩) hS ?_
            rotate_left 1
            focus ((intro W' hS'; go_simp) <;> with_reducible rfl)
            try simp only [Act.put, List.setIfInBounds_toArray, List.set_cons_zero, List.set_cons_succ]
            refine wpAnyH_take (i := 2) (oi := ⟨some 71, _, _, _, _, _⟩) (v := ?_) rfl (by kernel_rfl) (by kernel_rfl) (by kernel_rfl) (fun _ _ _ h => h) (Or.inl ⟨by rfl, ?_⟩) hS ?_
            rotate_left 1
            focus ((intro W' hS'; go_simp) <;> with_reducible rfl)
            try simp only [Act.put, List.setIfInBounds_toArray, List.set_cons_zero, List.set_cons_succ]
            refine wpAnyH_take (i := 3) (oi := ⟨some 72, _, _, _, _, _⟩) (v := ?_) rfl (by kernel_rfl) (by kernel_rfl) (by kernel_rfl) (fun _ _ _ h => h) (Or.inl ⟨by rfl, ?_⟩) hS ?_
            rotate_left 1
            focus ((intro W' hS'; go_simp) <;> with_reducible rfl)
            try simp only [Act.put, List.setIfInBounds_toArray, List.set_cons_zero, List.set_cons_succ]
            refine wpAnyH_take (i := 4) (oi := ⟨some 73, _, _, _, _, _⟩) (v := ?_) rfl (by kernel_rfl) (by kernel_rfl) (by kernel_rfl) (fun _ _ _ h => h) (Or.inl ⟨by rfl, ?_⟩) hS ?_
            rotate_left 1
            focus ((intro W' hS'; have q1 := hS'.2; go_simp) <;> with_reducible rfl)
            try simp only [Act.put, List.setIfInBounds_toArray, List.set_cons_zero, List.set_cons_succ]
            refine wpAnyH_take (i := 5) (oi := ⟨some 74, _, _, _, _, _⟩) (v := ?_) rfl (by kernel_rfl) (by kernel_rfl) (by kernel_rfl) (fun _ _ _ h => h) (Or.inl ⟨by rfl, ?_⟩) hS ?_
            rotate_left 1
            focus ((intro W' hS'; go_simp) <;> with_reducible rfl)
            try simp only [Act.put, List.setIfInBounds_toArray, List.set_cons_zero, List.set_cons_succ]
            refine wpAnyH_take (i := 6) (oi := ⟨some 75, _, _, _, _, _⟩) (v := ?_) rfl (by kernel_rfl) (by kernel_rfl) (by kernel_rfl) (fun _ _ _ h => h) (Or.inl ⟨by rfl, ?_⟩) hS ?_
            rotate_left 1
            focus ((intro W' hS'; go_simp) <;> with_reducible rfl)
            try simp only [Act.put, List.setIfInBounds_toArray, List.set_cons_zero, List.set_cons_succ]
            refine wpAnyH_take (i := 7) (oi := ⟨some 76, _, _, _, _, _⟩) (v := ?_) rfl (by kernel_rfl) (by kernel_rfl) (by kernel_rfl) (fun _ _ _ h => h) (Or.inl ⟨by rfl, ?_⟩) hS ?_
            rotate_left 1
            focus ((intro W' hS'; go_simp) <;> with_reducible rfl)
            try simp only [Act.put, List.setIfInBounds_toArray, List.set_cons_zero, List.set_cons_succ]
            refine wpAnyH_take (i := 8) (oi := ⟨some 77, _, _, _, _, _⟩) (v := ?_) rfl (by kernel_rfl) (by kernel_rfl) (by kernel_rfl) (fun _ _ _ h => h) (Or.inl ⟨by rfl, ?_⟩) hS ?_
            rotate_left 1
            focus ((intro W' hS'; have q1 := hS'.2; go_simp) <;> with_reducible rfl)
            try simp only [Act.put, List.setIfInBounds_toArray, List.set_cons_zero, List.set_cons_succ]
            refine anyH_one (i := 9) (by kernel_rfl) ⟨some 78, _, _, _, _, _⟩ rfl (by rfl) ?_
            go_simp
            with_reducible refine Calls.mono (left_zero g _ hst.rdr.rdr) ?_
            rintro e w8' ⟨rfl, rfl⟩
            refine ⟨hS, ?_⟩
            refine anyH_one (i := 10) (by kernel_rfl) ⟨some 79, _, _, _, _, _⟩ rfl (by rfl) ?_
            go_simp
            have hbz := bytes_zero (some ⟨g, 0, none⟩) 0 (by omega) _ ⟨0, by omega, left_any g [] _ hst.rdr.rdr⟩
            with_reducible refine Calls.mono hbz ?_
            rintro e w9' ⟨rfl, rfl⟩
            clear hbz
            refine ⟨hS, ?_⟩
            refine wpAnyH_take (i := 11) (oi := ⟨some 80, _, _, _, _, _⟩) (v := ?_) rfl (by kernel_rfl) (by kernel_rfl) (by kernel_rfl) (fun _ _ _ h => h) (Or.inl ⟨by rfl, ?_⟩) hS ?_
            rotate_left 1
            focus ((intro W' hS'; go_simp) <;> with_reducible rfl)
            try simp only [Act.put, List.setIfInBounds_toArray, List.set_cons_zero, List.set_cons_succ]
            refine wpAnyH_take (i := 12) (oi := ⟨some 81, _, _, _, _, _⟩) (v := ?_) rfl (by kernel_rfl) (by kernel_rfl) (by kernel_rfl) (fun _ _ _ h => h) (Or.inl ⟨by rfl, ?_⟩) hS ?_
            rotate_left 1
            focus ((intro W' hS'; go_simp) <;> with_reducible rfl)
            try simp only [Act.put, List.setIfInBounds_toArray, List.set_cons_zero, List.set_cons_succ]
            refine wpAnyH_take (i := 13) (oi := ⟨some 82, _, _, _, _, _⟩) (v := ?_) rfl (by kernel_rfl) (by kernel_rfl) (by kernel_rfl) (fun _ _ _ h => h) (Or.inl ⟨by rfl, ?_⟩) hS ?_
            rotate_left 1
            focus ((intro W' hS'; go_simp) <;> with_reducible rfl)
            try simp only [Act.put, List.setIfInBounds_toArray, List.set_cons_zero, List.set_cons_succ]
            refine anyH_one (i := 14) (by kernel_rfl) ⟨none, _, _, _, _, _⟩ rfl (by rfl) ?_
            refine wp_partF 26 (.tmp 82) (.tmp 79) rfl bb 41 61 (rdCells g q nilS) (rdCells g q nilS) [nilS] rfl rfl hst.blk (by show 41 + 1 ≤ 42; omega) (by simp [Value.oneCell', nilS]) (by kernel_rfl) rfl ?_
            intro w12 h12 m12 s12
            have hst12 := hst.part h12 m12
            have hS12 : Mod [bb, g] w9 w12 ∧ w12.cell? ⟨bb, 0, none⟩ = some (.pointer (some ⟨g, 0, none⟩)) := ⟨hS.1.trans (m12.sub (by simp)), hst12.cells.1⟩
            have hrb : RB w12 nilS [] := RB.nil _
            refine ⟨hS12, ?_⟩
            have hm12 := hS12.1
            clear hS hst h12 m12 hS12
            have hS := (⟨hm12, hst12.cells.1⟩ : Mod [bb, g] w9 w12 ∧ w12.cell? ⟨bb, 0, none⟩ = some (.pointer (some ⟨g, 0, none⟩)))
            refine wpAnyH_done (by kernel_rfl) ?_ _
            have h12 := hm12.keeps h09 (by simp; omega)
            have hb12 := hm12.below hb9 (Nat.le_refl _) (by simp; omega)
            have hcs := rd_part hst12.blk
            have hlt12 := hst12.lt
            have hq' : ({ q with load := [] } : Pkt) = pkt6 b k f [] := by
              rw [HQ.out, HP1.out, ← HA1.out, ← HA2.out, ← HHP.out]
              cases f <;> rfl
            have hpar : parse6 b = if may6 (pkt6 b k f []) then (pkt6 b k f [], 0) else (noPkt, 3) := by
              unfold parse6
              rw [if_neg HL.out, HX0.out, if_neg (by rw [HK.out]; simp), HN.out, if_neg HS.out, HKP.out, HXS.out, ← HRR.out]
            rw [← hq'] at hpar
            have hok : ({ q with load := [] } : Pkt).Ok := by
              rw [hq']
              cases f with
              | none => exact ⟨by show 0 ≤ 4294967295; omega, by show (-9223372036854775808 : Int) ≤ 0 ∧ (0 : Int) ≤ 9223372036854775807; omega⟩
              | some x =>
                have := heads6_frag 9 0 kp xs k x [] HRR.out.symm
                exact ⟨this.2, by show (-9223372036854775808 : Int) ≤ ((x.1 / 8 * 8 : Nat) : Int) ∧ ((x.1 / 8 * 8 : Nat) : Int) ≤ 9223372036854775807; have := this.1; omega⟩
            have HM := hid (may6_any { q with load := [] } nilS w12 hok hrb)
            clear hst12 hm12 hS hok hq'
            obtain ⟨mb, hmb⟩ : ∃ mb, mb = may6 { q with load := [] } := ⟨_, rfl⟩
            rw [← hmb] at hpar HM
            have hHM : Calls Try.prog 13 #[.agg (q.cells nilS)] w12 fun e w' => e = .returned (.bool mb) ∧ Below w12.heap.size w12 w' := HM.out
            have HPAR := hid hpar
            have HM2 := hid hHM
            clear hmb hpar HM hHM
            cases mb
            · go_wp2_with (first
                | ((with_reducible refine at_slot 86 ?_); refine wpList_load_at 28 (.tmp 85) rfl rfl ⟨bb, 1, none⟩ rfl (q.cells nilS) _ hcs Try.underlying28 rfl (info_pkt _ _) ?_)
                | (go_at_call 13; (with_reducible refine Calls.mono HM2.out ?_); rintro e w13 ⟨rfl, hb13⟩)
                | ((with_reducible refine at_build 28 ?_); refine wpList_buildF rfl 28 _ rfl _ rfl _ build_noPkt ?_)
                | ((with_reducible refine at_store 2 89 ?_); refine wpList_rowF rfl 28 (.tmp 2) (.tmp 89) rfl w.heap.size 28 _ (noPkt.cells nilS) rfl rfl ((hb13.block _ (by omega)).trans h12) (info_pkt _ _) rfl (Pkt.one _ _ rfl) ?_; intro w14 h14 m14 s14))
              exact ret_cell_tmp rfl rfl rfl h14 Try.underlying28 rfl (info_pkt _ _) (ParPost.err HPAR.out (m14.below (below_after hb12 hb13 (Nat.le_refl _)) (by omega) (by simp)))
            · go_wp2_with (first
                | ((with_reducible refine at_slot 86 ?_); refine wpList_load_at 28 (.tmp 85) rfl rfl ⟨bb, 1, none⟩ rfl (q.cells nilS) _ hcs Try.underlying28 rfl (info_pkt _ _) ?_)
                | (go_at_call 13; (with_reducible refine Calls.mono HM2.out ?_); rintro e w13 ⟨rfl, hb13⟩)
                | ((with_reducible refine at_slot 93 ?_); refine wpList_load_at 28 (.tmp 92) rfl rfl ⟨bb, 1, none⟩ rfl (q.cells nilS) _ (fun j u hu => keep_cell hb13 (hcs j u hu) (by rw [add_block]; exact hlt12)) Try.underlying28 rfl (info_pkt _ _) ?_)
                | ((with_reducible refine at_store 2 93 ?_); refine wpList_rowF rfl 28 (.tmp 2) (.tmp 93) rfl w.heap.size 28 _ (q.cells nilS) rfl rfl ((hb13.block _ (by omega)).trans h12) (info_pkt _ _) rfl (Pkt.one _ _ rfl) ?_; intro w14 h14 m14 s14))
              refine ret_cell_tmp rfl rfl rfl h14 Try.underlying28 rfl (info_pkt _ _) ⟨nilS, ?_, ?_, m14.below (below_after hb12 hb13 (Nat.le_refl _)) (by omega) (by simp)⟩
              · rw [HPAR.out]; rfl
              · rw [HPAR.out]
                have := (hrb.below hb13)
                exact RB.nil _
          · have hpos : 0 < ys.length := by omega
            clear hy
            refine wp_region_hand (fun W' => Mod [bb, g] w9 W' ∧ W'.cell? ⟨bb, 0, none⟩ = some (.pointer (some ⟨g, 0, none⟩))) (by kernel_rfl) ⟨Mod.drew, hst.cells.1⟩ ?_
            intro hS
            have hst : RSt { w9 with drawn := w9.drawn + 1 } bb g d q nilS ys := hst.mod (M := []) Mod.drew (by simp) (by simp) (by simp)
            generalize ({ w9 with drawn := w9.drawn + 1 } : World) = w10 at hS hst ⊢
            refine wpAnyH_take (i := 0) (oi := ⟨some 69, _, _, _, _, _⟩) (v := ?_) rfl (by kernel_rfl) (by kernel_rfl) (by kernel_rfl) (fun _ _ _ h => h) (Or.inl ⟨by rfl, ?_⟩) hS ?_
            rotate_left 1
            focus ((intro W' hS'; go_simp) <;> with_reducible rfl)
            try simp only [Act.put, List.setIfInBounds_toArray, List.set_cons_zero, List.set_cons_succ]
            refine wpAnyH_take (i := 1) (oi := ⟨some 70, _, _, _, _, _⟩) (v := ?_) rfl (by kernel_rfl) (by kernel_rfl) (by kernel_rfl) (fun _ _ _ h => h) (Or.inl ⟨by rfl, ?_⟩) hS ?_
            rotate_left 1
            focus ((intro W' hS'; go_simp) <;> with_reducible rfl)
            try simp only [Act.put, List.setIfInBounds_toArray, List.set_cons_zero, List.set_cons_succ]
            refine wpAnyH_take (i := 2) (oi := ⟨some 71, _, _, _, _, _⟩) (v := ?_) rfl (by kernel_rfl) (by kernel_rfl) (by kernel_rfl) (fun _ _ _ h => h) (Or.inl ⟨by rfl, ?_⟩) hS ?_
            rotate_left 1
            focus ((intro W' hS'; go_simp) <;> with_reducible rfl)
            try simp only [Act.put, List.setIfInBounds_toArray, List.set_cons_zero, List.set_cons_succ]
            refine wpAnyH_take (i := 3) (oi := ⟨some 72, _, _, _, _, _⟩) (v := ?_) rfl (by kernel_rfl) (by kernel_rfl) (by kernel_rfl) (fun _ _ _ h => h) (Or.inl ⟨by rfl, ?_⟩) hS ?_
            rotate_left 1
            focus ((intro W' hS'; go_simp) <;> with_reducible rfl)
            try simp only [Act.put, List.setIfInBounds_toArray, List.set_cons_zero, List.set_cons_succ]
            refine wpAnyH_take (i := 4) (oi := ⟨some 73, _, _, _, _, _⟩) (v := ?_) rfl (by kernel_rfl) (by kernel_rfl) (by kernel_rfl) (fun _ _ _ h => h) (Or.inl ⟨by rfl, ?_⟩) hS ?_
            rotate_left 1
            focus ((intro W' hS'; have q1 := hS'.2; go_simp) <;> with_reducible rfl)
            try simp only [Act.put, List.setIfInBounds_toArray, List.set_cons_zero, List.set_cons_succ]
            refine wpAnyH_take (i := 5) (oi := ⟨some 74, _, _, _, _, _⟩) (v := ?_) rfl (by kernel_rfl) (by kernel_rfl) (by kernel_rfl) (fun _ _ _ h => h) (Or.inl ⟨by rfl, ?_⟩) hS ?_
            rotate_left 1
            focus ((intro W' hS'; go_simp) <;> with_reducible rfl)
            try simp only [Act.put, List.setIfInBounds_toArray, List.set_cons_zero, List.set_cons_succ]
            refine wpAnyH_take (i := 6) (oi := ⟨some 75, _, _, _, _, _⟩) (v := ?_) rfl (by kernel_rfl) (by kernel_rfl) (by kernel_rfl) (fun _ _ _ h => h) (Or.inl ⟨by rfl, ?_⟩) hS ?_
            rotate_left 1
            focus ((intro W' hS'; go_simp) <;> with_reducible rfl)
            try simp only [Act.put, List.setIfInBounds_toArray, List.set_cons_zero, List.set_cons_succ]
            refine wpAnyH_take (i := 7) (oi := ⟨some 76, _, _, _, _, _⟩) (v := ?_) rfl (by kernel_rfl) (by kernel_rfl) (by kernel_rfl) (fun _ _ _ h => h) (Or.inl ⟨by rfl, ?_⟩) hS ?_
            rotate_left 1
            focus ((intro W' hS'; go_simp) <;> with_reducible rfl)
            try simp only [Act.put, List.setIfInBounds_toArray, List.set_cons_zero, List.set_cons_succ]
            refine wpAnyH_take (i := 8) (oi := ⟨some 77, _, _, _, _, _⟩) (v := ?_) rfl (by kernel_rfl) (by kernel_rfl) (by kernel_rfl) (fun _ _ _ h => h) (Or.inl ⟨by rfl, ?_⟩) hS ?_
            rotate_left 1
            focus ((intro W' hS'; have q1 := hS'.2; go_simp) <;> with_reducible rfl)
            try simp only [Act.put, List.setIfInBounds_toArray, List.set_cons_zero, List.set_cons_succ]
            refine anyH_one (i := 9) (by kernel_rfl) ⟨some 78, _, _, _, _, _⟩ rfl (by rfl) ?_
            go_simp
            with_reducible refine Calls.mono (left_any g ys _ hst.rdr.rdr) ?_
            rintro e w8' ⟨rfl, rfl⟩
            refine ⟨hS, ?_⟩
            refine anyH_one (i := 10) (by kernel_rfl) ⟨some 79, _, _, _, _, _⟩ rfl (by rfl) ?_
            go_simp
            with_reducible refine Calls.mono (bytesD g d ys ys.length hpos (Nat.le_refl _) _ hst.rdr) ?_
            rintro e w11 ⟨A9, rfl, hr9, hA9, hd9, hg9, hs9⟩
            have hm9 := Mod.of_grown hg9
            have hst9 : RSt w11 bb g d q nilS (ys.drop ys.length) := ⟨hm9.keeps hst.blk (by simp; omega), hd9, hst.bg, hst.bd, hst.dg⟩
            have hS9 : Mod [bb, g] w9 w11 ∧ w11.cell? ⟨bb, 0, none⟩ = some (.pointer (some ⟨g, 0, none⟩)) := ⟨hS.1.trans (hm9.sub (by simp)), hst9.cells.1⟩
            rw [List.take_length] at hr9
            have hbd := hst9.bd
            refine ⟨hS9, ?_⟩
            clear hS hst hm9 hg9 hd9
            have hS := hS9
            have hst := hst9
            clear hS9 hst9
            refine wpAnyH_take (i := 11) (oi := ⟨some 80, _, _, _, _, _⟩) (v := ?_) rfl (by kernel_rfl) (by kernel_rfl) (by kernel_rfl) (fun _ _ _ h => h) (Or.inl ⟨by rfl, ?_⟩) hS ?_
            rotate_left 1
            focus ((intro W' hS'; go_simp) <;> with_reducible rfl)
            try simp only [Act.put, List.setIfInBounds_toArray, List.set_cons_zero, List.set_cons_succ]
            refine wpAnyH_take (i := 12) (oi := ⟨some 81, _, _, _, _, _⟩) (v := ?_) rfl (by kernel_rfl) (by kernel_rfl) (by kernel_rfl) (fun _ _ _ h => h) (Or.inl ⟨by rfl, ?_⟩) hS ?_
            rotate_left 1
            focus ((intro W' hS'; go_simp) <;> with_reducible rfl)
            try simp only [Act.put, List.setIfInBounds_toArray, List.set_cons_zero, List.set_cons_succ]
            refine wpAnyH_take (i := 13) (oi := ⟨some 82, _, _, _, _, _⟩) (v := ?_) rfl (by kernel_rfl) (by kernel_rfl) (by kernel_rfl) (fun _ _ _ h => h) (Or.inl ⟨by rfl, ?_⟩) hS ?_
            rotate_left 1
            focus ((intro W' hS'; go_simp) <;> with_reducible rfl)
            try simp only [Act.put, List.setIfInBounds_toArray, List.set_cons_zero, List.set_cons_succ]
            refine anyH_one (i := 14) (by kernel_rfl) ⟨none, _, _, _, _, _⟩ rfl (by rfl) ?_
            refine wp_partF 26 (.tmp 82) (.tmp 79) rfl bb 41 61 (rdCells g q nilS) (rdCells g q (.slice A9 ys.length ys.length)) [(.slice A9 ys.length ys.length)] rfl rfl hst.blk (by show 41 + 1 ≤ 42; omega) (by simp [Value.oneCell', nilS]) (by kernel_rfl) rfl ?_
            intro w12 h12 m12 s12
            have hst12 := hst.part h12 m12
            have hS12 : Mod [bb, g] w9 w12 ∧ w12.cell? ⟨bb, 0, none⟩ = some (.pointer (some ⟨g, 0, none⟩)) := ⟨hS.1.trans (m12.sub (by simp)), hst12.cells.1⟩
            have hrb : RB w12 (.slice A9 ys.length ys.length) ys := hr9.mod m12 hA9 (by simp; omega)
            refine ⟨hS12, ?_⟩
            have hm12 := hS12.1
            clear hS hst h12 m12 hr9 hS12
            have hS := (⟨hm12, hst12.cells.1⟩ : Mod [bb, g] w9 w12 ∧ w12.cell? ⟨bb, 0, none⟩ = some (.pointer (some ⟨g, 0, none⟩)))
            refine wpAnyH_done (by kernel_rfl) ?_ _
            have h12 := hm12.keeps h09 (by simp; omega)
            have hb12 := hm12.below hb9 (Nat.le_refl _) (by simp; omega)
            have hcs := rd_part hst12.blk
            have hlt12 := hst12.lt
            have hq' : ({ q with load := ys } : Pkt) = pkt6 b k f ys := by
              rw [HQ.out, HP1.out, ← HA1.out, ← HA2.out, ← HHP.out]
              cases f <;> rfl
            have hpar : parse6 b = if may6 (pkt6 b k f ys) then (pkt6 b k f ys, 0) else (noPkt, 3) := by
              unfold parse6
              rw [if_neg HL.out, HX0.out, if_neg (by rw [HK.out]; simp), HN.out, if_neg HS.out, HKP.out, HXS.out, ← HRR.out]
            rw [← hq'] at hpar
            have hok : ({ q with load := ys } : Pkt).Ok := by
              rw [hq']
              cases f with
              | none => exact ⟨by show 0 ≤ 4294967295; omega, by show (-9223372036854775808 : Int) ≤ 0 ∧ (0 : Int) ≤ 9223372036854775807; omega⟩
              | some x =>
                have := heads6_frag 9 0 kp xs k x ys HRR.out.symm
                exact ⟨this.2, by show (-9223372036854775808 : Int) ≤ ((x.1 / 8 * 8 : Nat) : Int) ∧ ((x.1 / 8 * 8 : Nat) : Int) ≤ 9223372036854775807; have := this.1; omega⟩
            have HM := hid (may6_any { q with load := ys } (.slice A9 ys.length ys.length) w12 hok hrb)
            clear hst12 hm12 hS hok hq'
            obtain ⟨mb, hmb⟩ : ∃ mb, mb = may6 { q with load := ys } := ⟨_, rfl⟩
            rw [← hmb] at hpar HM
            have hHM : Calls Try.prog 13 #[.agg (q.cells (.slice A9 ys.length ys.length))] w12 fun e w' => e = .returned (.bool mb) ∧ Below w12.heap.size w12 w' := HM.out
            have HPAR := hid hpar
            have HM2 := hid hHM
            clear hmb hpar HM hHM
            cases mb
            · go_wp2_with (first
                | ((with_reducible refine at_slot 86 ?_); refine wpList_load_at 28 (.tmp 85) rfl rfl ⟨bb, 1, none⟩ rfl (q.cells (.slice A9 ys.length ys.length)) _ hcs Try.underlying28 rfl (info_pkt _ _) ?_)
                | (go_at_call 13; (with_reducible refine Calls.mono HM2.out ?_); rintro e w13 ⟨rfl, hb13⟩)
                | ((with_reducible refine at_build 28 ?_); refine wpList_buildF rfl 28 _ rfl _ rfl _ build_noPkt ?_)
                | ((with_reducible refine at_store 2 89 ?_); refine wpList_rowF rfl 28 (.tmp 2) (.tmp 89) rfl w.heap.size 28 _ (noPkt.cells nilS) rfl rfl ((hb13.block _ (by omega)).trans h12) (info_pkt _ _) rfl (Pkt.one _ _ rfl) ?_; intro w14 h14 m14 s14))
              exact ret_cell_tmp rfl rfl rfl h14 Try.underlying28 rfl (info_pkt _ _) (ParPost.err HPAR.out (m14.below (below_after hb12 hb13 (Nat.le_refl _)) (by omega) (by simp)))
            · go_wp2_with (first
                | ((with_reducible refine at_slot 86 ?_); refine wpList_load_at 28 (.tmp 85) rfl rfl ⟨bb, 1, none⟩ rfl (q.cells (.slice A9 ys.length ys.length)) _ hcs Try.underlying28 rfl (info_pkt _ _) ?_)
                | (go_at_call 13; (with_reducible refine Calls.mono HM2.out ?_); rintro e w13 ⟨rfl, hb13⟩)
                | ((with_reducible refine at_slot 93 ?_); refine wpList_load_at 28 (.tmp 92) rfl rfl ⟨bb, 1, none⟩ rfl (q.cells (.slice A9 ys.length ys.length)) _ (fun j u hu => keep_cell hb13 (hcs j u hu) (by rw [add_block]; exact hlt12)) Try.underlying28 rfl (info_pkt _ _) ?_)
                | ((with_reducible refine at_store 2 93 ?_); refine wpList_rowF rfl 28 (.tmp 2) (.tmp 93) rfl w.heap.size 28 _ (q.cells (.slice A9 ys.length ys.length)) rfl rfl ((hb13.block _ (by omega)).trans h12) (info_pkt _ _) rfl (Pkt.one _ _ rfl) ?_; intro w14 h14 m14 s14))
              refine ret_cell_tmp rfl rfl rfl h14 Try.underlying28 rfl (info_pkt _ _) ⟨(.slice A9 ys.length ys.length), ?_, ?_, m14.below (below_after hb12 hb13 (Nat.le_refl _)) (by omega) (by simp)⟩
              · rw [HPAR.out]; rfl
              · rw [HPAR.out]
                have := (hrb.below hb13)
                exact this.mod m14 hA9 (by simp; omega)
    · have HP := hid (show parse6 b = (noPkt, 11) by unfold parse6; rw [if_neg HL.out, HX0.out, if_pos hk])
      have e2 : ((x0 : Int) / 16 != 6) = true := by simp; omega
      clear hk hrow
      go_wp2_with (first
        | ((with_reducible refine at_build 28 ?_); refine wpList_buildF rfl 28 _ rfl _ rfl _ build_noPkt ?_)
        | ((with_reducible refine at_store 2 18 ?_); refine wpList_rowF rfl 28 (.tmp 2) (.tmp 18) rfl w.heap.size 28 _ (noPkt.cells nilS) rfl rfl h0 (info_pkt _ _) rfl (Pkt.one _ _ rfl) ?_; intro w2 h2 m2 s2))
      exact ret_cell_tmp rfl rfl rfl h2 Try.underlying28 rfl (info_pkt _ _) (ParPost.err HP.out (m2.below hb1 (by omega) (by simp)))
end Go.Proofs.Ytlijgcmcpehplaa
