/- Walk: the reference's Parse of IPv6. -/
import Derived.Test.YtlijgcmcpehplaaPar6B
import Derived.Test.YtlijgcmcpehplaaAdrD
import Derived.Test.YtlijgcmcpehplaaOctR
namespace Go.Proofs.Ytlijgcmcpehplaa
set_option linter.unusedVariables false
set_option linter.unusedSimpArgs false
open Go.RowKit

def pkt1 (a1 a2 : List UInt8) (k h : UInt8) : Pkt := { noPkt with src := adr6 a1, dst := adr6 a2, proto := k, hops := h, whole := true }
theorem build_pkt1 (a1 a2 : List UInt8) (k h : UInt8) : ∀ w, (Instr.build 28 #[(0, .agg (adr6 a1).cells), (1, .agg (adr6 a2).cells), (3, .int .u8 (h.toNat : Int)), (2, .int .u8 (k.toNat : Int)), (5, .bool true)]).run Try.prog w = .ok (.agg ((pkt1 a1 a2 k h).cells nilS)) w := by intro w; kernel_rfl
theorem alloc_adr : ∀ w, (Instr.alloc 24 true (.tuple #[])).run Try.prog w = .ok (.pointer (some ⟨w.heap.size, 0, none⟩)) (w.alloc (.cells (noAdr false).cells 24)) := by intro w; kernel_rfl
theorem Pkt.oneL (p : Pkt) (dv : Value) (h : dv.oneCell' = true) : ∀ u ∈ (p.cells dv).toList, u.oneCell' = true := by
  have h := Array.all_eq_true_iff_forall_mem.1 (Pkt.one p dv h)
  exact fun u hu => h u (by simpa using hu)
theorem be_low (ys : List UInt8) (k : Nat) (h : k + 2 ≤ ys.length) : be ((ys.drop k).take 2) % 2 = (ys.getD (k + 1) 0).toNat % 2 := by
  have e : (ys.drop k).take 2 = [ys.getD k 0, ys.getD (k + 1) 0] := by
    rw [List.drop_eq_getElem_cons (show k < ys.length by omega), List.drop_eq_getElem_cons (show k + 1 < ys.length by omega)]
    simp only [List.take_succ_cons, List.take_zero, List.getD_eq_getElem?_getD, List.getElem?_eq_getElem (show k < ys.length by omega), List.getElem?_eq_getElem (show k + 1 < ys.length by omega), Option.getD_some]
  rw [e]
  simp [be]
  omega
set_option maxRecDepth 100000 in
set_option maxHeartbeats 2000000 in
theorem rparse6_any (v : Value) (b : List UInt8) (w : World) (hx : RB w v b) (hl : b.length ≤ 70368744177664) :
    Calls Try.prog 19 #[v] w (ParPost b w) := by
  have hx0 := hid hx
  obtain ⟨A, c, rfl, hrow⟩ := hx
  have hcap := hrow.cap
  have htop := hrow.top
  have HR := hid hrow
  clear hrow
  go_enter Try.func19, Try.ntmps19
  go_step
  go_step
  refine wpList_allocF rfl 28 rfl (noPkt.cells nilS) alloc_noPkt ?_
  intro w1 h0 hb1 hs1
  have hs1l := Nat.le_of_eq hs1.symm
  clear hs1
  by_cases h40 : b.length < 40
  · have e1 : decide ((b.length : Int) < 40) = true := by simp; omega
    have HP := hid (show parse6 b = (noPkt, 4) by unfold parse6; rw [if_pos h40])
    clear h40
    go_wp2_with (first
      | ((with_reducible refine at_build 28 ?_); refine wpList_buildF rfl 28 _ rfl _ rfl _ build_noPkt ?_)
      | ((with_reducible refine at_store 2 16 ?_); refine wpList_rowF rfl 28 (.tmp 2) (.tmp 16) rfl w.heap.size 28 _ (noPkt.cells nilS) rfl rfl h0 (info_pkt _ _) rfl (Pkt.one _ _ rfl) ?_; intro w2 h2 m2 s2))
    exact ret_cell_tmp rfl rfl rfl h2 Try.underlying28 rfl (info_pkt _ _) (ParPost.err HP.out (m2.below hb1 (by omega) (by simp)))
  · have e1 : decide ((b.length : Int) < 40) = false := by simp; omega
    have e1' : decide (b.length < 40) = false := by simp; omega
    obtain ⟨ad, rfl⟩ := HR.out.addr (by rw [by8_length]; omega)
    have hrow := HR.out.below hb1
    have q0 := hrow.get 0 _ (by8_get b 0 (by omega))
    rw [add_zero'] at q0
    have hx0l := (b.getD 0 0).toNat_lt
    have HL := hid h40
    have hge : 40 ≤ b.length := by omega
    have hpos : 0 < b.length := by omega
    generalize hX0 : (b.getD 0 0).toNat = x0 at q0 hx0l
    have HX0 := hid hX0
    clear h40 hX0
    by_cases hk : x0 / 16 = 6
    · have e2 : ((x0 : Int) / 16 != 6) = false := by simp; omega
      obtain ⟨B4, k4, r4, hr4, _⟩ := cut_lh (hx0.out) 4 6 4 6 rfl rfl (by omega) (by omega)
      have hn := be2_max b 4
      have hG := hid fun W (h : RB W (.slice B4 2 k4) ((b.drop 4).take 2)) => rget_any _ _ W h
      rw [getS_short _ (by rw [List.length_take]; omega)] at hG
      have HK := hid hk
      generalize hN : be ((b.drop 4).take 2) = n at hn hG
      have HN := hid hN
      clear hk hN
      by_cases hsz : b.length - 40 < n
      · have e3 : decide ((b.length : Int) - 40 < (n : Int)) = true := by simp; omega
        have HP := hid (show parse6 b = (noPkt, 4) by unfold parse6; rw [if_neg HL.out, HX0.out, if_neg (by rw [HK.out]; simp), HN.out, if_pos hsz])
        have HS := hid hsz
        clear hsz hrow
        go_wp2_with (first
          | (go_at_call 29; (with_reducible refine Calls.mono (hG.out _ (hr4.below hb1)) ?_); rintro e w' ⟨rfl, rfl⟩)
          | ((with_reducible refine at_build 28 ?_); refine wpList_buildF rfl 28 _ rfl _ rfl _ build_noPkt ?_)
          | ((with_reducible refine at_store 2 32 ?_); refine wpList_rowF rfl 28 (.tmp 2) (.tmp 32) rfl w.heap.size 28 _ (noPkt.cells nilS) rfl rfl h0 (info_pkt _ _) rfl (Pkt.one _ _ rfl) ?_; intro w2 h2 m2 s2))
        exact ret_cell_tmp rfl rfl rfl h2 Try.underlying28 rfl (info_pkt _ _) (ParPost.err HP.out (m2.below hb1 (by omega) (by simp)))
      · have e3 : decide ((b.length : Int) - 40 < (n : Int)) = false := by simp; omega
        have hsz' : 40 + n ≤ b.length := by omega
        have HS := hid hsz
        clear hsz
        obtain ⟨B8, k8, r8, hr8, _⟩ := cut_lh hx0.out 40 (40 + n) 40 (40 + (n : Int)) rfl (by omega) (by omega) (by omega)
        have hln : 40 + n - 40 = n := by omega
        rw [hln] at r8 hr8
        obtain ⟨B9, k9, r9, hr9, _⟩ := cut_lh hx0.out 8 24 8 24 rfl rfl (by omega) (by omega)
        obtain ⟨B10, k10, r10, hr10, _⟩ := cut_lh hx0.out 24 40 24 40 rfl rfl (by omega) (by omega)
        have l9 : ((b.drop 8).take (24 - 8)).length = 16 := by rw [List.length_take, List.length_drop]; omega
        have l10 : ((b.drop 24).take (40 - 24)).length = 16 := by rw [List.length_take, List.length_drop]; omega
        generalize hA1 : (b.drop 8).take (24 - 8) = a1 at hr9 l9
        generalize hA2 : (b.drop 24).take (40 - 24) = a2 at hr10 l10
        have HA1 := hid hA1
        have HA2 := hid hA2
        have L9 := hid l9
        have L10 := hid l10
        have hxl : ((b.drop 40).take n).length = n := by rw [List.length_take, List.length_drop]; omega
        generalize hkp : b.getD 6 0 = kp
        generalize hhp : b.getD 7 0 = hp
        have e6 := HR.out.lit 6 _ (by omega) (by8_get b 6 (by omega))
        have e7 := HR.out.lit 7 _ (by omega) (by8_get b 7 (by omega))
        have hA6 := World.block_lt_of_cell? w _ e6
        have hA7 := World.block_lt_of_cell? w _ e7
        rw [hkp] at e6
        rw [hhp] at e7
        generalize hxs : (b.drop 40).take n = xs at hr8 hxl
        have HKP := hid hkp
        have HHP := hid hhp
        have HXS := hid hxs
        have HXL := hid hxl
        have H0 := hid h0
        clear hkp hhp hxs h0 hrow hln hA1 hA2 l9 l10 hxl
        go_wp2_with (first
          | (go_at_call 29; (with_reducible refine Calls.mono (hG.out _ (hr4.below hb1)) ?_); rintro e w' ⟨rfl, rfl⟩)
          | (go_at_call 35; (with_reducible refine Calls.mono (radrOf16 _ a1 w1 (hr9.below hb1) L9.out) ?_); rintro e w2 ⟨rfl, hb2⟩)
          | ((with_reducible refine at_slot 5 ?_); refine wpList_allocF rfl 24 rfl _ alloc_adr ?_; intro w3 h3 hb3 s3)
          | ((with_reducible refine at_store 5 37 ?_); refine wpList_rowF rfl 24 (.tmp 5) (.tmp 37) rfl w2.heap.size 24 _ (adr6 a1).cells rfl rfl h3 (info_addr _) rfl (Adr.one _) ?_; intro w4 h4 m4 s4))
        obtain ⟨b5, hb5⟩ : ∃ b5, b5 = w2.heap.size := ⟨_, rfl⟩
        have hw2 := hb2.size
        have hl5 : w.heap.size < b5 := by omega
        have hB4 := m4.below (hb1.trans ((hb2.mono hs1l |>.mono (by omega)).trans (hb3.mono (by omega)))) (Nat.le_refl _) (by simp; omega)
        have h04 := m4.keeps (hb3.block w.heap.size (by omega) |>.trans (hb2.block w.heap.size (by omega) |>.trans H0.out)) (by simp; omega)
        rw [← hb5] at h4 ⊢
        have hl5' : b5 < w4.heap.size := by omega
        clear hb5 hb2 hb3 m4 h3 hw2 s3 s4 H0 r4 hr4 hG e1 e1' e2 e3 hb1 hs1l r9 hr9 q0
        with_reducible refine Calls.mono (radrOf16 _ a2 w4 (hr10.below hB4) L10.out) ?_
        rintro e w5 ⟨rfl, hb5⟩
        have h05 := (hb5.block w.heap.size (by omega)).trans h04
        have h5 := (hb5.block b5 hl5').trans h4
        have hB5 := below_after hB4 hb5 (Nat.le_refl _)
        have hl5 : w.heap.size < b5 ∧ b5 < w5.heap.size := ⟨hl5, Nat.lt_of_lt_of_le hl5' hb5.size⟩
        clear h04 h4 hB4 hb5 hl5'
        go_wp2_with (first
          | ((with_reducible refine at_slot 7 ?_); refine wpList_allocF rfl 24 rfl _ alloc_adr ?_; intro w6 h6 hb6 s6)
          | ((with_reducible refine at_store 7 43 ?_); refine wpList_rowF rfl 24 (.tmp 7) (.tmp 43) rfl w5.heap.size 24 _ (adr6 a2).cells rfl rfl h6 (info_addr _) rfl (Adr.one _) ?_; intro w7 h7 m7 s7))
        obtain ⟨b7, hb7⟩ : ∃ b7, b7 = w5.heap.size := ⟨_, rfl⟩
        have hB7 := m7.below (hB5.trans (hb6.mono (by omega))) (Nat.le_refl _) (by simp; omega)
        have h07 := m7.keeps ((hb6.block w.heap.size (by omega)).trans h05) (by simp; omega)
        have h57 := m7.keeps ((hb6.block b5 hl5.2).trans h5) (by simp; omega)
        rw [← hb7] at h7 ⊢
        have hl7 : w.heap.size < b5 ∧ b5 < b7 ∧ b7 < w7.heap.size := by omega
        clear hb7 h05 h5 hB5 hl5 h6 hb6 m7 s6 s7
        have h5 := h57
        clear h57 hr10 r10
        have l6 : (6 : Int) < (b.length : Int) := by omega
        have l7 : (7 : Int) < (b.length : Int) := by omega
        have hw7l := hB7.size
        refine wp_region_hand (fun W' => Below w7.heap.size w7 W') (by kernel_rfl) (below_drewN (Below.refl _ _) 1) ?_
        intro hS
        generalize ({ w7 with drawn := w7.drawn + 1 } : World) = w8 at hS ⊢
        refine wpAnyH_take (i := 0) (oi := ⟨some 45, _, _, _, _, _⟩) rfl (by kernel_rfl) (by kernel_rfl) (by kernel_rfl) (fun _ _ _ h => h) (yields_row 24 (.tmp 5) rfl (by rfl) ⟨b5, 0, none⟩ rfl (adr6 a1).cells _ (fun W' hS' => cells_part ((hS'.block b5 (by omega)).trans h5) (fun j u h => by rw [Nat.zero_add]; exact h)) Try.underlying24 rfl (info_addr _)) hS ?_
        try simp only [Act.put, List.setIfInBounds_toArray, List.set_cons_zero, List.set_cons_succ]
        refine wpAnyH_take (i := 1) (oi := ⟨some 46, _, _, _, _, _⟩) rfl (by kernel_rfl) (by kernel_rfl) (by kernel_rfl) (fun _ _ _ h => h) (yields_row 24 (.tmp 7) rfl (by rfl) ⟨b7, 0, none⟩ rfl (adr6 a2).cells _ (fun W' hS' => cells_part ((hS'.block b7 (by omega)).trans h7) (fun j u h => by rw [Nat.zero_add]; exact h)) Try.underlying24 rfl (info_addr _)) hS ?_
        try simp only [Act.put, List.setIfInBounds_toArray, List.set_cons_zero, List.set_cons_succ]
        refine wpAnyH_take (i := 2) (oi := ⟨some 47, _, _, _, _, _⟩) (v := ?_) rfl (by kernel_rfl) (by kernel_rfl) (by kernel_rfl) (fun _ _ _ h => h) (Or.inl ⟨by rfl, ?_⟩) hS ?_
        rotate_left 1
        focus ((intro W' hS'; go_simp) <;> with_reducible rfl)
        try simp only [Act.put, List.setIfInBounds_toArray, List.set_cons_zero, List.set_cons_succ]
        refine wpAnyH_take (i := 3) (oi := ⟨some 48, _, _, _, _, _⟩) (v := ?_) rfl (by kernel_rfl) (by kernel_rfl) (by kernel_rfl) (fun _ _ _ h => h) (Or.inl ⟨by rfl, ?_⟩) hS ?_
        rotate_left 1
        focus ((intro W' hS'; have q1 := l7; go_simp) <;> with_reducible rfl)
        try simp only [Act.put, List.setIfInBounds_toArray, List.set_cons_zero, List.set_cons_succ]
        refine wpAnyH_take (i := 4) (oi := ⟨some 49, _, _, _, _, _⟩) (v := ?_) rfl (by kernel_rfl) (by kernel_rfl) (by kernel_rfl) (fun _ _ _ h => h) (Or.inl ⟨by rfl, ?_⟩) hS ?_
        rotate_left 1
        focus ((intro W' hS'; have q1 := keep_cell (hB7.trans (hS'.mono hw7l)) e7 hA7; go_simp) <;> with_reducible rfl)
        try simp only [Act.put, List.setIfInBounds_toArray, List.set_cons_zero, List.set_cons_succ]
        refine wpAnyH_take (i := 5) (oi := ⟨some 50, _, _, _, _, _⟩) (v := ?_) rfl (by kernel_rfl) (by kernel_rfl) (by kernel_rfl) (fun _ _ _ h => h) (Or.inl ⟨by rfl, ?_⟩) hS ?_
        rotate_left 1
        focus ((intro W' hS'; go_simp) <;> with_reducible rfl)
        try simp only [Act.put, List.setIfInBounds_toArray, List.set_cons_zero, List.set_cons_succ]
        refine wpAnyH_take (i := 6) (oi := ⟨some 51, _, _, _, _, _⟩) (v := ?_) rfl (by kernel_rfl) (by kernel_rfl) (by kernel_rfl) (fun _ _ _ h => h) (Or.inl ⟨by rfl, ?_⟩) hS ?_
        rotate_left 1
        focus ((intro W' hS'; have q1 := l6; go_simp) <;> with_reducible rfl)
        try simp only [Act.put, List.setIfInBounds_toArray, List.set_cons_zero, List.set_cons_succ]
        refine wpAnyH_take (i := 7) (oi := ⟨some 52, _, _, _, _, _⟩) (v := ?_) rfl (by kernel_rfl) (by kernel_rfl) (by kernel_rfl) (fun _ _ _ h => h) (Or.inl ⟨by rfl, ?_⟩) hS ?_
        rotate_left 1
        focus ((intro W' hS'; have q1 := keep_cell (hB7.trans (hS'.mono hw7l)) e6 hA6; go_simp) <;> with_reducible rfl)
        try simp only [Act.put, List.setIfInBounds_toArray, List.set_cons_zero, List.set_cons_succ]
        refine wpAnyH_take (i := 8) (oi := ⟨some 53, _, _, _, _, _⟩) (v := (.agg ((pkt1 a1 a2 kp hp).cells nilS))) rfl (by kernel_rfl) (by kernel_rfl) (by kernel_rfl) (fun _ _ _ h => h) (Or.inl ⟨by rfl, fun W' _ => exec_build 28 _ rfl #[(0, .agg (adr6 a1).cells), (1, .agg (adr6 a2).cells), (3, .int .u8 (hp.toNat : Int)), (2, .int .u8 (kp.toNat : Int)), (5, .bool true)] (by simp [Act.eval]) _ (build_pkt1 a1 a2 kp hp)⟩) hS ?_
        try simp only [Act.put, List.setIfInBounds_toArray, List.set_cons_zero, List.set_cons_succ]
        refine anyH_one (i := 9) (by kernel_rfl) ⟨some 9, _, _, _, _, _⟩ rfl (by rfl) ?_
        refine wp_yield (exec_alloc 28 rfl _ alloc_noPkt) ?_
        have hB9 := bl1 w8 (.cells (noPkt.cells nilS) 28)
        have hN9 := nw1 w8 (.cells (noPkt.cells nilS) 28)
        have hz9 : (w8.alloc (.cells (noPkt.cells nilS) 28)).heap.size = w8.heap.size + 1 := by simp
        have hS9 := hS.trans (hB9.mono hS.size)
        refine ⟨hS9, ?_⟩
        have hbl8 := hS.size
        clear hS
        have hS := hS9
        clear hS9 hB9
        obtain ⟨bb, hbb⟩ : ∃ bb, bb = w8.heap.size := ⟨_, rfl⟩
        have hbw : w7.heap.size ≤ bb := by omega
        rw [← hbb] at hN9 ⊢
        generalize w8.alloc _ = w9 at hS hN9 hz9 ⊢
        clear hbb hz9 hbl8
        refine anyH_one (i := 10) (by kernel_rfl) ⟨none, _, _, _, _, _⟩ rfl (by rfl) ?_
        refine wp_partF 28 (.tmp 9) (.tmp 53) rfl bb 0 28 (noPkt.cells nilS) ((pkt1 a1 a2 kp hp).cells nilS) ((pkt1 a1 a2 kp hp).cells nilS).toList rfl (by rfl) hN9 (by show 0 + 41 ≤ 41; omega) (Pkt.oneL _ _ rfl) (info_pkt _ _) rfl ?_
        intro w10 h10 m10 s10
        have hS10 := m10.below hS (Nat.le_refl _) (by simp; omega)
        refine ⟨hS10, ?_⟩
        clear hS hN9 m10 s10
        have hS := hS10
        clear hS10
        refine wpAnyH_done (by kernel_rfl) ?_ _
        have hB10 := hB7.trans (hS.mono hw7l)
        have h0' := (hS.block w.heap.size (by omega)).trans h07
        have hbw : w.heap.size < bb := by omega
        have HWR := hid (IntWalk.i64_in (40 + (n : Int)) (by omega))
        have HPE : Hid (∀ n', heads6 9 0 kp xs = .err n' → parse6 b = (noPkt, n')) := by
          intro n' hn'
          unfold parse6
          rw [if_neg HL.out, HX0.out, if_neg (by rw [HK.out]; simp), HN.out, if_neg HS.out, HKP.out, HXS.out, hn']
        have HPO : Hid (∀ k f ys, heads6 9 0 kp xs = .ok k f ys → parse6 b = if may6 (pkt6 b k f ys) then (pkt6 b k f ys, 0) else (noPkt, 3)) := by
          intro k f ys hk
          unfold parse6
          rw [if_neg HL.out, HX0.out, if_neg (by rw [HK.out]; simp), HN.out, if_neg HS.out, HKP.out, HXS.out, hk]
        have HQ6 : Hid (∀ k f ys, ({ pktH (pkt1 a1 a2 kp hp) k f with load := ys } : Pkt) = pkt6 b k f ys) := by
          intro k f ys
          rw [← HA1.out, ← HA2.out, ← HHP.out]
          cases f <;> rfl
        obtain ⟨p1, hp1⟩ : ∃ p1, p1 = pkt1 a1 a2 kp hp := ⟨_, rfl⟩
        have hpw : p1.whole = true := by rw [hp1]; rfl
        have hpk : p1.proto = kp := by rw [hp1]; rfl
        rw [← hp1] at h10 HQ6
        have HPW := hid hpw
        have HPK := hid hpk
        have H10 := hid h10
        have H0 := hid h0'
        clear hp1 hpw hpk h10 h0' hS h07 hl7 h5 h7 l6 l7 hB7 hw7l e6 e7 hA6 hA7
        have hwr := HWR.out
        go_wp2_with ((with_reducible refine at_slot 57 ?_); refine wpList_yieldG rfl (exec_slice8 (.tmp 54) _ _ rfl _ _ _ rfl rfl rfl _ r8) ?_)
        clear hwr
        obtain rfl : n = xs.length := HXL.out.symm
        go_loopw [10, 11] (fun r i wr => ∃ (k : Nat) (q : Pkt) (ys : List UInt8) (Y : Option Addr) (c' : Nat), k ≤ 8 ∧ ys.length ≤ 65535 ∧ r = .slice Y ys.length c' ∧ i = .int .i64 (k : Int) ∧ RB w (.slice Y ys.length c') ys ∧ wr.heap[w.heap.size]? = some (.cells (noPkt.cells nilS) 28 (0, 0)) ∧ wr.heap[bb]? = some (.cells (q.cells nilS) 28 (0, 0)) ∧ Below w.heap.size w wr ∧ Hid (HInv p1 xs k q ys)) (fun _ i _ => 9 - (intOf i).toNat)
        case atStart => exact ⟨0, p1, xs, B8, k8, by omega, hn, rfl, rfl, hr8, H0.out, H10.out, hB10, .inl ⟨HPW.out, rfl, rfl⟩⟩
        case round =>
          obtain ⟨k, q, ys, Y, c', hk, hy16, rfl, rfl, hry, h0, hq, hB, hi⟩ := hrel
          obtain ⟨c0, c1, c2, c3x, c4, c5, c6, c7, c8⟩ := pkt_cells hq
          have hpr := q.proto.toNat_lt
          have HYL := hid (show ys.length ≤ 70368744177664 by omega)
          have hyt : ys.length ≤ 9223372036854775807 := by
            obtain ⟨A', c'', e, r⟩ := hry
            exact Nat.le_trans r.cap r.top
          by_cases hqw : q.whole = true
          · rw [hqw] at c5
            have HQ := hid hqw
            have h44 : ((q.proto.toNat : Int) == 44) = true ↔ q.proto = 44 := by simp [← UInt8.toNat_inj]; omega
            have h00 : ((q.proto.toNat : Int) == 0) = true ↔ q.proto = 0 := by simp [← UInt8.toNat_inj]
            have H44 := hid h44
            have H00 := hid h00
            have hP : (isPastS q.proto = true ∧ ((q.proto.toNat : Int) == 44) = false) ∨ (isPastS q.proto = false ∧ ((q.proto.toNat : Int) == 44) = true) ∨ (isPastS q.proto = false ∧ ((q.proto.toNat : Int) == 44) = false) := by
              have : isPastS q.proto = true → ((q.proto.toNat : Int) == 44) = false := by
                intro h
                rw [Bool.eq_false_iff]
                intro h2
                rw [h44.1 h2] at h
                revert h
                decide
              cases h1 : isPastS q.proto
              · cases ((q.proto.toNat : Int) == 44) <;> simp
              · exact .inl ⟨rfl, this h1⟩
            clear h44 h00 hqw
            rcases hP with ⟨hp, h4⟩ | ⟨hp, h4⟩ | ⟨hp, h4⟩
            · have HP := hid hp
              have hkn : (isPastS q.proto || decide (q.proto = 44)) = true := by rw [hp]; rfl
              have e5 : ((q.proto.toNat : Int) != 44) = true := by rw [bne, h4]; rfl
              clear hp
              by_cases hk8 : k = 8
              · subst hk8
                have e1 : (((8 : Nat) : Int) == 8) = true := rfl
                go_wp2_with (first
                  | (go_at_call 26; (with_reducible refine Calls.mono (known_any _ _) ?_); rintro e w' ⟨rfl, rfl⟩)
                  | ((with_reducible refine at_build 28 ?_); refine wpList_buildF rfl 28 _ rfl _ rfl _ build_noPkt ?_)
                  | ((with_reducible refine at_store 2 69 ?_); refine wpList_rowF rfl 28 (.tmp 2) (.tmp 69) rfl w.heap.size 28 _ (noPkt.cells nilS) rfl rfl h0 (info_pkt _ _) rfl (Pkt.one _ _ rfl) ?_; intro w2 h2 m2 s2))
                exact ret_cell_tmp rfl rfl rfl h2 Try.underlying28 rfl (info_pkt _ _) (ParPost.err (HPE.out _ (HPK.out ▸ (hi.out.many HQ.out (.inr HP.out)))) (m2.below hB (by omega) (by simp)))
              · have e1 : ((k : Int) == 8) = false := by simp; omega
                have hk' : k < 8 := by omega
                clear hk8
                by_cases hf : 0 < k ∧ q.proto = 0
                · have e2 : decide (0 < k) = true := by simp; omega
                  have e3 : ((q.proto.toNat : Int) == 0) = true := H00.out.2 hf.2
                  have HF := hid hf
                  clear hf
                  go_wp2_with (first
                    | (go_at_call 26; (with_reducible refine Calls.mono (known_any _ _) ?_); rintro e w' ⟨rfl, rfl⟩)
                    | ((with_reducible refine at_build 28 ?_); refine wpList_buildF rfl 28 _ rfl _ rfl _ build_noPkt ?_)
                    | ((with_reducible refine at_store 2 77 ?_); refine wpList_rowF rfl 28 (.tmp 2) (.tmp 77) rfl w.heap.size 28 _ (noPkt.cells nilS) rfl rfl h0 (info_pkt _ _) rfl (Pkt.one _ _ rfl) ?_; intro w2 h2 m2 s2))
                  exact ret_cell_tmp rfl rfl rfl h2 Try.underlying28 rfl (info_pkt _ _) (ParPost.err (HPE.out _ (HPK.out ▸ (hi.out.form hk' HF.out.1 HQ.out HF.out.2))) (m2.below hB (by omega) (by simp)))
                · have HF : Hid (0 < k → q.proto ≠ 0) := fun a b => hf ⟨a, b⟩
                  have e23 : ((q.proto.toNat : Int) == 0) = false ∨ (((q.proto.toNat : Int) == 0) = true ∧ decide (0 < k) = false) := by
                    cases h0 : ((q.proto.toNat : Int) == 0)
                    · exact .inl rfl
                    · refine .inr ⟨rfl, ?_⟩
                      rw [decide_eq_false_iff_not]
                      exact fun h => HF h (H00.out.1 h0)
                  clear hf
                  by_cases hy2 : ys.length < 2
                  · have e4 : decide ((1 : Int) < (ys.length : Int)) = false := by simp; omega
                    have e4' : decide (1 < ys.length) = false := by simp; omega
                    have e6 : decide ((ys.length : Int) < 8) = true := by simp; omega
                    have HS2 := hid (hdS_short q ys hy2)
                    clear hy2
                    rcases e23 with e2 | ⟨e2, e3⟩
                    all_goals
                      go_wp2_with (first
                        | (go_at_call 26; (with_reducible refine Calls.mono (known_any _ _) ?_); rintro e w' ⟨rfl, rfl⟩)
                        | ((with_reducible refine at_build 28 ?_); refine wpList_buildF rfl 28 _ rfl _ rfl _ build_noPkt ?_)
                        | ((with_reducible refine at_store 2 96 ?_); refine wpList_rowF rfl 28 (.tmp 2) (.tmp 96) rfl w.heap.size 28 _ (noPkt.cells nilS) rfl rfl h0 (info_pkt _ _) rfl (Pkt.one _ _ rfl) ?_; intro w2 h2 m2 s2))
                      exact ret_cell_tmp rfl rfl rfl h2 Try.underlying28 rfl (info_pkt _ _) (ParPost.err (HPE.out _ (HPK.out ▸ (hi.out.stop hk' HQ.out (.inr ⟨HP.out, HF⟩) HS2.out))) (m2.below hB (by omega) (by simp)))
                  · obtain ⟨A', c'', e, hrw⟩ := hry.below hB
                    injection e with e1x _ e3x
                    subst e1x e3x
                    obtain ⟨ay, rfl⟩ := hrw.addr (by rw [by8_length]; omega)
                    have f0 := hrw.get 0 _ (by8_get ys 0 (by omega))
                    rw [add_zero'] at f0
                    have f1 := hrw.lit 1 _ (by omega) (by8_get ys 1 (by omega))
                    have e4 : decide ((1 : Int) < (ys.length : Int)) = true := by simp; omega
                    have e4' : decide (1 < ys.length) = true := by simp; omega
                    have l0 : 0 < ys.length := by omega
                    have l1 : 1 < ys.length := by omega
                    have hb1 := (ys.getD 1 0).toNat_lt
                    have hb0 := (ys.getD 0 0).toNat_lt
                    obtain ⟨y0, hy0⟩ : ∃ y0, y0 = ys.getD 0 0 := ⟨_, rfl⟩
                    obtain ⟨y1, hy1⟩ : ∃ y1, y1 = ys.getD 1 0 := ⟨_, rfl⟩
                    have hdd : hdS q ys = if ys.length < 8 * (y1.toNat + 1) then none else some ({ q with proto := y0 }, ys.drop (8 * (y1.toNat + 1))) := by
                      unfold hdS
                      rw [if_neg (fun h => by rw [H44.out.2 h] at h4; cases h4), if_neg hy2, ← hy0, ← hy1]
                    rw [← hy0] at f0 hb0
                    rw [← hy1] at f1 hb1
                    have HDD := hid hdd
                    clear hy0 hy1 hdd hrw hy2
                    by_cases hs : ys.length < 8 * (y1.toNat + 1)
                    · have e6 : decide ((ys.length : Int) < 8 * ((y1.toNat : Int) + 1)) = true := by simp; omega
                      have HDN : Hid (hdS q ys = none) := by
                        have := HDD.out
                        rw [if_pos hs] at this
                        exact this
                      clear hs
                      rcases e23 with e2 | ⟨e2, e3⟩
                      all_goals
                        go_wp2_with (first
                          | (go_at_call 26; (with_reducible refine Calls.mono (known_any _ _) ?_); rintro e w' ⟨rfl, rfl⟩)
                          | ((with_reducible refine at_build 28 ?_); refine wpList_buildF rfl 28 _ rfl _ rfl _ build_noPkt ?_)
                          | ((with_reducible refine at_store 2 96 ?_); refine wpList_rowF rfl 28 (.tmp 2) (.tmp 96) rfl w.heap.size 28 _ (noPkt.cells nilS) rfl rfl h0 (info_pkt _ _) rfl (Pkt.one _ _ rfl) ?_; intro w2 h2 m2 s2))
                        exact ret_cell_tmp rfl rfl rfl h2 Try.underlying28 rfl (info_pkt _ _) (ParPost.err (HPE.out _ (HPK.out ▸ (hi.out.stop hk' HQ.out (.inr ⟨HP.out, HF⟩) HDN.out))) (m2.below hB (by omega) (by simp)))
                    · have e6 : decide ((ys.length : Int) < 8 * ((y1.toNat : Int) + 1)) = false := by simp; omega
                      obtain ⟨Bz, kz, rz, hrz, _⟩ := cut_l hry (8 * (y1.toNat + 1)) (8 * ((y1.toNat : Int) + 1)) (by omega) (by omega)
                      have HDS : Hid (hdS q ys = some ({ q with proto := y0 }, ys.drop (8 * (y1.toNat + 1)))) := by
                        have := HDD.out
                        rw [if_neg hs] at this
                        exact this
                      rw [← List.length_drop] at rz hrz
                      have hlz : (ys.drop (8 * (y1.toNat + 1))).length ≤ 65535 := by rw [List.length_drop]; omega
                      generalize hzs : ys.drop (8 * (y1.toNat + 1)) = zs at rz hrz hlz HDS
                      have HZS := hid hzs
                      clear hs hzs
                      rcases e23 with e2 | ⟨e2, e3⟩
                      all_goals
                        go_wp2_with (first
                          | (go_at_call 26; (with_reducible refine Calls.mono (known_any _ _) ?_); rintro e w' ⟨rfl, rfl⟩)
                          | ((with_reducible refine at_store 122 121 ?_); refine wpList_partF rfl 5 (.tmp 122) (.tmp 121) rfl bb 34 28 (q.cells nilS) (Pkt.cells { q with proto := y0 } nilS) [.int .u8 (y0.toNat : Int)] rfl rfl hq (by show 34 + 1 ≤ 41; omega) (by simp [Value.oneCell']) (by kernel_rfl) rfl ?_; intro w3 h3 m3 s3)
                          | ((with_reducible refine at_slot 125 ?_); refine wpList_yieldG rfl (exec_slice8 (.tmp 123) _ _ rfl _ _ _ rfl rfl rfl _ rz) ?_))
                        go_roundw
                        case rel => exact ⟨k + 1, { q with proto := y0 }, zs, Bz, kz, by omega, hlz, rfl, by go_num, hrz, m3.keeps h0 (by simp; omega), h3, m3.below hB (Nat.le_refl _) (by simp; omega), hi.out.past hk' HQ.out (.inr ⟨HP.out, HF⟩) HDS.out⟩
                        case measure => simp [intOf]; omega
            · have HP := hid (H44.out.1 h4)
              have hkn : (isPastS q.proto || decide (q.proto = 44)) = true := by rw [HP.out]; rfl
              have e5 : ((q.proto.toNat : Int) != 44) = false := by rw [bne, h4]; rfl
              clear hp
              by_cases hk8 : k = 8
              · subst hk8
                have e1 : (((8 : Nat) : Int) == 8) = true := rfl
                go_wp2_with (first
                  | (go_at_call 26; (with_reducible refine Calls.mono (known_any _ _) ?_); rintro e w' ⟨rfl, rfl⟩)
                  | ((with_reducible refine at_build 28 ?_); refine wpList_buildF rfl 28 _ rfl _ rfl _ build_noPkt ?_)
                  | ((with_reducible refine at_store 2 69 ?_); refine wpList_rowF rfl 28 (.tmp 2) (.tmp 69) rfl w.heap.size 28 _ (noPkt.cells nilS) rfl rfl h0 (info_pkt _ _) rfl (Pkt.one _ _ rfl) ?_; intro w2 h2 m2 s2))
                exact ret_cell_tmp rfl rfl rfl h2 Try.underlying28 rfl (info_pkt _ _) (ParPost.err (HPE.out _ (HPK.out ▸ (hi.out.many HQ.out (.inl HP.out)))) (m2.below hB (by omega) (by simp)))
              · have e1 : ((k : Int) == 8) = false := by simp; omega
                have hk' : k < 8 := by omega
                clear hk8
                have e3 : ((q.proto.toNat : Int) == 0) = false := by
                  rw [Bool.eq_false_iff]
                  intro h
                  have := H00.out.1 h
                  rw [HP.out] at this
                  cases this
                have e4 : decide ((1 : Int) < (ys.length : Int)) = true ∨ decide ((1 : Int) < (ys.length : Int)) = false := by cases decide ((1 : Int) < (ys.length : Int)) <;> simp
                by_cases h8 : ys.length < 8
                · have e6 : decide ((ys.length : Int) < 8) = true := by simp; omega
                  have HDN : Hid (hdS q ys = none) := by unfold hdS; rw [HP.out]; exact if_pos h8
                  clear h8
                  rcases e4 with e4 | e4
                  all_goals
                    go_wp2_with (first
                      | (go_at_call 26; (with_reducible refine Calls.mono (known_any _ _) ?_); rintro e w' ⟨rfl, rfl⟩)
                      | ((with_reducible refine at_build 28 ?_); refine wpList_buildF rfl 28 _ rfl _ rfl _ build_noPkt ?_)
                      | ((with_reducible refine at_store 2 96 ?_); refine wpList_rowF rfl 28 (.tmp 2) (.tmp 96) rfl w.heap.size 28 _ (noPkt.cells nilS) rfl rfl h0 (info_pkt _ _) rfl (Pkt.one _ _ rfl) ?_; intro w2 h2 m2 s2))
                    exact ret_cell_tmp rfl rfl rfl h2 Try.underlying28 rfl (info_pkt _ _) (ParPost.err (HPE.out _ (HPK.out ▸ (hi.out.stop hk' HQ.out (.inl HP.out) HDN.out))) (m2.below hB (by omega) (by simp)))
                · obtain ⟨A', c'', e, hrw⟩ := hry
                  have hry : RB w (.slice Y ys.length c') ys := ⟨A', c'', e, hrw⟩
                  injection e with e1x _ e3x
                  subst e1x e3x
                  obtain ⟨ay, rfl⟩ := hrw.addr (by rw [by8_length]; omega)
                  have f0 := hrw.get 0 _ (by8_get ys 0 (by omega))
                  rw [add_zero'] at f0
                  have hA0 := World.block_lt_of_cell? w _ f0
                  have ey3 := hrw.lit 3 _ (by omega) (by8_get ys 3 (by omega))
                  have hA3 := World.block_lt_of_cell? w _ ey3
                  have e6 : decide ((ys.length : Int) < 8) = false := by simp; omega
                  have l0 : 0 < ys.length := by omega
                  have l3x : (3 : Int) < (ys.length : Int) := by omega
                  obtain ⟨B2, k2, r2, hr2, _⟩ := cut_lh hry 2 4 2 4 rfl rfl (by omega) (by omega)
                  obtain ⟨B3, k3, r3, hr3, _⟩ := cut_lh hry 4 8 4 8 rfl rfl (by omega) (by omega)
                  obtain ⟨Bz, kz, rz, hrz, _⟩ := cut_l hry 8 8 rfl (by omega)
                  have hG2 := hid fun W (h : RB W (.slice B2 2 k2) ((ys.drop 2).take 2)) => rget_any _ _ W h
                  have hG3 := hid fun W (h : RB W (.slice B3 4 k3) ((ys.drop 4).take 4)) => rget_any _ _ W h
                  rw [getS_short _ (by rw [List.length_take]; omega)] at hG2 hG3
                  have hv := be2_max ys 2
                  have hu := be4_max ys 4
                  have hy3 := be_low ys 2 (by omega)
                  generalize hvv : be ((ys.drop 2).take 2) = v at hG2 hv hy3
                  generalize huu : be ((ys.drop 4).take 4) = u at hG3 hu
                  have hb3 := (ys.getD 3 0).toNat_lt
                  have hb0 := (ys.getD 0 0).toNat_lt
                  obtain ⟨y0, hy0⟩ : ∃ y0, y0 = ys.getD 0 0 := ⟨_, rfl⟩
                  obtain ⟨y3, hy3'⟩ : ∃ y3, y3 = (ys.getD 3 0).toNat := ⟨_, rfl⟩
                  rw [← hy0] at f0 hb0
                  rw [← hy3'] at ey3 hb3 hy3
                  have HDS : Hid (hdS q ys = some ({ q with proto := y0, whole := false, more := decide (v % 2 = 1), off := (v : Int) / 8 * 8, id := u }, ys.drop 8)) := by
                    unfold hdS
                    rw [if_pos HP.out, if_neg h8, hvv, huu, ← hy0, show ((v / 8 * 8 : Nat) : Int) = (v : Int) / 8 * 8 by omega]
                    exact rfl
                  rw [← List.length_drop] at rz hrz
                  have hlz : (ys.drop 8).length ≤ 65535 := by rw [List.length_drop]; omega
                  generalize hzs : ys.drop 8 = zs at rz hrz hlz HDS
                  clear hvv huu hy0 hy3' hrw hzs h8
                  rcases e4 with e4 | e4
                  all_goals
                    go_wp2_with (first
                      | (go_at_call 26; (with_reducible refine Calls.mono (known_any _ _) ?_); rintro e w' ⟨rfl, rfl⟩)
                      | ((with_reducible refine at_storeX 100 ?_); refine wpList_partF rfl 4 (.tmp 100) (.const (.bool false)) rfl bb 37 28 (q.cells nilS) (Pkt.cells { q with whole := false } nilS) [.bool false] rfl rfl hq (by show 37 + 1 ≤ 41; omega) (by simp [Value.oneCell']) (by kernel_rfl) rfl ?_; intro w5 hb5 m5 s5))
                    have h05 := m5.keeps h0 (by simp; omega)
                    have hB5 := m5.below hB (Nat.le_refl _) (by simp; omega)
                    clear m5 s5 hq c0 c1 c2 c3x c4 c5 c6 c7 c8
                    refine wp_region_hand (fun W' => Below w.heap.size w W') (by kernel_rfl) (below_drewN hB5 1) ?_
                    intro hS
                    have hb5 : ({ w5 with drawn := w5.drawn + 1 } : World).heap[bb]? = some (.cells (Pkt.cells { q with whole := false } nilS) 28 (0, 0)) := hb5
                    have h05 : ({ w5 with drawn := w5.drawn + 1 } : World).heap[w.heap.size]? = some (.cells (noPkt.cells nilS) 28 (0, 0)) := h05
                    clear hB5
                    generalize ({ w5 with drawn := w5.drawn + 1 } : World) = u6 at hS hb5 h05 ⊢
                    have HW3 := hid (IntWalk.i64_in (v : Int) (by omega))
                    have HT4 := hid (show ((v : Int).tdiv 8) = (v : Int) / 8 from Int.tdiv_eq_ediv_of_nonneg (by omega))
                    have HW4 := hid (IntWalk.i64_in ((v : Int) / 8) (by omega))
                    have HW5 := hid (IntWalk.i64_in ((v : Int) / 8 * 8) (by omega))
                    have HT9 := hid (show ((y3 : Int).tmod 2) = (y3 : Int) % 2 from Int.tmod_eq_emod_of_nonneg (by omega))
                    have HE10 := hid (show (((y3 : Int) % 2) == 1) = decide (v % 2 = 1) by rw [Bool.eq_iff_iff]; simp; omega)
                    clear hy3
                    refine wpAnyH_take (i := 0) (oi := ⟨some 101, _, _, _, _, _⟩) (v := ?_) rfl (by kernel_rfl) (by kernel_rfl) (by kernel_rfl) (fun _ _ _ h => h) (Or.inl ⟨by rfl, ?_⟩) hS ?_
                    rotate_left 1
                    focus ((intro W' hS'; go_simp) <;> with_reducible rfl)
                    try simp only [Act.put, List.setIfInBounds_toArray, List.set_cons_zero, List.set_cons_succ]
                    refine wpAnyH_take (i := 1) (oi := ⟨some 102, _, _, _, _, _⟩) (v := ?_) rfl (by kernel_rfl) (by kernel_rfl) (by kernel_rfl) (fun _ _ _ h => h) (Or.inl ⟨by rfl, ?_⟩) hS ?_
                    rotate_left 1
                    focus ((intro W' hS'; have q1 := r2; go_simp) <;> with_reducible rfl)
                    try simp only [Act.put, List.setIfInBounds_toArray, List.set_cons_zero, List.set_cons_succ]
                    refine wpAnyH_take (i := 6) (oi := ⟨some 107, _, _, _, _, _⟩) (v := ?_) rfl (by kernel_rfl) (by kernel_rfl) (by kernel_rfl) (fun _ _ _ h => h) (Or.inl ⟨by rfl, ?_⟩) hS ?_
                    rotate_left 1
                    focus ((intro W' hS'; go_simp) <;> with_reducible rfl)
                    try simp only [Act.put, List.setIfInBounds_toArray, List.set_cons_zero, List.set_cons_succ]
                    refine wpAnyH_take (i := 7) (oi := ⟨some 108, _, _, _, _, _⟩) (v := ?_) rfl (by kernel_rfl) (by kernel_rfl) (by kernel_rfl) (fun _ _ _ h => h) (Or.inl ⟨by rfl, ?_⟩) hS ?_
                    rotate_left 1
                    focus ((intro W' hS'; have q1 := l3x; go_simp) <;> with_reducible rfl)
                    try simp only [Act.put, List.setIfInBounds_toArray, List.set_cons_zero, List.set_cons_succ]
                    refine wpAnyH_take (i := 8) (oi := ⟨some 109, _, _, _, _, _⟩) (v := ?_) rfl (by kernel_rfl) (by kernel_rfl) (by kernel_rfl) (fun _ _ _ h => h) (Or.inl ⟨by rfl, ?_⟩) hS ?_
                    rotate_left 1
                    focus ((intro W' hS'; have q1 := keep_cell hS' ey3 hA3; go_simp) <;> with_reducible rfl)
                    try simp only [Act.put, List.setIfInBounds_toArray, List.set_cons_zero, List.set_cons_succ]
                    refine wpAnyH_take (i := 9) (oi := ⟨some 110, _, _, _, _, _⟩) (v := ?_) rfl (by kernel_rfl) (by kernel_rfl) (by kernel_rfl) (fun _ _ _ h => h) (Or.inl ⟨by rfl, ?_⟩) hS ?_
                    rotate_left 1
                    focus ((intro W' hS'; have q1 := HT9.out; go_simp) <;> with_reducible rfl)
                    try simp only [Act.put, List.setIfInBounds_toArray, List.set_cons_zero, List.set_cons_succ]
                    refine wpAnyH_take (i := 10) (oi := ⟨some 111, _, _, _, _, _⟩) (v := ?_) rfl (by kernel_rfl) (by kernel_rfl) (by kernel_rfl) (fun _ _ _ h => h) (Or.inl ⟨by rfl, ?_⟩) hS ?_
                    rotate_left 1
                    focus ((intro W' hS'; have q1 := HE10.out; go_simp) <;> with_reducible rfl)
                    try simp only [Act.put, List.setIfInBounds_toArray, List.set_cons_zero, List.set_cons_succ]
                    refine anyH_one (i := 2) (by kernel_rfl) ⟨some 103, _, _, _, _, _⟩ rfl (by rfl) ?_
                    go_simp
                    with_reducible refine Calls.mono (hG2.out _ (hr2.below hS)) ?_
                    rintro e w6 ⟨rfl, rfl⟩
                    refine ⟨hS, ?_⟩
                    refine wpAnyH_take (i := 3) (oi := ⟨some 104, _, _, _, _, _⟩) (v := ?_) rfl (by kernel_rfl) (by kernel_rfl) (by kernel_rfl) (fun _ _ _ h => h) (Or.inl ⟨by rfl, ?_⟩) hS ?_
                    rotate_left 1
                    focus ((intro W' hS'; have q1 := HW3.out; go_simp) <;> with_reducible rfl)
                    try simp only [Act.put, List.setIfInBounds_toArray, List.set_cons_zero, List.set_cons_succ]
                    refine wpAnyH_take (i := 4) (oi := ⟨some 105, _, _, _, _, _⟩) (v := ?_) rfl (by kernel_rfl) (by kernel_rfl) (by kernel_rfl) (fun _ _ _ h => h) (Or.inl ⟨by rfl, ?_⟩) hS ?_
                    rotate_left 1
                    focus ((intro W' hS'; have q1 := HT4.out; have q2 := HW4.out; go_simp) <;> with_reducible rfl)
                    try simp only [Act.put, List.setIfInBounds_toArray, List.set_cons_zero, List.set_cons_succ]
                    refine wpAnyH_take (i := 5) (oi := ⟨some 106, _, _, _, _, _⟩) (v := ?_) rfl (by kernel_rfl) (by kernel_rfl) (by kernel_rfl) (fun _ _ _ h => h) (Or.inl ⟨by rfl, ?_⟩) hS ?_
                    rotate_left 1
                    focus ((intro W' hS'; have q1 := HW5.out; go_simp) <;> with_reducible rfl)
                    try simp only [Act.put, List.setIfInBounds_toArray, List.set_cons_zero, List.set_cons_succ]
                    refine wpAnyH_take (i := 11) (oi := ⟨some 112, _, _, _, _, _⟩) (v := ?_) rfl (by kernel_rfl) (by kernel_rfl) (by kernel_rfl) (fun _ _ _ h => h) (Or.inl ⟨by rfl, ?_⟩) hS ?_
                    rotate_left 1
                    focus ((intro W' hS'; go_simp) <;> with_reducible rfl)
                    try simp only [Act.put, List.setIfInBounds_toArray, List.set_cons_zero, List.set_cons_succ]
                    refine anyH_one (i := 12) (by kernel_rfl) ⟨none, _, _, _, _, _⟩ rfl (by rfl) ?_
                    refine wp_partF 3 (.tmp 112) (.tmp 106) rfl bb 39 28 (Pkt.cells { q with whole := false } nilS) (Pkt.cells { q with whole := false, off := (v : Int) / 8 * 8 } nilS) [(.int .i64 ((v : Int) / 8 * 8))] rfl rfl hb5 (by show 39 + 1 ≤ 41; omega) (by simp [Value.oneCell']) (by kernel_rfl) rfl ?_
                    intro u7 hbu7 mbu7 sbu7
                    have hSu7 := mbu7.below hS (Nat.le_refl _) (by simp; omega)
                    refine ⟨hSu7, ?_⟩
                    have h05 := mbu7.keeps h05 (by simp; omega)
                    clear hS mbu7 sbu7
                    have hS := hSu7
                    clear hSu7
                    refine wpAnyH_take (i := 13) (oi := ⟨some 113, _, _, _, _, _⟩) (v := ?_) rfl (by kernel_rfl) (by kernel_rfl) (by kernel_rfl) (fun _ _ _ h => h) (Or.inl ⟨by rfl, ?_⟩) hS ?_
                    rotate_left 1
                    focus ((intro W' hS'; go_simp) <;> with_reducible rfl)
                    try simp only [Act.put, List.setIfInBounds_toArray, List.set_cons_zero, List.set_cons_succ]
                    refine anyH_one (i := 14) (by kernel_rfl) ⟨none, _, _, _, _, _⟩ rfl (by rfl) ?_
                    refine wp_partF 4 (.tmp 113) (.tmp 111) rfl bb 38 28 (Pkt.cells { q with whole := false, off := (v : Int) / 8 * 8 } nilS) (Pkt.cells { q with whole := false, off := (v : Int) / 8 * 8, more := decide (v % 2 = 1) } nilS) [(.bool (decide (v % 2 = 1)))] rfl rfl hbu7 (by show 38 + 1 ≤ 41; omega) (by simp [Value.oneCell']) (by kernel_rfl) rfl ?_
                    intro u8 hbu8 mbu8 sbu8
                    have hSu8 := mbu8.below hS (Nat.le_refl _) (by simp; omega)
                    refine ⟨hSu8, ?_⟩
                    have h05 := mbu8.keeps h05 (by simp; omega)
                    clear hS mbu8 sbu8
                    have hS := hSu8
                    clear hSu8
                    refine wpAnyH_done (by kernel_rfl) ?_ _
                    have g0 := keep_cell hS f0 hA0
                    clear HW3 HT4 HW4 HW5 HT9 HE10 hb5 hbu7 l3x
                    go_wp2_with (first
                      | (go_at_call 29; (with_reducible refine Calls.mono (hG3.out _ (hr3.below hS)) ?_); rintro e w' ⟨rfl, rfl⟩)
                      | ((with_reducible refine at_store 118 117 ?_); refine wpList_partF rfl 25 (.tmp 118) (.tmp 117) rfl bb 36 28 (Pkt.cells { q with whole := false, off := (v : Int) / 8 * 8, more := decide (v % 2 = 1) } nilS) (Pkt.cells { q with whole := false, off := (v : Int) / 8 * 8, more := decide (v % 2 = 1), id := u } nilS) [.int .u32 (u : Int)] rfl rfl hbu8 (by show 36 + 1 ≤ 41; omega) (by simp [Value.oneCell']) (by kernel_rfl) rfl ?_; intro u9 hb9 m9 s9; have g9 := m9.cell g0 (by simp; omega))
                      | ((with_reducible refine at_store 122 121 ?_); refine wpList_partF rfl 5 (.tmp 122) (.tmp 121) rfl bb 34 28 (Pkt.cells { q with whole := false, off := (v : Int) / 8 * 8, more := decide (v % 2 = 1), id := u } nilS) (Pkt.cells { q with whole := false, off := (v : Int) / 8 * 8, more := decide (v % 2 = 1), id := u, proto := y0 } nilS) [.int .u8 (y0.toNat : Int)] rfl rfl hb9 (by show 34 + 1 ≤ 41; omega) (by simp [Value.oneCell']) (by kernel_rfl) rfl ?_; intro u10 hb10 m10 s10)
                      | ((with_reducible refine at_slot 125 ?_); refine wpList_yieldG rfl (exec_slice8 (.tmp 123) _ _ rfl _ _ _ rfl rfl rfl _ rz) ?_))
                    go_roundw
                    case rel => exact ⟨k + 1, { q with whole := false, off := (v : Int) / 8 * 8, more := decide (v % 2 = 1), id := u, proto := y0 }, zs, Bz, kz, by omega, hlz, rfl, by go_num, hrz, m10.keeps (m9.keeps h05 (by simp; omega)) (by simp; omega), hb10, m10.below (m9.below hS (Nat.le_refl _) (by simp; omega)) (Nat.le_refl _) (by simp; omega), hi.out.past hk' HQ.out (.inl HP.out) HDS.out⟩
                    case measure => simp [intOf]; omega
            · have HP := hid hp
              have hkn : (isPastS q.proto || decide (q.proto = 44)) = false := by
                rw [hp, Bool.false_or, decide_eq_false_iff_not]
                intro h
                rw [H44.out.2 h] at h4
                cases h4
              have HN : Hid (q.proto ≠ 44) := by
                intro h
                rw [H44.out.2 h] at h4
                cases h4
              have he := hi.out.end_ hk HQ.out HN.out HP.out
              have HOK := hid (show heads6 9 0 kp xs = .ok q.proto none ys by rw [← HPK.out]; exact he.1)
              have HQQ := hid he.2
              clear he hp h4
              have hbl := (Array.getElem?_eq_some_iff.1 hq).1
              have hR1 := hry.below hB
              go_wp2_with (first
                | (go_at_call 26; (with_reducible refine Calls.mono (known_any _ _) ?_); rintro e w' ⟨rfl, rfl⟩)
                | ((with_reducible refine at_slot 127 ?_); refine append_u8 (.const (.slice none 0 0)) (.tmp 126) wr.heap.size [] ys ys rfl rfl rfl rfl rfl (OB.nil _ _) hR1 (by show 0 + ys.length ≤ _; have := HYL.out; omega) (Nat.le_refl _) ?_; intro A3 c3 w2 ho2 hb2 _ _)
                | ((with_reducible refine at_store 128 127 ?_); refine wpList_partF rfl 26 (.tmp 128) (.tmp 127) rfl bb 40 28 (q.cells nilS) (q.cells (.slice A3 ys.length c3)) [.slice A3 ys.length c3] rfl rfl ((hb2.block bb hbl).trans hq) (by show 40 + 1 ≤ 41; omega) (by simp [Value.oneCell']) (by kernel_rfl) rfl ?_; intro w3 h3 m3 s3)
                | ((with_reducible refine at_slot 129 ?_); refine wpList_load_row rfl 28 (.tmp 9) rfl bb rfl _ (q.cells (.slice A3 ys.length c3)) _ _ h3 Try.underlying28 rfl (info_pkt _ _) ?_))
              all_goals
                obtain ⟨dA, hdA, hdA1, hdA2, _⟩ := ho2.inb' (hb2.size)
                have hrb : RB w3 (.slice A3 ys.length c3) ys := ho2.rb.mod m3 hdA (by simp; omega)
                have h03 := m3.keeps ((hb2.block w.heap.size (by omega)).trans h0) (by simp; omega)
                have hB3 := m3.below (hB.trans (hb2.mono (by have := hB.size; omega))) (Nat.le_refl _) (by simp; omega)
                have hq' := HQ6.out q.proto none ys
                rw [← HQQ.out] at hq'
                have hpar := HPO.out q.proto none ys HOK.out
                rw [← hq'] at hpar
                have hok : ({ q with load := ys } : Pkt).Ok := by
                  rw [hq']
                  exact ⟨by show 0 ≤ 4294967295; omega, by show (-9223372036854775808 : Int) ≤ 0 ∧ (0 : Int) ≤ 9223372036854775807; omega⟩
                have HM := hid (rmay6_any { q with load := ys } (.slice A3 ys.length c3) w3 hok hrb)
                have hb3l : bb < w3.heap.size := (Array.getElem?_eq_some_iff.1 h3).1
                clear hok hq' ho2 hb2 m3 hq h0 c0 c1 c2 c3x c4 c5 c6 c7 c8 hR1
                obtain ⟨mb, hmb⟩ : ∃ mb, mb = may6 { q with load := ys } := ⟨_, rfl⟩
                rw [← hmb] at hpar HM
                have hHM : Calls Try.prog 14 #[.agg (q.cells (.slice A3 ys.length c3))] w3 fun e w' => e = .returned (.bool mb) ∧ Below w3.heap.size w3 w' := HM.out
                have HPAR := hid hpar
                have HM2 := hid hHM
                clear hmb hpar HM hHM
                with_reducible refine Calls.mono HM2.out ?_
                rintro e w4 ⟨rfl, hb4⟩
                have h04 := (hb4.block w.heap.size (by omega)).trans h03
                have h34 := (hb4.block bb (by omega)).trans h3
                have hB4 := below_after hB3 hb4 (Nat.le_refl _)
                clear h03 h3 hB3
                cases mb
                · go_wp2_with (first
                    | ((with_reducible refine at_build 28 ?_); refine wpList_buildF rfl 28 _ rfl _ rfl _ build_noPkt ?_)
                    | ((with_reducible refine at_store 2 132 ?_); refine wpList_rowF rfl 28 (.tmp 2) (.tmp 132) rfl w.heap.size 28 _ (noPkt.cells nilS) rfl rfl h04 (info_pkt _ _) rfl (Pkt.one _ _ rfl) ?_; intro w5 h5 m5 s5))
                  exact ret_cell_tmp rfl rfl rfl h5 Try.underlying28 rfl (info_pkt _ _) (ParPost.err HPAR.out (m5.below hB4 (by omega) (by simp)))
                · go_wp2_with (first
                    | ((with_reducible refine at_slot 133 ?_); refine wpList_load_row rfl 28 (.tmp 9) rfl bb rfl _ (q.cells (.slice A3 ys.length c3)) _ _ h34 Try.underlying28 rfl (info_pkt _ _) ?_)
                    | ((with_reducible refine at_store 2 133 ?_); refine wpList_rowF rfl 28 (.tmp 2) (.tmp 133) rfl w.heap.size 28 _ (q.cells (.slice A3 ys.length c3)) rfl rfl h04 (info_pkt _ _) rfl (Pkt.one _ _ rfl) ?_; intro w5 h5 m5 s5))
                  refine ret_cell_tmp rfl rfl rfl h5 Try.underlying28 rfl (info_pkt _ _) ⟨.slice A3 ys.length c3, ?_, ?_, m5.below hB4 (by omega) (by simp)⟩
                  · rw [HPAR.out]; rfl
                  · rw [HPAR.out]
                    exact (hrb.below hb4).mod m5 hdA (by simp; omega)
          · have hqf : q.whole = false := by simpa using hqw
            rw [hqf] at c5
            have HQ := hid hqf
            clear hqw hqf
            have hkn : (isPastS q.proto || decide (q.proto = 44)) = true ∨ (isPastS q.proto || decide (q.proto = 44)) = false := by cases (isPastS q.proto || decide (q.proto = 44)) <;> simp
            rcases hi.out with ⟨h1, _⟩ | ⟨_, x, h1, h2⟩
            · rw [HQ.out] at h1; cases h1
            · have HOK := hid (show heads6 9 0 kp xs = .ok q.proto (some x) ys by rw [← HPK.out]; exact h1)
              have HQQ := hid h2
              clear h1 h2
              have hbl := (Array.getElem?_eq_some_iff.1 hq).1
              have hR1 := hry.below hB
              go_wp2_with (first
                | (go_at_call 26; (with_reducible refine Calls.mono (known_any _ _) ?_); rintro e w' ⟨rfl, rfl⟩)
                | ((with_reducible refine at_slot 127 ?_); refine append_u8 (.const (.slice none 0 0)) (.tmp 126) wr.heap.size [] ys ys rfl rfl rfl rfl rfl (OB.nil _ _) hR1 (by show 0 + ys.length ≤ _; have := HYL.out; omega) (Nat.le_refl _) ?_; intro A3 c3 w2 ho2 hb2 _ _)
                | ((with_reducible refine at_store 128 127 ?_); refine wpList_partF rfl 26 (.tmp 128) (.tmp 127) rfl bb 40 28 (q.cells nilS) (q.cells (.slice A3 ys.length c3)) [.slice A3 ys.length c3] rfl rfl ((hb2.block bb hbl).trans hq) (by show 40 + 1 ≤ 41; omega) (by simp [Value.oneCell']) (by kernel_rfl) rfl ?_; intro w3 h3 m3 s3)
                | ((with_reducible refine at_slot 129 ?_); refine wpList_load_row rfl 28 (.tmp 9) rfl bb rfl _ (q.cells (.slice A3 ys.length c3)) _ _ h3 Try.underlying28 rfl (info_pkt _ _) ?_))
              all_goals
                obtain ⟨dA, hdA, hdA1, hdA2, _⟩ := ho2.inb' (hb2.size)
                have hrb : RB w3 (.slice A3 ys.length c3) ys := ho2.rb.mod m3 hdA (by simp; omega)
                have h03 := m3.keeps ((hb2.block w.heap.size (by omega)).trans h0) (by simp; omega)
                have hB3 := m3.below (hB.trans (hb2.mono (by have := hB.size; omega))) (Nat.le_refl _) (by simp; omega)
                have hq' := HQ6.out q.proto (some x) ys
                rw [← HQQ.out] at hq'
                have hpar := HPO.out q.proto (some x) ys HOK.out
                rw [← hq'] at hpar
                have hok : ({ q with load := ys } : Pkt).Ok := by
                  rw [hq']
                  have := heads6_frag 9 0 kp xs q.proto x ys HOK.out
                  exact ⟨this.2, by show (-9223372036854775808 : Int) ≤ ((x.1 / 8 * 8 : Nat) : Int) ∧ ((x.1 / 8 * 8 : Nat) : Int) ≤ 9223372036854775807; have := this.1; omega⟩
                have HM := hid (rmay6_any { q with load := ys } (.slice A3 ys.length c3) w3 hok hrb)
                have hb3l : bb < w3.heap.size := (Array.getElem?_eq_some_iff.1 h3).1
                clear hok hq' ho2 hb2 m3 hq h0 c0 c1 c2 c3x c4 c5 c6 c7 c8 hR1
                obtain ⟨mb, hmb⟩ : ∃ mb, mb = may6 { q with load := ys } := ⟨_, rfl⟩
                rw [← hmb] at hpar HM
                have hHM : Calls Try.prog 14 #[.agg (q.cells (.slice A3 ys.length c3))] w3 fun e w' => e = .returned (.bool mb) ∧ Below w3.heap.size w3 w' := HM.out
                have HPAR := hid hpar
                have HM2 := hid hHM
                clear hmb hpar HM hHM
                with_reducible refine Calls.mono HM2.out ?_
                rintro e w4 ⟨rfl, hb4⟩
                have h04 := (hb4.block w.heap.size (by omega)).trans h03
                have h34 := (hb4.block bb (by omega)).trans h3
                have hB4 := below_after hB3 hb4 (Nat.le_refl _)
                clear h03 h3 hB3
                cases mb
                · go_wp2_with (first
                    | ((with_reducible refine at_build 28 ?_); refine wpList_buildF rfl 28 _ rfl _ rfl _ build_noPkt ?_)
                    | ((with_reducible refine at_store 2 132 ?_); refine wpList_rowF rfl 28 (.tmp 2) (.tmp 132) rfl w.heap.size 28 _ (noPkt.cells nilS) rfl rfl h04 (info_pkt _ _) rfl (Pkt.one _ _ rfl) ?_; intro w5 h5 m5 s5))
                  exact ret_cell_tmp rfl rfl rfl h5 Try.underlying28 rfl (info_pkt _ _) (ParPost.err HPAR.out (m5.below hB4 (by omega) (by simp)))
                · go_wp2_with (first
                    | ((with_reducible refine at_slot 133 ?_); refine wpList_load_row rfl 28 (.tmp 9) rfl bb rfl _ (q.cells (.slice A3 ys.length c3)) _ _ h34 Try.underlying28 rfl (info_pkt _ _) ?_)
                    | ((with_reducible refine at_store 2 133 ?_); refine wpList_rowF rfl 28 (.tmp 2) (.tmp 133) rfl w.heap.size 28 _ (q.cells (.slice A3 ys.length c3)) rfl rfl h04 (info_pkt _ _) rfl (Pkt.one _ _ rfl) ?_; intro w5 h5 m5 s5))
                  refine ret_cell_tmp rfl rfl rfl h5 Try.underlying28 rfl (info_pkt _ _) ⟨.slice A3 ys.length c3, ?_, ?_, m5.below hB4 (by omega) (by simp)⟩
                  · rw [HPAR.out]; rfl
                  · rw [HPAR.out]
                    exact (hrb.below hb4).mod m5 hdA (by simp; omega)
    · have HP := hid (show parse6 b = (noPkt, 11) by unfold parse6; rw [if_neg HL.out, HX0.out, if_pos hk])
      have e2 : ((x0 : Int) / 16 != 6) = true := by simp; omega
      clear hk hrow
      go_wp2_with (first
        | ((with_reducible refine at_build 28 ?_); refine wpList_buildF rfl 28 _ rfl _ rfl _ build_noPkt ?_)
        | ((with_reducible refine at_store 2 22 ?_); refine wpList_rowF rfl 28 (.tmp 2) (.tmp 22) rfl w.heap.size 28 _ (noPkt.cells nilS) rfl rfl h0 (info_pkt _ _) rfl (Pkt.one _ _ rfl) ?_; intro w2 h2 m2 s2))
      exact ret_cell_tmp rfl rfl rfl h2 Try.underlying28 rfl (info_pkt _ _) (ParPost.err HP.out (m2.below hb1 (by omega) (by simp)))
end Go.Proofs.Ytlijgcmcpehplaa
