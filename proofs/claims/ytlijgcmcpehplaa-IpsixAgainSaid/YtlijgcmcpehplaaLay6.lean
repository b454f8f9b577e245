/- Walk: ipsix.Lay. -/
import Derived.Test.YtlijgcmcpehplaaPktB
import Derived.Test.YtlijgcmcpehplaaWrap6
import Derived.Test.YtlijgcmcpehplaaAdrB
import Derived.Test.YtlijgcmcpehplaaBuf
import Derived.Laws.DeepBits32
import Derived.Laws.Bits64b
namespace Go.Proofs.Ytlijgcmcpehplaa
set_option linter.unusedVariables false
set_option linter.unusedSimpArgs false
open Go.RowKit

def layR (p : Pkt) : List UInt8 × Int := (lay6 p, if may6 p then 0 else 1)
theorem or_one_u64 (n : Int) (h0 : 0 ≤ n) (h1 : n ≤ 65535) (h2 : n % 2 = 0) : bits .or .u64 n 1 = n + 1 := by
  obtain ⟨k, rfl⟩ : ∃ k : Nat, n = (k : Int) := ⟨n.toNat, by omega⟩
  rw [show (1 : Int) = ((1 : Nat) : Int) by rfl, bits_or_u64_nat k 1 (by omega) (by omega), or_bit k 1 (by omega) (by omega)]
  omega
theorem layR_no {p : Pkt} (h : may6 p = false) : layR p = ([], 1) := by unfold layR lay6; rw [h]; rfl
theorem layR_ok {p : Pkt} (h : may6 p = true) : layR p = (bytes6 p, 0) := by unfold layR lay6; rw [h]; rfl
theorem Adr.cut6 {a : Adr} (h : a.six = true) : a.cut = a.bytes := by unfold Adr.cut; rw [h]; rfl
theorem adrBytes6 (a : Adr) (h : a.six = true) (w : World) : Calls Try.prog 23 #[.agg a.cells] w fun e w' =>
    ∃ A c, e = .returned (.slice A 16 c) ∧ OB w' w.heap.size (.slice A 16 c) a.bytes ∧ Below w.heap.size w w' := by
  have := adrBytes_any a w
  rw [Adr.cut6 h] at this
  exact this
set_option maxRecDepth 100000 in
set_option maxHeartbeats 2000000 in
theorem lay6_any (p : Pkt) (dv : Value) (w : World) (hp : p.Ok) (hd : RB w dv p.load) :
    Calls Try.prog 11 #[p.v dv] w (BytesPost (layR p) w) := by
  have HM := hid fun W (h : RB W dv p.load) => may6_any p dv W hp h
  have HRB := hid fun W (h : Below w.heap.size w W) => hd.below h
  obtain ⟨A, c, rfl, hrow⟩ := hd
  have hcap := hrow.cap
  have htop := hrow.top
  clear hrow
  unfold Pkt.v at *
  obtain ⟨r, hr⟩ : ∃ r, r = layR p := ⟨_, rfl⟩
  rw [← hr]
  go_enter Try.func11, Try.ntmps11
  go_step
  go_step
  refine wpList_boxF rfl 28 (.tmp 0) rfl (p.cells (.slice A p.load.length c)) rfl ?_
  intro w1 h1 hb1 s1
  have hl1 : w.heap.size < w1.heap.size := by omega
  clear s1
  cases hm : may6 p
  · have HR := hid (hr.trans (layR_no hm))
    clear hr
    rw [hm] at HM
    go_wp2_with (first
      | ((with_reducible refine at_slot 8 ?_); refine wpList_load_row rfl 28 (.tmp 1) rfl w.heap.size rfl _ (p.cells (.slice A p.load.length c)) _ _ h1 Try.underlying28 rfl (info_pkt _ _) ?_)
      | (go_at_call 13; (with_reducible refine Calls.mono (HM.out _ (HRB.out _ hb1)) ?_); rintro e w2 ⟨rfl, hb2⟩))
    go_ret2
    exact BytesPost.nil HR.out (below_after hb1 hb2 (Nat.le_refl _))
  · have HR := hid (hr.trans (layR_ok hm))
    clear hr
    have h6 := (may6_iff p).1 hm
    rw [hm] at HM
    have hs1 := h6.src
    have hs2 := h6.dst
    have hof := h6.off
    have hid' := hp.id
    have HS1 := hid hs1
    have HS2 := hid hs2
    have hph := p.hops.toNat_lt
    have hpp := p.proto.toNat_lt
    clear h6 hm hs1 hs2 hp
    cases hw : p.whole
    · obtain ⟨M0, hM0⟩ : ∃ M0, [0x60, 0, 0, 0] ++ beB 2 (8 + p.load.length) = M0 := ⟨_, rfl⟩
      have l0 : M0.length = 6 := by rw [← hM0, List.length_append, beB_length]; rfl
      obtain ⟨M1, hM1⟩ : ∃ M1, M0 ++ [44, p.hops] = M1 := ⟨_, rfl⟩
      have l1 : M1.length = 8 := by rw [← hM1, List.length_append, l0]; rfl
      obtain ⟨M2, hM2⟩ : ∃ M2, M1 ++ p.src.bytes = M2 := ⟨_, rfl⟩
      have l2 : M2.length = 24 := by rw [← hM2, List.length_append, l1]; rfl
      obtain ⟨M3, hM3⟩ : ∃ M3, M2 ++ p.dst.bytes = M3 := ⟨_, rfl⟩
      have l3 : M3.length = 40 := by rw [← hM3, List.length_append, l2]; rfl
      have hof' : p.off = (p.off.toNat : Int) := by omega
      obtain ⟨of_, hof2⟩ : ∃ n, n = p.off.toNat := ⟨_, rfl⟩
      rw [← hof2] at hof'
      have hofb : of_ ≤ 65535 := by omega
      obtain ⟨mo, hmo⟩ : ∃ n : Nat, n = if p.more then 1 else 0 := ⟨_, rfl⟩
      have hmo1 : mo ≤ 1 := by rw [hmo]; split <;> omega
      obtain ⟨M4, hM4⟩ : ∃ M4, M3 ++ [p.proto, 0] = M4 := ⟨_, rfl⟩
      have l4 : M4.length = 42 := by rw [← hM4, List.length_append, l3]; rfl
      obtain ⟨M5, hM5⟩ : ∃ M5, M4 ++ beB 2 (of_ + mo) = M5 := ⟨_, rfl⟩
      have l5 : M5.length = 44 := by rw [← hM5, List.length_append, l4, beB_length]
      obtain ⟨M6, hM6⟩ : ∃ M6, M5 ++ beB 4 p.id = M6 := ⟨_, rfl⟩
      have l6 : M6.length = 48 := by rw [← hM6, List.length_append, l5, beB_length]
      obtain ⟨M7, hM7⟩ : ∃ M7, M6 ++ p.load = M7 := ⟨_, rfl⟩
      have hfin : bytes6 p = M7 := by
        unfold bytes6 frag6
        rw [hw, ← hM7, ← hM6, ← hM5, ← hM4, hof2, hmo, ← hM3, ← hM2, ← hM1, ← hM0]
        simp [beB_length]
      have HP1 := hid fun W v1 v2 (h1 : RB W v1 [0x60, 0, 0, 0]) (h2 : RN W v2 [UInt64.ofNat (8 + p.load.length)]) => put_any v1 v2 [0x60, 0, 0, 0] 2 [UInt64.ofNat (8 + p.load.length)] W h1 h2 (by omega) (by omega) (by simp)
      rw [put2_one (8 + p.load.length) (by omega), hM0] at HP1
      have HP2 := hid fun W v1 v2 (h1 : RB W v1 M4) (h2 : RN W v2 [UInt64.ofNat (of_ + mo)]) => put_any v1 v2 M4 2 [UInt64.ofNat (of_ + mo)] W h1 h2 (by omega) (by omega) (by rw [l4]; simp)
      rw [put2_one (of_ + mo) (by omega), hM5] at HP2
      have HP3 := hid fun W v1 v2 (h1 : RB W v1 M5) (h2 : RN W v2 [UInt64.ofNat p.id]) => put_any v1 v2 M5 4 [UInt64.ofNat p.id] W h1 h2 (by omega) (by omega) (by rw [l5]; simp)
      rw [put4_one p.id (by omega), hM6] at HP3
      have HM0 := hid hM0
      have L0 := hid l0
      have HM1 := hid hM1
      have L1 := hid l1
      have HM2 := hid hM2
      have L2 := hid l2
      have HM3 := hid hM3
      have L3 := hid l3
      have HM4 := hid hM4
      have L4 := hid l4
      have HM5 := hid hM5
      have L5 := hid l5
      have HM6 := hid hM6
      have L6 := hid l6
      have HM7 := hid hM7
      have HF := hid hfin
      clear hfin hM0 hM1 hM2 hM3 hM4 hM5 hM6 hM7 l0 l1 l2 l3 l4 l5 l6
      have HOF := hid hof2
      clear hof2
      have HMO := hid hmo
      clear hmo
      go_wp2_with (first
        | ((with_reducible refine at_slot 8 ?_); refine wpList_load_row rfl 28 (.tmp 1) rfl w.heap.size rfl _ (p.cells (.slice A p.load.length c)) _ _ h1 Try.underlying28 rfl (info_pkt _ _) ?_)
        | (go_at_call 13; (with_reducible refine Calls.mono (HM.out _ (HRB.out _ hb1)) ?_); rintro e w2 ⟨rfl, hb2⟩))
      have hk2 := (hb2.block w.heap.size hl1).trans h1
      obtain ⟨c0, c1, c2, c3, c4, c5, c6, c7, c8⟩ := pkt_cells hk2
      rw [hw] at c5
      clear c0 c1 c3 c4 c6 c7
      go_quiet (fail)
      have S3 : Below w1.heap.size w1 (w2.drewN nq) := below_drewN hb2 nq
      have hk3 : (w2.drewN nq).heap[w.heap.size]? = some (.cells (p.cells (.slice A p.load.length c)) 28 (0, 0)) := hk2
      generalize w2.drewN nq = u3 at S3 hk3 ⊢
      clear hk2 c2 c5 c8
      obtain ⟨d0, d1, d2, d3, d4, d5, d6, d7, d8⟩ := pkt_cells hk3
      rw [hw] at d5
      clear d0 d1 d2 d4 d6 d7 d8
      have HSZ := hid (show (p.load.length : Int) + 8 = ((8 + p.load.length : Nat) : Int) by omega)
      cases hmr : p.more
      · have HOV := hid (show p.off = ((of_ + mo : Nat) : Int) by have := HMO.out; rw [hmr] at this; simp at this; omega)
        clear hof'
        go_wp2_with (first
          | ((with_reducible refine at_slot 21 ?_); refine wpList_litF rfl 26 5 4 _ rfl #[(0, .int .u8 96), (1, .int .u8 0), (2, .int .u8 0), (3, .int .u8 0)] (by simp [Act.eval]) _ (lit8_4 _ _ _ _) ?_; intro u4 h4 hb4 s4; clear s4; have S4 := S3.trans (hb4.mono S3.size))
          | ((with_reducible refine at_slot 24 ?_); refine wpList_litF rfl 52 49 1 _ rfl #[(0, .int .u64 ((p.load.length : Int) + 8))] (by simp [Act.eval]) _ (lit64_1 _) ?_; intro u5 h5 hb5 s5; clear s5; have S5 := S4.trans (hb5.mono S4.size); rw [HSZ.out] at h5)
          | (go_at_call 22; (with_reducible refine Calls.mono (HP1.out u5 _ _ (RB.below (RB.lit h4 rfl (by omega) rfl) hb5) (RN.lit1 h5 (by omega))) ?_); rintro e u6 ⟨A6, k6, rfl, o6', hb6⟩; have S6 := S5.trans (hb6.mono S5.size); have o6 := OB.lower o6' S5.size; clear o6'; have hk6 := (S6.block w.heap.size hl1).trans h1; obtain ⟨d6_0, d6_1, d6_2, d6_3, d6_4, d6_5, d6_6, d6_7, d6_8⟩ := pkt_cells hk6)
          | ((with_reducible refine at_slot 30 ?_); refine wpList_litF rfl 26 5 2 _ rfl #[(0, .int .u8 44), (1, .int .u8 (p.hops.toNat : Int))] (by simp [Act.eval]) _ (lit8_2 _ _) ?_; intro u7 h7 hb7 s7; clear s7; have S7 := S6.trans (hb7.mono S6.size); have o7 := o6.below hb7)
          | ((with_reducible refine at_slot 31 ?_); refine append_u8 (.tmp 26) (.tmp 30) w1.heap.size M0 [44, p.hops] M1 HM1.out rfl rfl rfl rfl o7 (RB.lit h7 rfl (by omega) rfl) (by rw [L0.out]; simp) S7.size ?_; intro A8 k8 u8 o8 hb8 _ _; have S8 := S7.trans hb8; have hk8 := (S8.block w.heap.size hl1).trans h1; obtain ⟨d8_0, d8_1, d8_2, d8_3, d8_4, d8_5, d8_6, d8_7, d8_8⟩ := pkt_cells hk8)
          | ((with_reducible refine at_slot 34 ?_); refine wpList_load_at 24 (.tmp 33) rfl rfl ⟨w.heap.size, 0, none⟩ rfl p.src.cells _ (cells_part hk8 (p.srcAt _)) Try.underlying24 rfl (info_addr _) ?_)
          | (go_at_call 23; (with_reducible refine Calls.mono (adrBytes6 p.src HS1.out _) ?_); rintro e u9 ⟨A9, k9, rfl, r9, hb9⟩; have S9 := S8.trans (hb9.mono S8.size); have o9 := o8.below hb9)
          | ((with_reducible refine at_slot 36 ?_); refine append_u8 (.tmp 32) (.tmp 35) w1.heap.size M1 p.src.bytes M2 HM2.out rfl rfl rfl rfl o9 r9.rb (by rw [L1.out]; simp [Adr.bytes_length]) S9.size ?_; intro A10 k10 u10 o10 hb10 _ _; have S10 := S9.trans hb10; have hk10 := (S10.block w.heap.size hl1).trans h1; obtain ⟨d10_0, d10_1, d10_2, d10_3, d10_4, d10_5, d10_6, d10_7, d10_8⟩ := pkt_cells hk10)
          | ((with_reducible refine at_slot 39 ?_); refine wpList_load_at 24 (.tmp 38) rfl rfl ⟨w.heap.size, 17, none⟩ rfl p.dst.cells _ (cells_part hk10 (p.dstAt _)) Try.underlying24 rfl (info_addr _) ?_)
          | (go_at_call 23; (with_reducible refine Calls.mono (adrBytes6 p.dst HS2.out _) ?_); rintro e u11 ⟨A11, k11, rfl, r11, hb11⟩; have S11 := S10.trans (hb11.mono S10.size); have o11 := o10.below hb11)
          | ((with_reducible refine at_slot 41 ?_); refine append_u8 (.tmp 37) (.tmp 40) w1.heap.size M2 p.dst.bytes M3 HM3.out rfl rfl rfl rfl o11 r11.rb (by rw [L2.out]; simp [Adr.bytes_length]) S11.size ?_; intro A12 k12 u12 o12 hb12 _ _; have S12 := S11.trans hb12; have hk12 := (S12.block w.heap.size hl1).trans h1; obtain ⟨d12_0, d12_1, d12_2, d12_3, d12_4, d12_5, d12_6, d12_7, d12_8⟩ := pkt_cells hk12; rw [hw] at d12_5; rw [hmr] at d12_6)
          | ((with_reducible refine at_slot 55 ?_); refine wpList_litF rfl 26 5 2 _ rfl #[(0, .int .u8 (p.proto.toNat : Int)), (1, .int .u8 0)] (by simp [Act.eval]) _ (lit8_2 _ _) ?_; intro u13 h13 hb13 s13; clear s13; have S13 := S12.trans (hb13.mono S12.size); have o13 := o12.below hb13)
          | ((with_reducible refine at_slot 56 ?_); refine append_u8 (.tmp 52) (.tmp 55) w1.heap.size M3 [p.proto, 0] M4 HM4.out rfl rfl rfl rfl o13 (RB.lit h13 rfl (by omega) rfl) (by rw [L3.out]; simp) S13.size ?_; intro A14 k14 u14 o14 hb14 _ _; have S14 := S13.trans hb14)
          | ((with_reducible refine at_slot 58 ?_); refine wpList_litF rfl 52 49 1 _ rfl #[(0, .int .u64 p.off)] (by simp [Act.eval]) _ (lit64_1 _) ?_; intro u15 h15 hb15 s15; clear s15; have S15 := S14.trans (hb15.mono S14.size); have o15 := o14.below hb15; rw [HOV.out] at h15)
          | (go_at_call 22; (with_reducible refine Calls.mono (HP2.out u15 _ _ o15.rb (RN.lit1 h15 (by omega))) ?_); rintro e u16 ⟨A16, k16, rfl, o16', hb16⟩; have S16 := S15.trans (hb16.mono S15.size); have o16 := OB.lower o16' S15.size; clear o16'; have hk16 := (S16.block w.heap.size hl1).trans h1; obtain ⟨d16_0, d16_1, d16_2, d16_3, d16_4, d16_5, d16_6, d16_7, d16_8⟩ := pkt_cells hk16)
          | ((with_reducible refine at_slot 64 ?_); refine wpList_litF rfl 52 49 1 _ rfl #[(0, .int .u64 (p.id : Int))] (by simp [Act.eval]) _ (lit64_1 _) ?_; intro u17 h17 hb17 s17; clear s17; have S17 := S16.trans (hb17.mono S16.size); have o17 := o16.below hb17)
          | (go_at_call 22; (with_reducible refine Calls.mono (HP3.out u17 _ _ o17.rb (RN.lit1 h17 (by omega))) ?_); rintro e u18 ⟨A18, k18, rfl, o18', hb18⟩; have S18 := S17.trans (hb18.mono S17.size); have o18 := OB.lower o18' S17.size; clear o18'; have hk18 := (S18.block w.heap.size hl1).trans h1; obtain ⟨d18_0, d18_1, d18_2, d18_3, d18_4, d18_5, d18_6, d18_7, d18_8⟩ := pkt_cells hk18)
          | ((with_reducible refine at_slot 69 ?_); refine append_u8 (.tmp 66) (.tmp 68) w1.heap.size M6 p.load M7 HM7.out rfl rfl rfl rfl o18 (HRB.out _ (hb1.trans (S18.mono hb1.size))) (by rw [L6.out]; omega) S18.size ?_; intro A20 k20 u20 o20 hb20 _ _; have S20 := S18.trans hb20)
          )
        go_ret2
        exact BytesPost.of (by rw [← HF.out]; exact HR.out) rfl hb1.size o20 (hb1.trans (S20.mono hb1.size))
      · have HOV := hid (show p.off + 1 = ((of_ + mo : Nat) : Int) by have := HMO.out; rw [hmr] at this; simp at this; omega)
        have hor : bits .or .u64 p.off 1 = p.off + 1 := or_one_u64 p.off (by omega) (by omega) (by omega)
        clear hof'
        go_wp2_with (first
          | ((with_reducible refine at_slot 21 ?_); refine wpList_litF rfl 26 5 4 _ rfl #[(0, .int .u8 96), (1, .int .u8 0), (2, .int .u8 0), (3, .int .u8 0)] (by simp [Act.eval]) _ (lit8_4 _ _ _ _) ?_; intro u4 h4 hb4 s4; clear s4; have S4 := S3.trans (hb4.mono S3.size))
          | ((with_reducible refine at_slot 24 ?_); refine wpList_litF rfl 52 49 1 _ rfl #[(0, .int .u64 ((p.load.length : Int) + 8))] (by simp [Act.eval]) _ (lit64_1 _) ?_; intro u5 h5 hb5 s5; clear s5; have S5 := S4.trans (hb5.mono S4.size); rw [HSZ.out] at h5)
          | (go_at_call 22; (with_reducible refine Calls.mono (HP1.out u5 _ _ (RB.below (RB.lit h4 rfl (by omega) rfl) hb5) (RN.lit1 h5 (by omega))) ?_); rintro e u6 ⟨A6, k6, rfl, o6', hb6⟩; have S6 := S5.trans (hb6.mono S5.size); have o6 := OB.lower o6' S5.size; clear o6'; have hk6 := (S6.block w.heap.size hl1).trans h1; obtain ⟨d6_0, d6_1, d6_2, d6_3, d6_4, d6_5, d6_6, d6_7, d6_8⟩ := pkt_cells hk6)
          | ((with_reducible refine at_slot 30 ?_); refine wpList_litF rfl 26 5 2 _ rfl #[(0, .int .u8 44), (1, .int .u8 (p.hops.toNat : Int))] (by simp [Act.eval]) _ (lit8_2 _ _) ?_; intro u7 h7 hb7 s7; clear s7; have S7 := S6.trans (hb7.mono S6.size); have o7 := o6.below hb7)
          | ((with_reducible refine at_slot 31 ?_); refine append_u8 (.tmp 26) (.tmp 30) w1.heap.size M0 [44, p.hops] M1 HM1.out rfl rfl rfl rfl o7 (RB.lit h7 rfl (by omega) rfl) (by rw [L0.out]; simp) S7.size ?_; intro A8 k8 u8 o8 hb8 _ _; have S8 := S7.trans hb8; have hk8 := (S8.block w.heap.size hl1).trans h1; obtain ⟨d8_0, d8_1, d8_2, d8_3, d8_4, d8_5, d8_6, d8_7, d8_8⟩ := pkt_cells hk8)
          | ((with_reducible refine at_slot 34 ?_); refine wpList_load_at 24 (.tmp 33) rfl rfl ⟨w.heap.size, 0, none⟩ rfl p.src.cells _ (cells_part hk8 (p.srcAt _)) Try.underlying24 rfl (info_addr _) ?_)
          | (go_at_call 23; (with_reducible refine Calls.mono (adrBytes6 p.src HS1.out _) ?_); rintro e u9 ⟨A9, k9, rfl, r9, hb9⟩; have S9 := S8.trans (hb9.mono S8.size); have o9 := o8.below hb9)
          | ((with_reducible refine at_slot 36 ?_); refine append_u8 (.tmp 32) (.tmp 35) w1.heap.size M1 p.src.bytes M2 HM2.out rfl rfl rfl rfl o9 r9.rb (by rw [L1.out]; simp [Adr.bytes_length]) S9.size ?_; intro A10 k10 u10 o10 hb10 _ _; have S10 := S9.trans hb10; have hk10 := (S10.block w.heap.size hl1).trans h1; obtain ⟨d10_0, d10_1, d10_2, d10_3, d10_4, d10_5, d10_6, d10_7, d10_8⟩ := pkt_cells hk10)
          | ((with_reducible refine at_slot 39 ?_); refine wpList_load_at 24 (.tmp 38) rfl rfl ⟨w.heap.size, 17, none⟩ rfl p.dst.cells _ (cells_part hk10 (p.dstAt _)) Try.underlying24 rfl (info_addr _) ?_)
          | (go_at_call 23; (with_reducible refine Calls.mono (adrBytes6 p.dst HS2.out _) ?_); rintro e u11 ⟨A11, k11, rfl, r11, hb11⟩; have S11 := S10.trans (hb11.mono S10.size); have o11 := o10.below hb11)
          | ((with_reducible refine at_slot 41 ?_); refine append_u8 (.tmp 37) (.tmp 40) w1.heap.size M2 p.dst.bytes M3 HM3.out rfl rfl rfl rfl o11 r11.rb (by rw [L2.out]; simp [Adr.bytes_length]) S11.size ?_; intro A12 k12 u12 o12 hb12 _ _; have S12 := S11.trans hb12; have hk12 := (S12.block w.heap.size hl1).trans h1; obtain ⟨d12_0, d12_1, d12_2, d12_3, d12_4, d12_5, d12_6, d12_7, d12_8⟩ := pkt_cells hk12; rw [hw] at d12_5; rw [hmr] at d12_6)
          | ((with_reducible refine at_slot 55 ?_); refine wpList_litF rfl 26 5 2 _ rfl #[(0, .int .u8 (p.proto.toNat : Int)), (1, .int .u8 0)] (by simp [Act.eval]) _ (lit8_2 _ _) ?_; intro u13 h13 hb13 s13; clear s13; have S13 := S12.trans (hb13.mono S12.size); have o13 := o12.below hb13)
          | ((with_reducible refine at_slot 56 ?_); refine append_u8 (.tmp 52) (.tmp 55) w1.heap.size M3 [p.proto, 0] M4 HM4.out rfl rfl rfl rfl o13 (RB.lit h13 rfl (by omega) rfl) (by rw [L3.out]; simp) S13.size ?_; intro A14 k14 u14 o14 hb14 _ _; have S14 := S13.trans hb14)
          | ((with_reducible refine at_slot 58 ?_); refine wpList_litF rfl 52 49 1 _ rfl #[(0, .int .u64 (p.off + 1))] (by simp [Act.eval]) _ (lit64_1 _) ?_; intro u15 h15 hb15 s15; clear s15; have S15 := S14.trans (hb15.mono S14.size); have o15 := o14.below hb15; rw [HOV.out] at h15)
          | (go_at_call 22; (with_reducible refine Calls.mono (HP2.out u15 _ _ o15.rb (RN.lit1 h15 (by omega))) ?_); rintro e u16 ⟨A16, k16, rfl, o16', hb16⟩; have S16 := S15.trans (hb16.mono S15.size); have o16 := OB.lower o16' S15.size; clear o16'; have hk16 := (S16.block w.heap.size hl1).trans h1; obtain ⟨d16_0, d16_1, d16_2, d16_3, d16_4, d16_5, d16_6, d16_7, d16_8⟩ := pkt_cells hk16)
          | ((with_reducible refine at_slot 64 ?_); refine wpList_litF rfl 52 49 1 _ rfl #[(0, .int .u64 (p.id : Int))] (by simp [Act.eval]) _ (lit64_1 _) ?_; intro u17 h17 hb17 s17; clear s17; have S17 := S16.trans (hb17.mono S16.size); have o17 := o16.below hb17)
          | (go_at_call 22; (with_reducible refine Calls.mono (HP3.out u17 _ _ o17.rb (RN.lit1 h17 (by omega))) ?_); rintro e u18 ⟨A18, k18, rfl, o18', hb18⟩; have S18 := S17.trans (hb18.mono S17.size); have o18 := OB.lower o18' S17.size; clear o18'; have hk18 := (S18.block w.heap.size hl1).trans h1; obtain ⟨d18_0, d18_1, d18_2, d18_3, d18_4, d18_5, d18_6, d18_7, d18_8⟩ := pkt_cells hk18)
          | ((with_reducible refine at_slot 69 ?_); refine append_u8 (.tmp 66) (.tmp 68) w1.heap.size M6 p.load M7 HM7.out rfl rfl rfl rfl o18 (HRB.out _ (hb1.trans (S18.mono hb1.size))) (by rw [L6.out]; omega) S18.size ?_; intro A20 k20 u20 o20 hb20 _ _; have S20 := S18.trans hb20)
          )
        go_ret2
        exact BytesPost.of (by rw [← HF.out]; exact HR.out) rfl hb1.size o20 (hb1.trans (S20.mono hb1.size))
    · obtain ⟨M0, hM0⟩ : ∃ M0, [0x60, 0, 0, 0] ++ beB 2 p.load.length = M0 := ⟨_, rfl⟩
      have l0 : M0.length = 6 := by rw [← hM0, List.length_append, beB_length]; rfl
      obtain ⟨M1, hM1⟩ : ∃ M1, M0 ++ [p.proto, p.hops] = M1 := ⟨_, rfl⟩
      have l1 : M1.length = 8 := by rw [← hM1, List.length_append, l0]; rfl
      obtain ⟨M2, hM2⟩ : ∃ M2, M1 ++ p.src.bytes = M2 := ⟨_, rfl⟩
      have l2 : M2.length = 24 := by rw [← hM2, List.length_append, l1]; rfl
      obtain ⟨M3, hM3⟩ : ∃ M3, M2 ++ p.dst.bytes = M3 := ⟨_, rfl⟩
      have l3 : M3.length = 40 := by rw [← hM3, List.length_append, l2]; rfl
      obtain ⟨M7, hM7⟩ : ∃ M7, M3 ++ p.load = M7 := ⟨_, rfl⟩
      have hfin : bytes6 p = M7 := by
        unfold bytes6 frag6
        rw [hw, ← hM7, ← hM3, ← hM2, ← hM1, ← hM0]
        simp [beB_length]
      have HP1 := hid fun W v1 v2 (h1 : RB W v1 [0x60, 0, 0, 0]) (h2 : RN W v2 [UInt64.ofNat p.load.length]) => put_any v1 v2 [0x60, 0, 0, 0] 2 [UInt64.ofNat p.load.length] W h1 h2 (by omega) (by omega) (by simp)
      rw [put2_one p.load.length (by omega), hM0] at HP1
      have HM0 := hid hM0
      have L0 := hid l0
      have HM1 := hid hM1
      have L1 := hid l1
      have HM2 := hid hM2
      have L2 := hid l2
      have HM3 := hid hM3
      have L3 := hid l3
      have HM7 := hid hM7
      have HF := hid hfin
      clear hfin hM0 hM1 hM2 hM3 hM7 l0 l1 l2 l3
      go_wp2_with (first
        | ((with_reducible refine at_slot 8 ?_); refine wpList_load_row rfl 28 (.tmp 1) rfl w.heap.size rfl _ (p.cells (.slice A p.load.length c)) _ _ h1 Try.underlying28 rfl (info_pkt _ _) ?_)
        | (go_at_call 13; (with_reducible refine Calls.mono (HM.out _ (HRB.out _ hb1)) ?_); rintro e w2 ⟨rfl, hb2⟩))
      have hk2 := (hb2.block w.heap.size hl1).trans h1
      obtain ⟨c0, c1, c2, c3, c4, c5, c6, c7, c8⟩ := pkt_cells hk2
      rw [hw] at c5
      clear c0 c1 c3 c4 c6 c7
      go_quiet (fail)
      have S3 : Below w1.heap.size w1 (w2.drewN nq) := below_drewN hb2 nq
      have hk3 : (w2.drewN nq).heap[w.heap.size]? = some (.cells (p.cells (.slice A p.load.length c)) 28 (0, 0)) := hk2
      generalize w2.drewN nq = u3 at S3 hk3 ⊢
      clear hk2 c2 c5 c8
      obtain ⟨d0, d1, d2, d3, d4, d5, d6, d7, d8⟩ := pkt_cells hk3
      rw [hw] at d5
      clear d0 d1 d2 d4 d6 d7 d8
      go_wp2_with (first
        | ((with_reducible refine at_slot 21 ?_); refine wpList_litF rfl 26 5 4 _ rfl #[(0, .int .u8 96), (1, .int .u8 0), (2, .int .u8 0), (3, .int .u8 0)] (by simp [Act.eval]) _ (lit8_4 _ _ _ _) ?_; intro u4 h4 hb4 s4; clear s4; have S4 := S3.trans (hb4.mono S3.size))
        | ((with_reducible refine at_slot 24 ?_); refine wpList_litF rfl 52 49 1 _ rfl #[(0, .int .u64 (p.load.length : Int))] (by simp [Act.eval]) _ (lit64_1 _) ?_; intro u5 h5 hb5 s5; clear s5; have S5 := S4.trans (hb5.mono S4.size))
        | (go_at_call 22; (with_reducible refine Calls.mono (HP1.out u5 _ _ (RB.below (RB.lit h4 rfl (by omega) rfl) hb5) (RN.lit1 h5 (by omega))) ?_); rintro e u6 ⟨A6, k6, rfl, o6', hb6⟩; have S6 := S5.trans (hb6.mono S5.size); have o6 := OB.lower o6' S5.size; clear o6'; have hk6 := (S6.block w.heap.size hl1).trans h1; obtain ⟨d6_0, d6_1, d6_2, d6_3, d6_4, d6_5, d6_6, d6_7, d6_8⟩ := pkt_cells hk6)
        | ((with_reducible refine at_slot 30 ?_); refine wpList_litF rfl 26 5 2 _ rfl #[(0, .int .u8 (p.proto.toNat : Int)), (1, .int .u8 (p.hops.toNat : Int))] (by simp [Act.eval]) _ (lit8_2 _ _) ?_; intro u7 h7 hb7 s7; clear s7; have S7 := S6.trans (hb7.mono S6.size); have o7 := o6.below hb7)
        | ((with_reducible refine at_slot 31 ?_); refine append_u8 (.tmp 26) (.tmp 30) w1.heap.size M0 [p.proto, p.hops] M1 HM1.out rfl rfl rfl rfl o7 (RB.lit h7 rfl (by omega) rfl) (by rw [L0.out]; simp) S7.size ?_; intro A8 k8 u8 o8 hb8 _ _; have S8 := S7.trans hb8; have hk8 := (S8.block w.heap.size hl1).trans h1; obtain ⟨d8_0, d8_1, d8_2, d8_3, d8_4, d8_5, d8_6, d8_7, d8_8⟩ := pkt_cells hk8)
        | ((with_reducible refine at_slot 34 ?_); refine wpList_load_at 24 (.tmp 33) rfl rfl ⟨w.heap.size, 0, none⟩ rfl p.src.cells _ (cells_part hk8 (p.srcAt _)) Try.underlying24 rfl (info_addr _) ?_)
        | (go_at_call 23; (with_reducible refine Calls.mono (adrBytes6 p.src HS1.out _) ?_); rintro e u9 ⟨A9, k9, rfl, r9, hb9⟩; have S9 := S8.trans (hb9.mono S8.size); have o9 := o8.below hb9)
        | ((with_reducible refine at_slot 36 ?_); refine append_u8 (.tmp 32) (.tmp 35) w1.heap.size M1 p.src.bytes M2 HM2.out rfl rfl rfl rfl o9 r9.rb (by rw [L1.out]; simp [Adr.bytes_length]) S9.size ?_; intro A10 k10 u10 o10 hb10 _ _; have S10 := S9.trans hb10; have hk10 := (S10.block w.heap.size hl1).trans h1; obtain ⟨d10_0, d10_1, d10_2, d10_3, d10_4, d10_5, d10_6, d10_7, d10_8⟩ := pkt_cells hk10)
        | ((with_reducible refine at_slot 39 ?_); refine wpList_load_at 24 (.tmp 38) rfl rfl ⟨w.heap.size, 17, none⟩ rfl p.dst.cells _ (cells_part hk10 (p.dstAt _)) Try.underlying24 rfl (info_addr _) ?_)
        | (go_at_call 23; (with_reducible refine Calls.mono (adrBytes6 p.dst HS2.out _) ?_); rintro e u11 ⟨A11, k11, rfl, r11, hb11⟩; have S11 := S10.trans (hb11.mono S10.size); have o11 := o10.below hb11)
        | ((with_reducible refine at_slot 41 ?_); refine append_u8 (.tmp 37) (.tmp 40) w1.heap.size M2 p.dst.bytes M3 HM3.out rfl rfl rfl rfl o11 r11.rb (by rw [L2.out]; simp [Adr.bytes_length]) S11.size ?_; intro A12 k12 u12 o12 hb12 _ _; have S12 := S11.trans hb12; have hk12 := (S12.block w.heap.size hl1).trans h1; obtain ⟨d12_0, d12_1, d12_2, d12_3, d12_4, d12_5, d12_6, d12_7, d12_8⟩ := pkt_cells hk12; rw [hw] at d12_5)
        | ((with_reducible refine at_slot 69 ?_); refine append_u8 (.tmp 66) (.tmp 68) w1.heap.size M3 p.load M7 HM7.out rfl rfl rfl rfl o12 (HRB.out _ (hb1.trans (S12.mono hb1.size))) (by rw [L3.out]; omega) S12.size ?_; intro A20 k20 u20 o20 hb20 _ _; have S20 := S12.trans hb20)
        )
      go_ret2
      exact BytesPost.of (by rw [← HF.out]; exact HR.out) rfl hb1.size o20 (hb1.trans (S20.mono hb1.size))
end Go.Proofs.Ytlijgcmcpehplaa
