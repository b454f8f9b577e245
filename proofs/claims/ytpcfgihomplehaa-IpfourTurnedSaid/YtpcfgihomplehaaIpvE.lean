/- Walk: whether two packets are the same, by ipfour. Walk: ipfour.Hop. Walks: the laws' far and alive, layer 10. -/
import Derived.Test.YtpcfgihomplehaaIpvA
import Derived.Test.YtpcfgihomplehaaIpvD
import Derived.Test.YtpcfgihomplehaaReg
import Derived.BigQuiet
import Derived.Test.YtpcfgihomplehaaIpvB
namespace Go.Proofs.Ytpcfgihomplehaa
set_option linter.unusedVariables false
set_option linter.unusedSimpArgs false
open Go.RowKit

set_option maxHeartbeats 2000000 in
theorem fsame_any (p q : Pkt) (dv du : Value) (w : World) (hp : RB w dv p.load) (hq : RB w du q.load) :
    Calls Try.prog 13 #[p.v dv, q.v du] w fun e w' => e = .returned (.bool (sameP p q)) ∧ Below w.heap.size w w' := by
  have HE := hid fun o1 o2 : Obj => bequal_any _ _ p.load q.load _ ((hp.alloc o1).alloc o2) ((hq.alloc o1).alloc o2)
  obtain ⟨f0, f1, f2, f3, f4, f5, f6, f7, f8⟩ := p.at_ dv
  obtain ⟨g0, g1, g2, g3, g4, g5, g6, g7, g8⟩ := q.at_ du
  have ps := p.srcAt dv
  have pd := p.dstAt dv
  have qs := q.srcAt du
  have qd := q.dstAt du
  have PS := hid ps
  have PD := hid pd
  have QS := hid qs
  have QD := hid qd
  clear ps pd qs qd f0 f1 g0 g1 hp hq
  obtain ⟨r, hr⟩ : ∃ r, r = sameP p q := ⟨_, rfl⟩
  rw [← hr]
  unfold sameP at hr
  have HM := hid hr
  clear hr
  unfold Pkt.v
  generalize p.cells dv = cs at f2 f3 f4 f5 f6 f7 f8 PS PD
  generalize q.cells du = ds at g2 g3 g4 g5 g6 g7 g8 QS QD
  generalize hb1 : p.src.beq q.src = b1 at HM
  generalize hb2 : p.dst.beq q.dst = b2 at HM
  have HB1 := hid hb1
  have HB2 := hid hb2
  clear hb1 hb2
  cases b1
  · go_enter Try.func13, Try.ntmps13
    go_wp2_with (first
      | ((with_reducible refine at_slot 6 ?_); refine wpList_load_at 24 (.tmp 5) rfl rfl ⟨w.heap.size, 0, none⟩ rfl p.src.cells _ (cells_part (nw2a w _ _) PS.out) Try.underlying24 rfl (info_addr _) ?_)
      | ((with_reducible refine at_slot 8 ?_); refine wpList_load_at 24 (.tmp 7) rfl rfl ⟨w.heap.size + 1, 0, none⟩ rfl q.src.cells _ (cells_part (nw2 w _ _) QS.out) Try.underlying24 rfl (info_addr _) ?_)
      | ((with_reducible refine at_slot 9 ?_); refine wpList_yieldG rfl (exec_eqlA (.tmp 6) (.tmp 8) rfl p.src q.src rfl rfl) ?_; rw [HB1.out])
      | ((with_reducible refine at_slot 12 ?_); refine wpList_yieldG rfl (exec_loadAt 24 (.tmp 11) rfl ⟨w.heap.size, 17, none⟩ rfl p.dst.cells _ (cells_part (nw2a w _ _) PD.out) Try.underlying24 rfl (info_addr _)) ?_)
      | ((with_reducible refine at_slot 14 ?_); refine wpList_yieldG rfl (exec_loadAt 24 (.tmp 13) rfl ⟨w.heap.size + 1, 17, none⟩ rfl q.dst.cells _ (cells_part (nw2 w _ _) QD.out) Try.underlying24 rfl (info_addr _)) ?_)
      | ((with_reducible refine at_slot 15 ?_); refine wpList_yieldG rfl (exec_eqlA (.tmp 12) (.tmp 14) rfl p.dst q.dst rfl rfl) ?_; rw [HB2.out])
      | (go_at_call 26; (with_reducible refine Calls.mono (HE.out _ _) ?_); rintro e w' ⟨rfl, rfl⟩))
    go_ret
    refine ⟨congrArg Ending.returned (congrArg Value.bool ?_), bl2 w _ _⟩
    rw [HM.out]
    rfl
  · cases b2
    · go_enter Try.func13, Try.ntmps13
      go_wp2_with (first
      | ((with_reducible refine at_slot 6 ?_); refine wpList_load_at 24 (.tmp 5) rfl rfl ⟨w.heap.size, 0, none⟩ rfl p.src.cells _ (cells_part (nw2a w _ _) PS.out) Try.underlying24 rfl (info_addr _) ?_)
      | ((with_reducible refine at_slot 8 ?_); refine wpList_load_at 24 (.tmp 7) rfl rfl ⟨w.heap.size + 1, 0, none⟩ rfl q.src.cells _ (cells_part (nw2 w _ _) QS.out) Try.underlying24 rfl (info_addr _) ?_)
      | ((with_reducible refine at_slot 9 ?_); refine wpList_yieldG rfl (exec_eqlA (.tmp 6) (.tmp 8) rfl p.src q.src rfl rfl) ?_; rw [HB1.out])
      | ((with_reducible refine at_slot 12 ?_); refine wpList_yieldG rfl (exec_loadAt 24 (.tmp 11) rfl ⟨w.heap.size, 17, none⟩ rfl p.dst.cells _ (cells_part (nw2a w _ _) PD.out) Try.underlying24 rfl (info_addr _)) ?_)
      | ((with_reducible refine at_slot 14 ?_); refine wpList_yieldG rfl (exec_loadAt 24 (.tmp 13) rfl ⟨w.heap.size + 1, 17, none⟩ rfl q.dst.cells _ (cells_part (nw2 w _ _) QD.out) Try.underlying24 rfl (info_addr _)) ?_)
      | ((with_reducible refine at_slot 15 ?_); refine wpList_yieldG rfl (exec_eqlA (.tmp 12) (.tmp 14) rfl p.dst q.dst rfl rfl) ?_; rw [HB2.out])
      | (go_at_call 26; (with_reducible refine Calls.mono (HE.out _ _) ?_); rintro e w' ⟨rfl, rfl⟩))
      go_ret
      refine ⟨congrArg Ending.returned (congrArg Value.bool ?_), bl2 w _ _⟩
      rw [HM.out]
      rfl
    · go_enter Try.func13, Try.ntmps13
      go_wp2_with (first
      | ((with_reducible refine at_slot 6 ?_); refine wpList_load_at 24 (.tmp 5) rfl rfl ⟨w.heap.size, 0, none⟩ rfl p.src.cells _ (cells_part (nw2a w _ _) PS.out) Try.underlying24 rfl (info_addr _) ?_)
      | ((with_reducible refine at_slot 8 ?_); refine wpList_load_at 24 (.tmp 7) rfl rfl ⟨w.heap.size + 1, 0, none⟩ rfl q.src.cells _ (cells_part (nw2 w _ _) QS.out) Try.underlying24 rfl (info_addr _) ?_)
      | ((with_reducible refine at_slot 9 ?_); refine wpList_yieldG rfl (exec_eqlA (.tmp 6) (.tmp 8) rfl p.src q.src rfl rfl) ?_; rw [HB1.out])
      | ((with_reducible refine at_slot 12 ?_); refine wpList_yieldG rfl (exec_loadAt 24 (.tmp 11) rfl ⟨w.heap.size, 17, none⟩ rfl p.dst.cells _ (cells_part (nw2a w _ _) PD.out) Try.underlying24 rfl (info_addr _)) ?_)
      | ((with_reducible refine at_slot 14 ?_); refine wpList_yieldG rfl (exec_loadAt 24 (.tmp 13) rfl ⟨w.heap.size + 1, 17, none⟩ rfl q.dst.cells _ (cells_part (nw2 w _ _) QD.out) Try.underlying24 rfl (info_addr _)) ?_)
      | ((with_reducible refine at_slot 15 ?_); refine wpList_yieldG rfl (exec_eqlA (.tmp 12) (.tmp 14) rfl p.dst q.dst rfl rfl) ?_; rw [HB2.out])
      | (go_at_call 26; (with_reducible refine Calls.mono (HE.out _ _) ?_); rintro e w' ⟨rfl, rfl⟩))
      all_goals
        go_ret
        refine ⟨congrArg Ending.returned (congrArg Value.bool ?_), bl2 w _ _⟩
        rw [HM.out]
        clear f2 f3 f4 f5 f6 f7 f8 g2 g3 g4 g5 g6 g7 g8
        rw [Bool.eq_iff_iff]
        simp [← UInt8.toNat_inj] at *
        try simp [*]
        try omega
        try (constructor <;> intro hh <;> simp_all)
        try omega
end Go.Proofs.Ytpcfgihomplehaa
namespace Go.Proofs.Ytpcfgihomplehaa
set_option linter.unusedVariables false
set_option linter.unusedSimpArgs false
open Go.RowKit

theorem parse4_len (b : List UInt8) (h : (parse4 b).2 = 0) : 20 ≤ b.length ∧ (parse4 b).1.hops = b.getD 8 0 := by
  obtain ⟨_, _, h0, hp⟩ := parse4_ok b _ (parse4_eq b h)
  exact ⟨(perr4_good b h0).len, by rw [hp]; rfl⟩
theorem be_two (b : List UInt8) (k : Nat) (h : k + 1 < b.length) : be ((b.drop k).take 2) = (b.getD k 0).toNat * 256 + (b.getD (k + 1) 0).toNat := by
  rw [List.drop_eq_getElem_cons (show k < b.length by omega), List.drop_eq_getElem_cons h]
  show be [b[k], b[k + 1]] = _
  simp [be, List.getD_eq_getElem?_getD, List.getElem?_eq_getElem h, List.getElem?_eq_getElem (show k < b.length by omega)]
set_option maxRecDepth 100000 in
set_option maxHeartbeats 2000000 in
theorem hop4_any (v : Value) (b : List UInt8) (w : World) (hx : RB w v b) (hl : b.length ≤ 70368744177664) :
    Calls Try.prog 16 #[v] w (BytesPost (hopR4 b) w) := by
  have HP := hid (parse4_any v b w hx hl)
  have HX := hid hx
  obtain ⟨A0, c0', rfl, hrow⟩ := hx
  have hcap := hrow.cap
  have htop := hrow.top
  clear hrow
  have hlen := parse4_len b
  have hh : hopR4 b = if (parse4 b).2 ≠ 0 then ([], (parse4 b).2) else if (parse4 b).1.hops.toNat < 2 then ([], 1) else (hop4 b, 0) := rfl
  unfold ParPost4 at HP
  generalize parse4 b = r at HP hlen hh
  obtain ⟨p, n⟩ := r
  simp only at hlen hh
  have HH := hid hh
  have HL := hid hlen
  clear hh hlen
  have hph := p.hops.toNat_lt
  unfold Pkt.v at *
  go_enter Try.func16, Try.ntmps16
  go_wp2_with fail
  refine Calls.mono HP.out ?_
  rintro e w1 ⟨dv, rfl, hr1, hb1⟩
  by_cases hn : n = 0
  · subst hn
    obtain ⟨h20, hhb⟩ := HL.out rfl
    by_cases h2 : p.hops.toNat < 2
    · have HR : Hid (hopR4 b = ([], 1)) := by rw [HH.out, if_neg (by simp), if_pos h2]; exact rfl
      have e2 : decide ((p.hops.toNat : Int) < 2) = true := by simp; omega
      clear h2 hhb
      go_wp2_with (first
        | ((with_reducible refine at_slot 4 ?_); refine wpList_allocF rfl 28 rfl (noPkt.cells nilS) alloc_noPkt ?_; intro w2 h2 hb2 s2; clear s2)
        | ((with_reducible refine at_store 4 12 ?_); refine wpList_rowF rfl 28 (.tmp 4) (.tmp 12) rfl w1.heap.size 28 _ (p.cells dv) rfl rfl h2 (info_pkt _ _) rfl (Pkt.one _ _ hr1.one) ?_; intro w3 h3 m3 s3; obtain ⟨c0, c1, c2, c3, c4, c5, c6, c7, c8⟩ := pkt_cells h3; have hB3 := m3.below (hb1.trans (hb2.mono hb1.size)) (Nat.le_refl _) (by simp; exact hb1.size); clear c0 c1 c2 c4 c5 c6 c7 c8 h3 m3 s3))
      go_ret2
      exact BytesPost.nil HR.out hB3
    · have HR : Hid (hopR4 b = (hop4 b, 0)) := by rw [HH.out, if_neg (by simp), if_neg h2]; exact rfl
      have e2 : decide ((p.hops.toNat : Int) < 2) = false := by simp; omega
      have hge : 2 ≤ p.hops.toNat := by omega
      clear h2
      -- the plain numbers
      have hb8 : (b.getD 8 0 - 1).toNat = p.hops.toNat - 1 := by
        rw [← hhb, UInt8.toNat_sub]
        have h1 : (1 : UInt8).toNat = 1 := rfl
        rw [h1]
        omega
      obtain ⟨x9, hx9⟩ : ∃ x9, b.getD 9 0 = x9 := ⟨_, rfl⟩
      obtain ⟨x10, hx10⟩ : ∃ x9, b.getD 10 0 = x9 := ⟨_, rfl⟩
      obtain ⟨x11, hx11⟩ : ∃ x9, b.getD 11 0 = x9 := ⟨_, rfl⟩
      have y9 := x9.toNat_lt
      have y10 := x10.toNat_lt
      have y11 := x11.toNat_lt
      have g8 : be ((b.drop 8).take 2) = p.hops.toNat * 256 + x9.toNat := by rw [be_two b 8 (by omega), ← hhb, hx9]
      have g10 : be ((b.drop 10).take 2) = x10.toNat * 256 + x11.toNat := by rw [be_two b 10 (by omega), hx10, hx11]
      obtain ⟨b', hb'⟩ : ∃ b', b.set 8 (b.getD 8 0 - 1) = b' := ⟨_, rfl⟩
      have hl' : b'.length = b.length := by rw [← hb']; simp
      have g8' : be ((b'.drop 8).take 2) = (p.hops.toNat - 1) * 256 + x9.toNat := by
        rw [be_two b' 8 (by omega), ← hb']
        have e1 : (b.set 8 (b.getD 8 0 - 1)).getD 8 0 = b.getD 8 0 - 1 := by simp [List.getD_eq_getElem?_getD, List.getElem?_set, show 8 < b.length by omega]
        have e2 : (b.set 8 (b.getD 8 0 - 1)).getD (8 + 1) 0 = b.getD 9 0 := by simp [List.getD_eq_getElem?_getD, List.getElem?_set]
        rw [e1, e2, hb8, hx9]
      have ht : turn4 b = 65535 - foldS ((65535 - ((x10.toNat * 256 + x11.toNat : Nat) : Int)) + (65535 - ((p.hops.toNat * 256 + x9.toNat : Nat) : Int)) + (((p.hops.toNat - 1) * 256 + x9.toNat : Nat) : Int)) := by
        unfold turn4 sum4 was4
        rw [hx9, hx10, hx11, ← hhb]
        congr 2
        omega
      have hhop : hop4 b = (b'.set 10 (hi8 (turn4 b))).set 11 (lo8 (turn4 b)) := by unfold hop4; rw [hb']
      obtain ⟨sN, hsN⟩ : ∃ n, x10.toNat * 256 + x11.toNat = n := ⟨_, rfl⟩
      obtain ⟨wN, hwN⟩ : ∃ n, p.hops.toNat * 256 + x9.toNat = n := ⟨_, rfl⟩
      obtain ⟨iN, hiN⟩ : ∃ n, (p.hops.toNat - 1) * 256 + x9.toNat = n := ⟨_, rfl⟩
      have lsN : sN ≤ 65535 := by omega
      have lwN : wN ≤ 65535 := by omega
      have liN : iN ≤ 65535 := by omega
      rw [hsN] at g10 ht
      rw [hwN] at g8 ht
      rw [hiN] at g8' ht
      have HT := hid fun W => turn_any (sN : Int) (wN : Int) (iN : Int) W (by omega) (by omega) (by omega) (by omega) (by omega) (by omega)
      have hfr := foldS_range ((65535 - (sN : Int)) + (65535 - (wN : Int)) + (iN : Int))
      rw [← ht] at HT
      have htr : 0 ≤ turn4 b ∧ turn4 b ≤ 65535 := by rw [ht]; omega
      generalize turn4 b = tn at HT hhop htr
      have HG8 := hid fun W u (h : RB W u ((b.drop 8).take 2)) => get_any u _ W h
      have HG8' := hid fun W u (h : RB W u ((b'.drop 8).take 2)) => get_any u _ W h
      have HG10 := hid fun W u (h : RB W u ((b.drop 10).take 2)) => get_any u _ W h
      rw [getS_short _ (by rw [List.length_take]; omega), g8] at HG8
      rw [getS_short _ (by rw [List.length_take]; omega), g8'] at HG8'
      rw [getS_short _ (by rw [List.length_take]; omega), g10] at HG10
      have HLY := hid fun W base g c' (h : OB W base (.slice (some ⟨g, 0, none⟩) b'.length c') b') => (lay2_any g c' base 10 b' tn W h (by omega) (by omega) htr.1 htr.2 :
        Calls Try.prog 20 #[.slice (some ⟨g, 0, none⟩) b'.length c', .int .i64 10, .int .u16 tn] W _)
      simp only [Nat.reduceAdd] at HLY
      rw [← hhop, hl'] at HLY
      have HC := hid fun W (h : Below w.heap.size w W) => clone_any _ b W (HX.out.below h) hl
      have hset : ∀ W g c', OB W w.heap.size (.slice (some ⟨g, 0, none⟩) b.length c') b → W.cell? ⟨g, 8, none⟩ = some (.int .u8 (p.hops.toNat : Int)) ∧ W.frozen? ⟨g, 8, none⟩ = false ∧
          OB (W.setCell ⟨g, 8, none⟩ (.int .u8 ((p.hops.toNat : Int) - 1))) w.heap.size (.slice (some ⟨g, 0, none⟩) b.length c') b' := fun W g c' ho => by
        obtain ⟨k1, k2, k3⟩ := ho.store 8 (by omega)
        rw [← hhb] at k1
        have k4 := k3 (b.getD 8 0 - 1) ((p.hops.toNat : Int) - 1) (by rw [hb8]; omega)
        rw [hb'] at k4
        exact ⟨k1, k2, k4⟩
      have HSET := hid hset
      have HLEN := hid hl'
      have HHL : Hid ((hop4 b).length = b.length) := hop4_length b
      obtain ⟨B30, k30, r30, hr30, _⟩ := cut_lh HX.out 8 10 8 10 rfl rfl (by omega) (by omega)
      obtain ⟨B39, k39, r39, hr39, _⟩ := cut_lh HX.out 10 12 10 12 rfl rfl (by omega) (by omega)
      have R30 := hid fun W (h : Below w.heap.size w W) => hr30.below h
      have R39 := hid fun W (h : Below w.heap.size w W) => hr39.below h
      clear hr30 hr39 hset hhop ht hfr g8 g8' g10 hsN hwN hiN hb' hb8 hx9 hx10 hx11 hhb y9 y10 y11 hl'
      go_wp2_with (first
        | ((with_reducible refine at_slot 4 ?_); refine wpList_allocF rfl 28 rfl (noPkt.cells nilS) alloc_noPkt ?_; intro w2 h2 hb2 s2; clear s2)
        | ((with_reducible refine at_store 4 12 ?_); refine wpList_rowF rfl 28 (.tmp 4) (.tmp 12) rfl w1.heap.size 28 _ (p.cells dv) rfl rfl h2 (info_pkt _ _) rfl (Pkt.one _ _ hr1.one) ?_; intro w3 h3 m3 s3; obtain ⟨c0, c1, c2, c3, c4, c5, c6, c7, c8⟩ := pkt_cells h3; have hB3 := m3.below (hb1.trans (hb2.mono hb1.size)) (Nat.le_refl _) (by simp; exact hb1.size); clear c0 c1 c2 c4 c5 c6 c7 c8 h3 m3 s3))
      with_reducible refine Calls.mono (HC.out _ hB3) ?_
      rintro e w4 ⟨A4, c4, rfl, ho4, hb4⟩
      obtain ⟨g, rfl, hg1, hg2, _⟩ := ho4.blk (by omega)
      have hB4 := below_after hB3 hb4 (Nat.le_refl _)
      have hgw : w.heap.size ≤ g := Nat.le_trans hB3.size hg1
      obtain ⟨k1, k2, k4⟩ := HSET.out w4 g c4 (ho4.lower hB3.size)
      have hl8 : 8 < b.length := by omega
      have K4 := hid k4
      have HB4 := hid (hB4.setCell (p := ⟨g, 8, none⟩) (by show w.heap.size ≤ g; omega) (.int .u8 ((p.hops.toNat : Int) - 1)))
      clear k4 ho4 hb4 hB4 hB3
      go_wp2_with fail
      generalize w4.setCell ⟨g, 8, none⟩ (.int .u8 ((p.hops.toNat : Int) - 1)) = w5 at K4 HB4 ⊢
      obtain ⟨B34, k34, r34, hr34, _⟩ := cut_lh K4.out.rb 8 10 8 10 rfl rfl (by omega) (by rw [HLEN.out]; omega)
      have HW8 := hid (show IntKind.u16.wrap (wN : Int) = (wN : Int) by rw [IntKind.wrap_u16]; omega)
      have HI8 := hid (show IntKind.u16.wrap (iN : Int) = (iN : Int) by rw [IntKind.wrap_u16]; omega)
      refine wp_region_later w5.heap.size (Nat.le_refl _) (by kernel_rfl) (by kernel_rfl) ?_
      have D30 := hid fun x : Later w5.heap.size w5 => R30.out _ (HB4.out.trans (x.ok.mono HB4.out.size))
      have D34 := hid fun x : Later w5.heap.size w5 => hr34.below x.ok
      clear hr34 k1 k2
      repeat (go_big_quiet_step (first
        | (go_at_call 35; with_reducible exact quiet_same _ (HG8.out _ _ (D30.out _)))
        | (go_at_call 35; with_reducible exact quiet_same _ (HG8'.out _ _ (D34.out _)))))
      refine wpQuiet_nil ?_
      rintro _ ⟨x, rfl⟩
      have hB6 := HB4.out.trans (x.ok.mono HB4.out.size)
      have K6 := K4.out.below x.ok
      go_wp2_with (first
        | (go_at_call 35; (with_reducible refine Calls.mono (HG10.out _ _ (R39.out _ hB6)) ?_); rintro e w' ⟨rfl, rfl⟩)
        | (go_at_call 36; (with_reducible refine Calls.mono (HT.out _) ?_); rintro e w' ⟨rfl, rfl⟩)
        | (go_at_call 20; (with_reducible refine Calls.mono (HLY.out _ _ _ _ K6) ?_); rintro e w7 ⟨rfl, o7, hb7, m7, s7⟩))
      go_ret2
      exact BytesPost.of HR.out HHL.out.symm (Nat.le_refl _) o7 (hB6.trans hb7)
  · have HR : Hid (hopR4 b = ([], n)) := by rw [HH.out, if_pos hn]; exact rfl
    have e1 : ((n : Int) != 0) = true := by simpa using hn
    clear hn
    go_wp2_with (first
        | ((with_reducible refine at_slot 4 ?_); refine wpList_allocF rfl 28 rfl (noPkt.cells nilS) alloc_noPkt ?_; intro w2 h2 hb2 s2; clear s2)
        | ((with_reducible refine at_store 4 12 ?_); refine wpList_rowF rfl 28 (.tmp 4) (.tmp 12) rfl w1.heap.size 28 _ (p.cells dv) rfl rfl h2 (info_pkt _ _) rfl (Pkt.one _ _ hr1.one) ?_; intro w3 h3 m3 s3; obtain ⟨c0, c1, c2, c3, c4, c5, c6, c7, c8⟩ := pkt_cells h3; have hB3 := m3.below (hb1.trans (hb2.mono hb1.size)) (Nat.le_refl _) (by simp; exact hb1.size); clear c0 c1 c2 c4 c5 c6 c7 c8 h3 m3 s3))
    go_ret2
    exact BytesPost.nil HR.out hB3
end Go.Proofs.Ytpcfgihomplehaa
namespace Go.Proofs.Ytpcfgihomplehaa
set_option linter.unusedVariables false
set_option linter.unusedSimpArgs false
open Go.RowKit

def pA4 : Pkt := ⟨noAdr false, noAdr false, 6, 2, 0, false, false, 0, [97, 98]⟩
theorem pA4_ok : pA4.Ok := ⟨by decide, by decide⟩
theorem build_pA4 (g : Nat) : ∀ w, (Instr.build 28 #[(2, .int .u8 6), (3, .int .u8 2), (8, .slice (some ⟨g, 0, none⟩) 2 2)]).run Try.prog w = .ok (.agg (pA4.cells (.slice (some ⟨g, 0, none⟩) 2 2))) w := by intro w; kernel_rfl
theorem layA4 : (layR4 pA4).1.length = 22 ∧ (layR4 pA4).2 = 0 := by decide +kernel
theorem parseA4 : sameP pA4 (parse4 (layR4 pA4).1).1 = true ∧ (parse4 (layR4 pA4).1).2 = 0 := by decide +kernel
theorem hopA4 : (hopR4 (layR4 pA4).1).1.length = 22 ∧ (hopR4 (layR4 pA4).1).2 = 0 ∧ ((hopR4 (layR4 pA4).1).1.getD 8 0).toNat = 1 := by decide +kernel
set_option maxHeartbeats 1000000 in
theorem alive4_any (w : World) : Calls Try.prog 8 #[] w fun e w' => e = .returned (.bool true) ∧ Below w.heap.size w w' := by
  have HL := hid fun W dv (h : RB W dv pA4.load) => lay4_any pA4 dv W pA4_ok h
  have HLA := hid layA4
  have HPA := hid parseA4
  have HHA := hid hopA4
  have HP := hid fun W v (h : RB W v (layR4 pA4).1) => parse4_any v (layR4 pA4).1 W h (by rw [HLA.out.1]; decide)
  have HH := hid fun W v (h : RB W v (layR4 pA4).1) => hop4_any v (layR4 pA4).1 W h (by rw [HLA.out.1]; decide)
  unfold BytesPost at HL HH
  unfold ParPost4 at HP
  generalize hopR4 (layR4 pA4).1 = hr at HH HHA
  obtain ⟨c, ce⟩ := hr
  generalize parse4 (layR4 pA4).1 = pr at HP HPA
  obtain ⟨q, qe⟩ := pr
  generalize layR4 pA4 = la at HL HP HH HLA
  obtain ⟨b, be⟩ := la
  simp only at HL HP HH HLA HPA HHA
  obtain ⟨hbl, rfl⟩ := HLA.out
  obtain ⟨hcl, rfl, hc8⟩ := HHA.out
  obtain ⟨hqs, rfl⟩ := HPA.out
  rw [hbl] at HL
  rw [hcl] at HH
  have HQS := hid hqs
  have HC8 := hid hc8
  have HCL := hid hcl
  clear HLA HHA HPA hqs hbl hcl hc8
  go_enter Try.func8, Try.ntmps8
  go_wp2_with (first
    | ((with_reducible refine at_slot 8 ?_); refine wpList_litF rfl 26 5 2 _ rfl #[(0, .int .u8 97), (1, .int .u8 98)] (by simp [Act.eval, Act.put]) _ (lit8_2 _ _) ?_; intro w0 h0 hb0 s0)
    | ((with_reducible refine at_slot 9 ?_); refine wpList_markF rfl (.tmp 8) rfl w.heap.size 2 2 rfl _ _ h0 ?_; intro w1 h1 m1 s1; (have hl1 : w.heap.size < w1.heap.size := by omega); (have hb1 : Below w.heap.size w w1 := Mod.below hb0 m1 (Nat.le_refl _) (fun k hk => Nat.le_of_eq (List.mem_singleton.1 hk).symm)); clear s1 s0 hb0 h0 m1)
    | ((with_reducible refine at_build 28 ?_); refine wpList_buildF rfl 28 _ rfl #[(2, .int .u8 6), (3, .int .u8 2), (8, .slice (some ⟨w.heap.size, 0, none⟩) 2 2)] (by simp [Act.eval, Act.put]) _ (build_pA4 _) ?_)
    | ((with_reducible refine at_slot 1 ?_); refine wpList_allocF rfl 28 rfl _ alloc_noPkt ?_; intro w2 h2 hb2 s2; clear s2)
    | ((with_reducible refine at_store 1 10 ?_); refine wpList_rowF rfl 28 (.tmp 1) (.tmp 10) rfl w1.heap.size 28 _ (pA4.cells (.slice (some ⟨w.heap.size, 0, none⟩) 2 2)) rfl rfl h2 (info_pkt _ _) rfl (Pkt.one _ _ rfl) ?_; intro w3 h3 m3 s3; clear s3)
    | ((with_reducible refine at_slot 12 ?_); refine wpList_load_row rfl 28 (.tmp 1) rfl w1.heap.size rfl _ (pA4.cells (.slice (some ⟨w.heap.size, 0, none⟩) 2 2)) _ _ h3 Try.underlying28 rfl (info_pkt _ _) ?_))
  have hB3 : Below w.heap.size w w3 := m3.below (hb1.trans (hb2.mono hb1.size)) (Nat.le_refl _) (by simp; exact hb1.size)
  have hra : RB w3 (.slice (some ⟨w.heap.size, 0, none⟩) 2 2) [97, 98] := RB.inBlock (m3.keeps ((hb2.block w.heap.size hl1).trans h1) (by simp; omega)) rfl (Nat.le_refl _) (by decide) (fun j v hv => by rw [Nat.zero_add, ← hv]; simp [by8, u8])
  have hl3 : w1.heap.size < w3.heap.size := (Array.getElem?_eq_some_iff.1 h3).1
  clear h1 h2 hb1 hb2 m3
  refine Calls.mono (HL.out w3 _ hra) ?_
  rintro e w4 ⟨A4, k4, rfl, o4, hb4⟩
  have h4 := (hb4.block _ hl3).trans h3
  have hra4 := hra.below hb4
  have hB4 := below_after hB3 hb4 (Nat.le_refl _)
  have hl4 : w1.heap.size < w4.heap.size := Nat.lt_of_lt_of_le hl3 hb4.size
  have hr4 := o4.rb
  clear hB3 hb4 hra h3 hl3 o4
  go_wp2_with fail
  refine Calls.mono (HP.out w4 _ hr4) ?_
  rintro e w5 ⟨dq, rfl, hr5, hb5⟩
  have h5 := (hb5.block _ hl4).trans h4
  have hra5 := hra4.below hb5
  have hB5 := below_after hB4 hb5 (Nat.le_refl _)
  have hl5 := Nat.lt_of_lt_of_le hl4 hb5.size
  have hrb5 := hr4.below hb5
  clear hr4 hB4 hra4 h4 hl4 hb5
  go_wp2_with (first
    | ((with_reducible refine at_slot 4 ?_); refine wpList_allocF rfl 28 rfl _ alloc_noPkt ?_; intro w6 h6 hb6 s6; clear s6)
    | ((with_reducible refine at_store 4 19 ?_); refine wpList_rowF rfl 28 (.tmp 4) (.tmp 19) rfl w5.heap.size 28 _ (q.cells dq) rfl rfl h6 (info_pkt _ _) rfl (Pkt.one _ _ hr5.one) ?_; intro w7 h7 m7 s7; clear s7))
  have hv7 := m7.below hb6 (Nat.le_refl _) (by simp)
  have hlt7 : w5.heap.size < w7.heap.size := (Array.getElem?_eq_some_iff.1 h7).1
  have h17 := (hv7.block _ hl5).trans h5
  have hra7 := hra5.below hv7
  have hr7 := hr5.below hv7
  have hrb7 := hrb5.below hv7
  have hB7 := below_after hB5 hv7 (Nat.le_refl _)
  have hl7 := Nat.lt_of_lt_of_le hl5 hv7.size
  clear m7 hb6 h6 h5 hra5 hr5 hrb5 hB5 hl5 hv7
  refine Calls.mono (HH.out w7 _ hrb7) ?_
  rintro e w8 ⟨A8, k8, rfl, o8, hb8⟩
  obtain ⟨g, rfl, hg1, hg2, hne8⟩ := o8.blk (by decide)
  clear hne8
  have j8 := (o8.store 8 (by rw [HCL.out]; decide)).1
  rw [HC8.out] at j8
  have h18 := (hb8.block _ hl7).trans h17
  have h48 := (hb8.block _ hlt7).trans h7
  have hra8 := hra7.below hb8
  have hr8 := hr7.below hb8
  have hB8 := below_after hB7 hb8 (Nat.le_refl _)
  clear o8 hb8 hB7 hr7 hra7 hrb7 h17 h7
  go_wp2_with (first
    | ((with_reducible refine at_slot 38 ?_); refine wpList_rowG rfl 28 (.tmp 1) rfl w1.heap.size rfl _ (pA4.cells (.slice (some ⟨w.heap.size, 0, none⟩) 2 2)) _ h18 Try.underlying28 rfl (info_pkt _ _) ?_)
    | ((with_reducible refine at_slot 39 ?_); refine wpList_rowG rfl 28 (.tmp 4) rfl w5.heap.size rfl _ (q.cells dq) _ h48 Try.underlying28 rfl (info_pkt _ _) ?_))
  have hx := fsame_any pA4 q _ dq w8 hra8 hr8
  rw [HQS.out] at hx
  refine Calls.mono hx ?_
  rintro e w9 ⟨rfl, hb9⟩
  have j9 := keep_cell hb9 j8 hg2
  clear j8
  go_wp2_with fail
  go_ret
  exact ⟨rfl, below_after hB8 hb9 (Nat.le_refl _)⟩
def farP4 (n : Nat) : Bool := decide (2000 < n) && decide (n ≤ 65515)
theorem far4_any (v : Value) (xs : List UInt8) (w : World) (hv : RB w v xs) :
    Calls Try.prog 7 #[v] w fun e w' => e = .returned (.bool (farP4 xs.length)) ∧ Below w.heap.size w w' := by
  obtain ⟨A, c, rfl, hr⟩ := hv
  clear hr
  generalize xs.length = n
  unfold farP4
  by_cases h1 : 2000 < n
  · have c1 : decide (2000 < n) = true := decide_eq_true h1
    have c2 : decide ((2000 : Int) < (n : Int)) = true := decide_eq_true (by omega)
    by_cases h2 : n ≤ 65515
    · have c3 : decide (n ≤ 65515) = true := decide_eq_true h2
      have c4 : decide ((n : Int) ≤ 65515) = true := decide_eq_true (by omega)
      go_enter Try.func7, Try.ntmps7
      go_wp2_with fail
      go_ret
      rw [c1, c3]
      exact ⟨rfl, Below.refl _ _⟩
    · have c3 : decide (n ≤ 65515) = false := decide_eq_false h2
      have c4 : decide ((n : Int) ≤ 65515) = false := decide_eq_false (by omega)
      go_enter Try.func7, Try.ntmps7
      go_wp2_with fail
      go_ret
      rw [c1, c3]
      exact ⟨rfl, Below.refl _ _⟩
  · have c1 : decide (2000 < n) = false := decide_eq_false h1
    have c2 : decide ((2000 : Int) < (n : Int)) = false := decide_eq_false (by omega)
    go_enter Try.func7, Try.ntmps7
    go_wp2_with fail
    go_ret
    rw [c1]
    exact ⟨rfl, Below.refl _ _⟩
end Go.Proofs.Ytpcfgihomplehaa
