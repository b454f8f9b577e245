/- Walk: Insert of a buffer. -/
import Derived.Test.YtblkfpipmdfmkaaRbJ
import Derived.Test.YtblkfpipmdfmkaaRegU
import Derived.StillTailTactics
import Derived.Deep.DeepCutAuto
namespace Go.Proofs.Ytblkfpipmdfmkaa
set_option linter.unusedVariables false
set_option linter.unusedSimpArgs false
open Go.RowKit

set_option maxRecDepth 20000 in
set_option maxHeartbeats 4000000 in
theorem insert_any (gb g d : Nat) (m : BufP) (s : Nat) (A : Option Addr) (c : Nat) (p : List UInt8) (w : World) (h : BufW w gb g d m) (hk : BOk m) (hs : s < 4294967296) (hpl : p.length ≤ 1000000) (hrb : ∀ W, Mod [gb, g, d] w W → RB W (.slice A p.length c) p) :
    Calls Try.prog 12 #[.pointer (some ⟨gb, 0, none⟩), .int .u32 (s : Int), .slice A p.length c] w fun e w' => e = .returned (.int .i64 ((insB m s p).2 : Int)) ∧ BufW w' gb g d (insB m s p).1 ∧ Mod [gb, g, d] w w' := by
  have HO := hid (bufok_any gb g d m w h)
  have HWI := hid (within_any gb g d m s A c p w h hk hs (hrb w (Mod.refl _ _)) hpl)
  have HWIN := hid (withinB_win m s p)
  obtain ⟨r, hr⟩ : ∃ r, insB m s p = r := ⟨_, rfl⟩
  have HR := hid hr
  rw [hr]
  unfold insB at HR
  clear hr
  generalize withinB m s p = wq at HWI HWIN HR
  obtain ⟨a, q⟩ := wq
  dsimp only at HWI HWIN HR
  have HH := hid h
  have HK := hid hk
  have HRB0 := hid hrb
  obtain ⟨st, hst⟩ : ∃ x, (m.f + a) % M32 = x := ⟨_, rfl⟩
  have hstl : st < 4294967296 := by rw [← hst]; exact Nat.mod_lt _ M32_pos
  rw [hst] at HWI
  have HST := hid hst
  have hR := hk.r2
  have hR1 := hk.r1
  have hN := hk.n
  have hF : m.f < 4294967296 := hk.f
  clear h hk hrb hst
  go_enter Try.func12, Try.ntmps12
  go_wp2_with fail
  (with_reducible refine Calls.mono HO.out ?_)
  rintro e w' ⟨rfl, rfl⟩
  go_wp2_with fail
  (with_reducible refine Calls.mono HWI.out ?_)
  rintro e w' ⟨A', c', rfl, hrq, kk, rfl⟩
  have HRQ := hid (fun W (hm : Mod [gb, g, d] w W) => hrq W (HRB0.out W hm))
  clear hrq HWI HO HRB0
  by_cases hq : q = []
  · subst hq
    go_wp2_with fail
    go_ret
    refine ⟨?_, ?_, Mod.drewN _⟩
    · rw [← HR.out]; rfl
    · rw [← HR.out]; exact HH.out.below (below_drewN (Below.refl _ _) _)
  · obtain ⟨hwin, hql⟩ := HWIN.out hq
    have HRR := HR.out
    rw [if_neg hq] at HRR
    have HR2 := hid HRR
    clear HRR HR HWIN hq
    have hb2 : a + q.length ≤ 65536 := by omega
    have HNE := hid (joinR_ne m.rs (a, a + q.length))
    have HAP := hid (joinB m a (a + q.length) HK.out.apart (by omega) hb2)
    have hlay := layB_len m q a m.xs
    have HLAY := hid (hlay.trans HK.out.len)
    clear hlay
    obtain ⟨en, hen⟩ : ∃ x, (m.f + (a + q.length)) % M32 = x := ⟨_, rfl⟩
    have hEN := hid hen
    have henl : en < 4294967296 := by rw [← hen]; exact Nat.mod_lt _ M32_pos
    have e1 : ((st : Int) + (q.length : Int)) % 4294967296 = (en : Int) := by have h1 := HST.out; rw [M32_eq] at h1 hen; omega
    clear hen
    have t0 : ((q.length : Int) == 0) = false := by rw [beq_eq_false_iff_ne]; omega
    go_wp2_with fail
    try simp only [t0]
    go_loopw [28] (fun i wr => ∃ k : Nat, ∃ ys : List UInt8, k ≤ q.length ∧ i = .int .i64 k ∧ BufW wr gb g d { m with xs := ys } ∧ ys.length = m.R ∧ layB m (a + k) (q.drop k) ys = layB m a q m.xs ∧ Mod [gb, g, d] w wr) (fun i _ => q.length - (intOf i).toNat)
    case atStart => exact ⟨0, m.xs, Nat.zero_le _, rfl, HH.out.below (below_drewN (Below.refl _ _) _), HK.out.len, rfl, Mod.drewN _⟩
    case round =>
      obtain ⟨k, ys, hkl, rfl, hbw, hyl, hly, hm⟩ := hrel
      have HB := hid hbw
      have HY := hid hyl
      have HL := hid hly
      have HM := hid hm
      clear hbw hyl hly hm
      by_cases hlt : k < q.length
      · have hstep := layB_step m a k q ys hlt
        obtain ⟨b, hb⟩ : ∃ b, q.getD k 0 = b := ⟨_, rfl⟩
        have hcell := by8_get q k hlt
        rw [hb] at hstep hcell
        obtain ⟨num, hnum⟩ : ∃ x, (m.f + (a + k)) % M32 = x := ⟨_, rfl⟩
        have HAS := hid (fun W (h : BufW W gb g d { m with xs := ys }) => hasB_any gb g d { m with xs := ys } (a + k) num W h (HK.out.lay HY.out) (by rw [M32_eq]; omega) hnum)
        have PLA := hid (fun W (h : BufW W gb g d { m with xs := ys }) => placeB_any gb g d { m with xs := ys } (a + k) num W h (HK.out.lay HY.out) (by show m.n + (a + k) < M32; rw [M32_eq]; omega) hnum)
        have u1 : (k : Int) % 4294967296 = (k : Int) := by omega
        have u2 : ((st : Int) + (k : Int)) % 4294967296 = (num : Int) := by have h1 := HST.out; rw [M32_eq] at h1 hnum; omega
        have hzl : (m.beg + (m.n + (a + k))) % m.R < m.R := Nat.mod_lt _ (by omega)
        have HSTEP := hid hstep
        dsimp only at HAS PLA
        generalize (m.beg + (m.n + (a + k))) % m.R = z at *
        clear hstep hnum hb
        have RQ := HRQ.out _ HM.out
        obtain ⟨Aq, cq, eq, rq⟩ := RQ
        injection eq with e1' e2' e3'
        subst e1' e3'
        obtain ⟨aq, rfl⟩ := rq.addr (by rw [by8_length]; omega)
        have r0 := rq.get k _ hcell
        have hcp := rq.cap
        have hct := rq.top
        obtain ⟨c0, _⟩ := HB.out.cells
        clear rq hcell e2'
        go_upto_region 10 with fail
        simp only [u1, u2]
        go_wp2_with fail
        (with_reducible refine Calls.mono (HAS.out _ HB.out) ?_)
        rintro e w3 ⟨rfl, hb3⟩
        have h3 := hid (HB.out.below (hb3.mono (Nat.le_refl _)))
        have m3 := hid (HM.out.trans ((Mod.of_below hb3).sub (by simp)))
        by_cases hh : hasR m.rs (a + k) = true
        · rw [if_pos hh] at HSTEP
          rw [hh]
          clear hb3 r0 hh c0
          go_wp2_with fail
          go_roundw
          case rel => exact ⟨k + 1, ys, by omega, by go_num, h3.out, HY.out, HSTEP.out.symm.trans HL.out, m3.out⟩
          case measure => simp [intOf]; omega
        · rw [if_neg hh] at HSTEP
          rw [Bool.not_eq_true] at hh
          rw [hh]
          clear hb3 r0 hh c0
          go_wp2_with fail
          (with_reducible refine Calls.mono (PLA.out _ h3.out) ?_)
          rintro e w4 ⟨rfl, hb4⟩
          have h4 := hid (h3.out.below (hb4.mono (Nat.le_refl _)))
          have m4 := hid (m3.out.trans ((Mod.of_below hb4).sub (by simp)))
          have zd := frozRow h4.out.dat z
          have oc := cellRow h4.out.dat z
          have hyz : z < ys.length := by rw [HY.out]; exact hzl
          have oc2 := by8_get ys z hyz
          rw [List.getElem?_toArray] at oc
          rw [show ({ m with xs := ys } : BufP).xs = ys from rfl, oc2] at oc
          clear oc2 hb4
          go_wp2_with fail
          have h5 := hid (h4.out.byte z b)
          have m5 := hid (m4.out.trans (Mod.setCell d z (.int .u8 (b.toNat : Int)) (by simp)))
          go_roundw
          case rel => exact ⟨k + 1, ys.set z b, by omega, by go_num, h5.out, by rw [List.length_set]; exact HY.out, HSTEP.out.symm.trans HL.out, m5.out⟩
          case measure => simp [intOf]; omega
      · obtain rfl : k = q.length := by omega
        clear hlt hkl
        obtain rfl : ys = layB m a q m.xs := by have := HL.out; rwa [List.drop_length] at this
        clear HL
        generalize layB m a q m.xs = ys at *
        obtain ⟨c0, _⟩ := HB.out.cells
        go_upto_region 14 with fail
        simp only [e1]
        go_wp2_with (first
          | ((with_reducible refine at_build 57 ?_); refine wpList_yieldG rfl (exec_buildR 57 _ rfl #[(0, .int .u32 (st : Int)), (1, .int .u32 (en : Int))] (by simp [Act.eval, Act.put]) _ (build_blk (st : Int) (en : Int))) ?_))
        have HADD := hid (addB_any gb g d { m with xs := ys } a (a + q.length) st en wr.heap.size (wr.alloc (.cells #[.int .u32 (st : Int), .int .u32 (en : Int)] 57)) (HB.out.below (bl1 wr _)) (HK.out.lay HY.out) (by omega) hb2 HST.out hEN.out (nw1 wr _) (by have := HB.out.lt; omega))
        (with_reducible refine Calls.mono HADD.out ?_)
        rintro e w6 ⟨z, rfl, hb6, hm6⟩
        have hM6 := HM.out.trans ((Mod.alloc (M := [gb, g, d]) _).trans (hm6.sub (by simp)))
        clear HADD hm6 HM HB c0
        have H6 := hid hb6
        have M6 := hid hM6
        dsimp only at H6
        clear hb6 hM6
        generalize joinR m.rs (a, a + q.length) = J at *
        have hx6 := H6.out.blk
        obtain ⟨la, hla⟩ : ∃ x, (m.f + (a + q.length - 1)) % M32 = x := ⟨_, rfl⟩
        rw [hla] at HR2
        have e2 : ((en : Int) - 1) % 4294967296 = (la : Int) := by have h1 := hEN.out; rw [M32_eq] at h1 hla; omega
        clear hla
        have z4 := frozRow hx6 4
        have z5 := frozRow hx6 5
        obtain ⟨c0, c1, c2, c3, c4, c5⟩ := H6.out.cells
        clear hx6
        go_upto_region 16 with fail
        simp only [e2]
        have h7 := (H6.out.field 4 (.int .u32 (la : Int)) (m' := { m with xs := ys, rs := J, last := la }) rfl rfl rfl rfl).field 5 (.bool true) (m' := { m with xs := ys, rs := J, last := la, kept := true }) rfl rfl rfl rfl
        have m7 := M6.out.trans ((Mod.setCell gb 4 (.int .u32 (la : Int)) (by simp)).trans (Mod.setCell gb 5 (.bool true) (by simp)))
        clear H6 M6 z4 z5 c0 c1 c2 c3 c4 c5
        generalize (w6.setCell _ _).setCell _ _ = W7 at h7 m7 ⊢
        have H7 := hid h7
        have M7 := hid m7
        have HBL := hid (blocks_any g m.f J W7 h7.brd HAP.out.ok hF)
        obtain ⟨c0, _⟩ := h7.cells
        clear h7 m7
        go_wp2_with fail
        (with_reducible refine Calls.mono HBL.out ?_)
        rintro e w8 ⟨v, rfl, ho8, hb8⟩
        have h8 := H7.out.below (hb8.mono (Nat.le_refl _))
        have m8 := M7.out.trans ((Mod.of_below hb8).sub (by simp))
        have hJ : 0 < J.length := HNE.out
        obtain ⟨g8, c8, rfl, hrow8⟩ := head_own ho8 hJ
        obtain ⟨l0, l1⟩ := head_cells hrow8 hJ
        have hcp := hrow8.cap
        have hct := hrow8.top
        have hap := HAP.out.mem _ (headR_mem hJ)
        have HRR := HR2.out
        unfold goB at HRR
        have HADV := hid (fun W (hb : Brd W g m.f J) n (hn : n < 4294967296) => advance_any g m.f n J W hb HAP.out.ok hF hn)
        generalize hhd : headR J = hd at *
        obtain ⟨x, y⟩ := hd
        dsimp only at *
        have H8 := hid h8
        have M8 := hid m8
        clear H7 M7 HBL c0 hb8 ho8 hrow8 h8 m8 HR2
        have hJi : (0 : Int) < (J.length : Int) := by omega
        go_upto_region 17 with fail
        have HNX := hid (fun W (hb : Below w8.heap.size w8 W) => bufnext_b gb g d _ W (H8.out.below (hb.mono (Nat.le_refl _))))
        have HL0 := hid (fun W (hb : Below w8.heap.size w8 W) => (keep_cell hb l0 (World.block_lt_of_cell? _ _ l0)))
        have HL1 := hid (fun W (hb : Below w8.heap.size w8 W) => (keep_cell hb l1 (World.block_lt_of_cell? _ _ l1)))
        clear l0 l1
        by_cases hx : x = 0
        · subst hx
          have hx0 : ¬ ((0 : Nat) ≠ 0) := fun h => h rfl
          rw [if_neg hx0] at HRR
          have hfm : (m.f + 0) % M32 = m.f := by rw [M32_eq]; omega
          rw [hfm] at HL0
          obtain ⟨rt, hrt⟩ : ∃ z, (m.f + y) % M32 = z := ⟨_, rfl⟩
          rw [hrt] at HL1
          have hrtl : rt < 4294967296 := by rw [← hrt]; exact Nat.mod_lt _ M32_pos
          have e3 : ((rt : Int) - (m.f : Int)) % 4294967296 = (y : Int) := by rw [M32_eq] at hrt; omega
          have e3' : IntKind.u32.wrap ((rt : Int) - (m.f : Int)) = (y : Int) := by rw [IntKind.wrap_u32]; exact e3
          have e4 : IntKind.i64.wrap (y : Int) = (y : Int) := by rw [IntKind.wrap_i64]; omega
          have hah : aheadS m.f rt = y := by rw [← hrt]; exact aheadS_at m.f y hF (by rw [M32_eq]; omega)
          have HV := hid (fun W (hb : Brd W g m.f J) => HADV.out W hb rt hrtl)
          rw [hah] at HV
          rw [hrt] at HRR
          have hy1 := hap.1
          have hy2 := hap.2
          clear hah hfm HADV hrt hx0
          refine wp_region_later w8.heap.size (Nat.le_refl _) (by kernel_rfl) (by kernel_rfl) ?_
          have q0 := fun x : Later w8.heap.size w8 => HL0.out _ x.ok
          repeat (first
            | go_big_quiet_step (first
              | (go_at_call 13; with_reducible exact quiet_later _ (Nat.le_refl _) (HNX.out _ (Later.ok _)))))
          refine wpQuiet_nil ?_
          rintro _ ⟨lx, rfl⟩
          have hb9 := hid lx.ok
          clear q0
          generalize lx.wd = W9 at hb9 ⊢
          go_upto_region 19 with fail
          refine wp_region_later W9.heap.size (Nat.le_refl _) (by kernel_rfl) (by kernel_rfl) ?_
          have DB := fun x : Later W9.heap.size W9 => hb9.out.trans (x.ok.mono hb9.out.size)
          have q0 := fun x : Later W9.heap.size W9 => HL0.out _ (DB x)
          have q1 := fun x : Later W9.heap.size W9 => HL1.out _ (DB x)
          repeat (first
            | go_big_quiet_step (first | fail))
          refine wpQuiet_nil ?_
          rintro _ ⟨lx, rfl⟩
          have hb10 := hid (DB lx)
          clear q0 q1 DB
          generalize lx.wd = W10 at hb10 ⊢
          go_upto_region 20 with fail
          have H10 := hid (H8.out.below (hb10.out.mono (Nat.le_refl _)))
          have M10 := hid (M8.out.trans ((Mod.of_below hb10.out).sub (by simp)))
          obtain ⟨c0, _⟩ := H10.out.cells
          have r1 := HL1.out _ hb10.out
          clear H8 M8 HL0 HL1 HNX hb10 hb9
          go_still_tail 8, (by kernel_rfl)
          change wpList _ _ _ _ _ W10.drew
          have H11 := hid (H10.out.below (below_drewN (Below.refl _ _) 1))
          have M11 := hid (M10.out.trans (Mod.drewN 1))
          change Hid (BufW W10.drew _ _ _ _) at H11
          change Hid (Mod _ _ W10.drew) at M11
          clear H10 M10 c0 r1
          generalize W10.drew = W11 at H11 M11 ⊢
          go_wp2_with fail
          (with_reducible refine Calls.mono (HV.out _ H11.out.brd) ?_)
          rintro e w12 (⟨hno, _⟩ | ⟨_, rfl, hbr, hm12⟩)
          · omega
          have H12 := hid (H11.out.board hbr hm12)
          have M12 := hid (M11.out.trans (hm12.sub (by simp)))
          clear hbr hm12 H11 M11 HV
          have hx12 := H12.out.blk
          have z3 := frozRow hx12 3
          obtain ⟨_, _, _, c3, _⟩ := H12.out.cells
          clear hx12
          go_upto_region 22 with fail
          have H13 := hid (H12.out.field 3 (.int .i64 ((m.n : Int) + (y : Int))) (m' := { m with xs := ys, last := la, kept := true, rs := advR y J, f := rt, n := m.n + y }) rfl rfl rfl rfl)
          have M13 := hid (M12.out.trans (Mod.setCell gb 3 (.int .i64 ((m.n : Int) + (y : Int))) (by simp)))
          go_wp2_with fail
          go_ret
          refine ⟨?_, ?_, ?_⟩
          · rw [← HRR]; rfl
          · rw [← HRR]; exact H13.out
          · exact M13.out
        · have hlf : (m.f + x) % M32 ≠ m.f := by rw [M32_eq]; omega
          generalize (m.f + x) % M32 = lf at *
          have t1 : ((lf : Int) == (m.f : Int)) = false := by rw [beq_eq_false_iff_ne]; omega
          rw [if_pos hx] at HRR
          clear hlf hx
          refine wp_region_later w8.heap.size (Nat.le_refl _) (by kernel_rfl) (by kernel_rfl) ?_
          have q0 := fun x : Later w8.heap.size w8 => HL0.out _ x.ok
          repeat (first
            | go_big_quiet_step (first
              | (go_at_call 13; with_reducible exact quiet_later _ (Nat.le_refl _) (HNX.out _ (Later.ok _)))))
          refine wpQuiet_nil ?_
          rintro _ ⟨lx, rfl⟩
          have hb9 := lx.ok
          go_wp2_with fail
          go_ret
          refine ⟨?_, ?_, ?_⟩
          · rw [← HRR]; rfl
          · rw [← HRR]; exact H8.out.below (hb9.mono (Nat.le_refl _))
          · exact M8.out.trans ((Mod.of_below hb9).sub (by simp))
end Go.Proofs.Ytblkfpipmdfmkaa
