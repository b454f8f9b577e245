/- Walk of the law CongOnce. -/
import Derived.Test.YtkecfdngnbeinaaCongJ
import Derived.Test.YtkecfdngnbeinaaReg
namespace Go.Proofs.Ytkecfdngnbeinaa
set_option linter.unusedVariables false
set_option linter.unusedSimpArgs false
open Go.RowKit

theorem add_lit (x : Addr) (j : Nat) (h : 0 < j) : x.add j = ⟨x.block, x.off + j, none⟩ := by rw [Addr.add, if_neg (by omega)]
theorem stp_cells {w : World} {b : Nat} {s : Stp} (h : w.heap[b]? = some (.cells #[.int .u8 s.kind, .int .i64 s.n, .int .u32 s.num, .int .i64 s.fl] 29 (0, 0))) :
    w.cell? ⟨b, 0, none⟩ = some (.int .u8 s.kind) ∧ w.cell? ⟨b, 1, none⟩ = some (.int .i64 s.n) ∧ w.cell? ⟨b, 2, none⟩ = some (.int .u32 s.num) ∧ w.cell? ⟨b, 3, none⟩ = some (.int .i64 s.fl) :=
  ⟨cellRow h 0, cellRow h 1, cellRow h 2, cellRow h 3⟩
theorem infoS : (Try.prog.info? 29).map (·.size) = some 4 := by kernel_rfl
set_option maxRecDepth 20000 in
set_option maxHeartbeats 4000000 in
theorem lawOnce_any (m : Int) (v : Value) (ss : List Stp) (w : World) (hs : SS w v ss) :
    Calls Try.prog 3 #[.int .i64 m, v] w fun e w' => e = .returned (.bool true) ∧ Below w.heap.size w w' := by
  have hs0 := hs
  obtain ⟨A, cap, rfl, h1, h2, hok, hrow⟩ := hs
  by_cases hlong : 1000 < ss.length
  · have hd : decide ((1000 : Int) < (ss.length : Int)) = true := by simp; omega
    clear hrow hok
    go_enter Try.func3, Try.ntmps3
    go_wp2_with fail
    refine (alive_any _).mono ?_
    rintro e w' ⟨rfl, hb⟩
    go_wp2_with fail
    go_ret
    exact ⟨rfl, hb⟩
  have hd : decide ((1000 : Int) < (ss.length : Int)) = false := by simp; omega
  have HROW := hid hs0
  have HOK := hid hok
  clear hs0 hrow hok
  go_enter Try.func3, Try.ntmps3
  go_wp2_with fail
  refine (new_any m w).mono ?_
  rintro e w1 ⟨rfl, hb1⟩
  have hfit := fit_new m
  have hdu : Hid ((Ctl.new m).dups = 0) := rfl
  generalize Ctl.new m = c0 at *
  rw [Ctl.v_def]
  go_wp2_with fail
  have hS := heap_alloc_new w1 (.cells #[.int .i64 c0.mss, .int .i64 c0.win, .int .i64 c0.thr, .int .i64 c0.dups, .bool c0.recs, .int .u32 c0.to] 26)
  have hB := below_alloc hb1 (.cells #[.int .i64 c0.mss, .int .i64 c0.win, .int .i64 c0.thr, .int .i64 c0.dups, .bool c0.recs, .int .u32 c0.to] 26) (Nat.le_refl _)
  generalize w1.alloc _ = W at hS hB ⊢
  have hSw := hb1.size
  generalize w1.heap.size = S at hS hSw ⊢
  go_loopw [6, 24] (fun du i wr => ∃ (k : Nat) (c : Ctl), k ≤ ss.length ∧ i = .int .i64 k ∧ du = .int .i64 c.dups ∧ Fit c ∧ 0 ≤ c.dups ∧ c.dups ≤ k ∧ wr.heap[S]? = some (.cells c.cells 26 (0, 0)) ∧ Below w.heap.size w wr) (fun _ i _ => ss.length - (intOf i).toNat)
  case atStart => exact ⟨0, c0, Nat.zero_le _, rfl, by rw [hdu.out], hfit, by rw [hdu.out]; omega, by rw [hdu.out]; omega, hS, hB⟩
  case round =>
    clear hS hB hb1 hdu hfit
    obtain ⟨k, c, hk, rfl, rfl, hf, hc0, hck, hS, hb⟩ := hrel
    by_cases hlt : k < ss.length
    · obtain ⟨s, hsk⟩ : ∃ s, ss[k]? = some s := ⟨_, List.getElem?_eq_getElem hlt⟩
      obtain ⟨A', cap', e1, _, _, _, hrow⟩ := HROW.out.below hb
      injection e1 with e1 e2 e3
      subst e1 e3
      obtain ⟨a, rfl, hcell⟩ := hrow k s hsk
      have hsok := HOK.out s (List.mem_of_getElem? hsk)
      have HC := hid hcell
      have HSO := hid hsok
      have HSK := hid hsk
      have HF := hid hf
      clear hrow hcell hsok hsk hf
      have hSl : S < wr.heap.size := (Array.getElem?_eq_some_iff.1 hS).1
      have hS1 : (wr.alloc (.cells #[.int .u8 s.kind, .int .i64 s.n, .int .u32 s.num, .int .i64 s.fl] 29)).heap[S]? = some (.cells c.cells 26 (0, 0)) := by rw [Below.heap_alloc _ _ _ (by omega)]; exact hS
      obtain ⟨s0, s1, s2, s3, s4, s5⟩ := ctl_cells hS1
      have l0 : wr.cell? (a.add (k * 4)) = some (.int .u8 s.kind) := by have := HC.out 0 _ rfl; rwa [add_zero'] at this
      have l1 : wr.cell? ⟨(a.add (k * 4)).block, (a.add (k * 4)).off + 1, none⟩ = some (.int .i64 s.n) := by rw [← add_lit _ 1 (by omega)]; exact HC.out 1 _ rfl
      have l2 : wr.cell? ⟨(a.add (k * 4)).block, (a.add (k * 4)).off + 2, none⟩ = some (.int .u32 s.num) := by rw [← add_lit _ 2 (by omega)]; exact HC.out 2 _ rfl
      have l3 : wr.cell? ⟨(a.add (k * 4)).block, (a.add (k * 4)).off + 3, none⟩ = some (.int .i64 s.fl) := by rw [← add_lit _ 3 (by omega)]; exact HC.out 3 _ rfl
      go_wp2_with fail
      have hP1 := heap_alloc_new wr (.cells #[.int .u8 s.kind, .int .i64 s.n, .int .u32 s.num, .int .i64 s.fl] 29)
      have hb1 := below_alloc hb (.cells #[.int .u8 s.kind, .int .i64 s.n, .int .u32 s.num, .int .i64 s.fl] 29) (Nat.le_refl _)
      have hz1 : (wr.alloc (.cells #[.int .u8 s.kind, .int .i64 s.n, .int .u32 s.num, .int .i64 s.fl] 29)).heap.size = wr.heap.size + 1 := by simp
      clear s0 s1 s2 s3 s4 s5 l0 l1 l2 l3
      generalize wr.alloc _ = W1 at hS1 hP1 hb1 hz1 ⊢
      have hwr := hb.size
      clear hS hb
      obtain ⟨P, hP⟩ : ∃ P, P = wr.heap.size := ⟨_, rfl⟩
      rw [← hP] at hP1 hz1 hSl hwr ⊢
      clear hP
      refine (recovers_any c W1).mono ?_
      rintro e w2 ⟨rfl, hb2⟩
      have hz2 := hb2.size
      have hS2 := (hb2.block _ (by omega)).trans hS1
      have hP2 := (hb2.block _ (by omega)).trans hP1
      have HB2 := below_after hb1 hb2 (Nat.le_refl _)
      clear hS1 hP1 hb1 hb2
      obtain ⟨s0, s1, s2, s3, s4, s5⟩ := ctl_cells hS2
      obtain ⟨p0, p1, p2, p3⟩ := stp_cells hP2
      generalize (if c.recs then c.to else 0) = cto
      go_wp2_with fail
      refine (does_any c s w2 HF.out ⟨hc0, by omega⟩ HSO.out).mono ?_
      rintro e w3 ⟨⟨d, b, rfl, hdid⟩, hb3⟩
      have HK := hid (kept c HF.out _ _ d b hdid)
      clear hdid
      have hz3 := hb3.size
      have hS3 := (hb3.block _ (by omega)).trans hS2
      have hP3 := (hb3.block _ (by omega)).trans hP2
      have HB3 := below_after HB2 hb3 (Nat.le_refl _)
      clear hS2 hP2 HB2 hb3 s0 s1 s2 s3 s4 s5 p0 p1 p2 p3
      rw [Ctl.v_def d]
      go_wp2_with fail
      have hX4 := heap_alloc_new w3 (.cells #[.int .i64 d.mss, .int .i64 d.win, .int .i64 d.thr, .int .i64 d.dups, .bool d.recs, .int .u32 d.to] 26)
      have hb4 := below_alloc (Below.refl w3.heap.size w3) (.cells #[.int .i64 d.mss, .int .i64 d.win, .int .i64 d.thr, .int .i64 d.dups, .bool d.recs, .int .u32 d.to] 26) (Nat.le_refl _)
      have hz4 : (w3.alloc (.cells #[.int .i64 d.mss, .int .i64 d.win, .int .i64 d.thr, .int .i64 d.dups, .bool d.recs, .int .u32 d.to] 26)).heap.size = w3.heap.size + 1 := by simp
      generalize w3.alloc _ = W4 at hX4 hb4 hz4 ⊢
      refine (recovers_any d W4).mono ?_
      rintro e w5 ⟨rfl, hb5⟩
      have hz5 := hb5.size
      have hS5 := (hb5.block _ (by omega)).trans ((hb4.block _ (by omega)).trans hS3)
      have hP5 := (hb5.block _ (by omega)).trans ((hb4.block _ (by omega)).trans hP3)
      have hX5 : w5.heap[w3.heap.size]? = some (.cells d.cells 26 (0, 0)) := (hb5.block _ (by omega)).trans hX4
      have HB5 := below_after HB3 (below_after hb4 hb5 (by omega)) (Nat.le_refl _)
      clear hS3 hP3 hX4 HB3 hb4 hb5
      have hXS : S < w3.heap.size := by omega
      have hX5l : w3.heap.size < w5.heap.size := by omega
      generalize w3.heap.size = X at *
      clear hz1 hz2 hz3 hz4 hz5
      generalize (if d.recs then d.to else 0) = dto
      obtain ⟨s0, s1, s2, s3, s4, s5⟩ := ctl_cells hS5
      obtain ⟨x0, x1, x2, x3, x4, x5⟩ := ctl_cells hX5
      obtain ⟨p0, p1, p2, p3⟩ := stp_cells hP5
      have zS := frozRow hS5
      have hk := HSO.out.kind
      have hj : s.kind.tmod 6 = 0 ∨ s.kind.tmod 6 = 1 ∨ s.kind.tmod 6 = 2 ∨ s.kind.tmod 6 = 3 ∨ s.kind.tmod 6 = 4 ∨ s.kind.tmod 6 = 5 := by
        rw [Int.tmod_eq_emod_of_nonneg hk.1]; omega
      have HFit := hid HK.out.fit
      have hneS : S ≠ P := by omega
      clear hk
      obtain ⟨dm, dw, dt, dd, dr, dx⟩ := d
      rcases hj with hj | hj | hj | hj | hj | hj
      · have hw6 : IntKind.u8.wrap 0 = 0 := rfl
        rw [hj] at HK
        by_cases hn : s.n < 1
        · have hn0 : ¬ (0 < s.n) := by omega
          have hr := HK.out.rest ((.inr (.inr ⟨rfl, hn⟩)))
          have HD : Hid (dd = c.dups) := hr.1
          cases hcr : c.recs
          all_goals
            have hdr : dr = c.recs := hr.2
            rw [hcr] at hdr
            clear hr
            clear HK
            subst hdr
            go_wp2_with fail
            exact ⟨⟨k + 1, ⟨dm, dw, dt, dd, _, dx⟩, by omega, rfl, by show _ = Value.int .i64 dd; rw [HD.out], HFit.out, by show 0 ≤ dd; rw [HD.out]; omega, by show dd ≤ _; rw [HD.out]; omega, put6_row hS5 ⟨dm, dw, dt, dd, _, dx⟩, put6_below HB5 hSw ⟨dm, dw, dt, dd, _, dx⟩⟩, by simp [intOf]; omega⟩
        · have hn0 : 0 < s.n := by omega
          have hr := HK.out.ack rfl (by omega)
          have HD : Hid (dd = 0) := hr.1
          have HW := hid hr.2
          clear hr HK
          cases hcr : c.recs
          · have hge : c.win ≤ dw := HW.out hcr
            clear HW
            go_wp2_with fail
            have W5 := hS5
            refine wp_region_later w5.heap.size (Nat.le_refl _) (by kernel_rfl) (by kernel_rfl) ?_
            have g0 := fun x : Later w5.heap.size w5 => ctl_cells (x.blk hS5 (by omega))
            have g1 := fun x : Later w5.heap.size w5 => ctl_cells (x.blk hX5 (by omega))
            simp only [forall_and] at g0 g1
            obtain ⟨f0, f1, f2, f3, f4, f5⟩ := g0
            obtain ⟨y0, y1, y2, y3, y4, y5⟩ := g1
            clear s0 s1 s2 s3 s4 s5 x0 x1 x2 x3 x4 x5 p0 p1 p2 p3 zS hcr
            repeat (go_big_quiet_step (first | (refine quiet_later _ (Nat.le_refl _) (window_any c _)) | (refine quiet_later _ (Nat.le_refl _) (window_any ⟨dm, dw, dt, dd, dr, dx⟩ _))))
            refine wpQuiet_nil ?_
            rintro _ ⟨x, rfl⟩
            have hS6 := x.blk hS5 (by omega)
            have zS := frozRow hS6
            have HB6 := below_after HB5 x.ok (Nat.le_refl _)
            clear W5
            go_wp2_with fail
            exact ⟨⟨k + 1, ⟨dm, dw, dt, dd, dr, dx⟩, by omega, rfl, by show _ = Value.int .i64 dd; rw [HD.out], HFit.out, by show 0 ≤ dd; rw [HD.out]; omega, by show dd ≤ _; rw [HD.out]; omega, put6_row hS6 ⟨dm, dw, dt, dd, dr, dx⟩, put6_below HB6 hSw ⟨dm, dw, dt, dd, dr, dx⟩⟩, by simp [intOf]; omega⟩
          · clear HW
            go_wp2_with fail
            have W5 := hS5
            refine wp_region_later w5.heap.size (Nat.le_refl _) (by kernel_rfl) (by kernel_rfl) ?_
            have g0 := fun x : Later w5.heap.size w5 => ctl_cells (x.blk hS5 (by omega))
            have g1 := fun x : Later w5.heap.size w5 => ctl_cells (x.blk hX5 (by omega))
            simp only [forall_and] at g0 g1
            obtain ⟨f0, f1, f2, f3, f4, f5⟩ := g0
            obtain ⟨y0, y1, y2, y3, y4, y5⟩ := g1
            clear s0 s1 s2 s3 s4 s5 x0 x1 x2 x3 x4 x5 p0 p1 p2 p3 zS hcr
            repeat (go_big_quiet_step (first | (refine quiet_later _ (Nat.le_refl _) (window_any c _)) | (refine quiet_later _ (Nat.le_refl _) (window_any ⟨dm, dw, dt, dd, dr, dx⟩ _))))
            refine wpQuiet_nil ?_
            rintro _ ⟨x, rfl⟩
            have hS6 := x.blk hS5 (by omega)
            have zS := frozRow hS6
            have HB6 := below_after HB5 x.ok (Nat.le_refl _)
            clear W5
            go_wp2_with fail
            exact ⟨⟨k + 1, ⟨dm, dw, dt, dd, dr, dx⟩, by omega, rfl, by show _ = Value.int .i64 dd; rw [HD.out], HFit.out, by show 0 ≤ dd; rw [HD.out]; omega, by show dd ≤ _; rw [HD.out]; omega, put6_row hS6 ⟨dm, dw, dt, dd, dr, dx⟩, put6_below HB6 hSw ⟨dm, dw, dt, dd, dr, dx⟩⟩, by simp [intOf]; omega⟩
      · have hw6 : IntKind.u8.wrap 1 = 1 := rfl
        rw [hj] at HK
        cases hcr : c.recs
        · have hr := HK.out.cnt (.inl rfl) hcr
          have HD : Hid (dd = c.dups + 1) := hr.1
          have hp : IntKind.i64.wrap (c.dups + 1) = c.dups + 1 := IntWalk.i64_in _ (by omega)
          obtain ⟨-, hb1, hb2⟩ := hr
          replace hb2 : dr = _ := hb2
          by_cases h3 : c.dups + 1 = 3
          · rw [decide_eq_true h3] at hb1 hb2
            subst hb1
            subst hb2
            have h3' : c.dups = 2 := by omega
            go_wp2_with fail
            exact ⟨⟨k + 1, ⟨dm, dw, dt, dd, _, dx⟩, by omega, rfl, by show _ = Value.int .i64 dd; rw [show dd = 3 from HD.out.trans h3], HFit.out, by show 0 ≤ dd; rw [HD.out]; omega, by show dd ≤ _; rw [HD.out]; omega, put6_row hS5 ⟨dm, dw, dt, dd, _, dx⟩, put6_below HB5 hSw ⟨dm, dw, dt, dd, _, dx⟩⟩, by simp [intOf]; omega⟩
          · rw [decide_eq_false h3] at hb1 hb2
            subst hb1
            subst hb2
            go_wp2_with fail
            exact ⟨⟨k + 1, ⟨dm, dw, dt, dd, _, dx⟩, by omega, rfl, by show _ = Value.int .i64 dd; rw [HD.out], HFit.out, by show 0 ≤ dd; rw [HD.out]; omega, by show dd ≤ _; rw [HD.out]; omega, put6_row hS5 ⟨dm, dw, dt, dd, _, dx⟩, put6_below HB5 hSw ⟨dm, dw, dt, dd, _, dx⟩⟩, by simp [intOf]; omega⟩
        · have hr := HK.out.dup (.inl rfl) hcr
          have HD : Hid (dd = c.dups) := hr.1
          obtain ⟨-, hb1, hb2⟩ := hr
          replace hb2 : dr = _ := hb2
          subst hb1
          subst hb2
          go_wp2_with fail
          exact ⟨⟨k + 1, ⟨dm, dw, dt, dd, _, dx⟩, by omega, rfl, by show _ = Value.int .i64 dd; rw [HD.out], HFit.out, by show 0 ≤ dd; rw [HD.out]; omega, by show dd ≤ _; rw [HD.out]; omega, put6_row hS5 ⟨dm, dw, dt, dd, _, dx⟩, put6_below HB5 hSw ⟨dm, dw, dt, dd, _, dx⟩⟩, by simp [intOf]; omega⟩
      · have hw6 : IntKind.u8.wrap 2 = 2 := rfl
        rw [hj] at HK
        have HD : Hid (dd = 0) := HK.out.out rfl
        go_wp2_with fail
        exact ⟨⟨k + 1, ⟨dm, dw, dt, dd, _, dx⟩, by omega, rfl, by show _ = Value.int .i64 dd; rw [HD.out], HFit.out, by show 0 ≤ dd; rw [HD.out]; omega, by show dd ≤ _; rw [HD.out]; omega, put6_row hS5 ⟨dm, dw, dt, dd, _, dx⟩, put6_below HB5 hSw ⟨dm, dw, dt, dd, _, dx⟩⟩, by simp [intOf]; omega⟩
      · have hw6 : IntKind.u8.wrap 3 = 3 := rfl
        rw [hj] at HK
        have hr := HK.out.rest (.inl rfl)
        have HD : Hid (dd = c.dups) := hr.1
        cases hcr : c.recs
        all_goals
          have hdr : dr = c.recs := hr.2
          rw [hcr] at hdr
          clear hr
          clear HK
          subst hdr
          go_wp2_with fail
          exact ⟨⟨k + 1, ⟨dm, dw, dt, dd, _, dx⟩, by omega, rfl, by show _ = Value.int .i64 dd; rw [HD.out], HFit.out, by show 0 ≤ dd; rw [HD.out]; omega, by show dd ≤ _; rw [HD.out]; omega, put6_row hS5 ⟨dm, dw, dt, dd, _, dx⟩, put6_below HB5 hSw ⟨dm, dw, dt, dd, _, dx⟩⟩, by simp [intOf]; omega⟩
      · have hw6 : IntKind.u8.wrap 4 = 4 := rfl
        rw [hj] at HK
        have hr := HK.out.rest (.inr (.inl rfl))
        have HD : Hid (dd = c.dups) := hr.1
        cases hcr : c.recs
        all_goals
          have hdr : dr = c.recs := hr.2
          rw [hcr] at hdr
          clear hr
          clear HK
          subst hdr
          go_wp2_with fail
          exact ⟨⟨k + 1, ⟨dm, dw, dt, dd, _, dx⟩, by omega, rfl, by show _ = Value.int .i64 dd; rw [HD.out], HFit.out, by show 0 ≤ dd; rw [HD.out]; omega, by show dd ≤ _; rw [HD.out]; omega, put6_row hS5 ⟨dm, dw, dt, dd, _, dx⟩, put6_below HB5 hSw ⟨dm, dw, dt, dd, _, dx⟩⟩, by simp [intOf]; omega⟩
      · have hw6 : IntKind.u8.wrap 5 = 5 := rfl
        rw [hj] at HK
        cases hcr : c.recs
        · have hr := HK.out.cnt (.inr rfl) hcr
          have HD : Hid (dd = c.dups + 1) := hr.1
          have hp : IntKind.i64.wrap (c.dups + 1) = c.dups + 1 := IntWalk.i64_in _ (by omega)
          obtain ⟨-, hb1, hb2⟩ := hr
          replace hb2 : dr = _ := hb2
          by_cases h3 : c.dups + 1 = 3
          · rw [decide_eq_true h3] at hb1 hb2
            subst hb1
            subst hb2
            have h3' : c.dups = 2 := by omega
            go_wp2_with fail
            exact ⟨⟨k + 1, ⟨dm, dw, dt, dd, _, dx⟩, by omega, rfl, by show _ = Value.int .i64 dd; rw [show dd = 3 from HD.out.trans h3], HFit.out, by show 0 ≤ dd; rw [HD.out]; omega, by show dd ≤ _; rw [HD.out]; omega, put6_row hS5 ⟨dm, dw, dt, dd, _, dx⟩, put6_below HB5 hSw ⟨dm, dw, dt, dd, _, dx⟩⟩, by simp [intOf]; omega⟩
          · rw [decide_eq_false h3] at hb1 hb2
            subst hb1
            subst hb2
            go_wp2_with fail
            exact ⟨⟨k + 1, ⟨dm, dw, dt, dd, _, dx⟩, by omega, rfl, by show _ = Value.int .i64 dd; rw [HD.out], HFit.out, by show 0 ≤ dd; rw [HD.out]; omega, by show dd ≤ _; rw [HD.out]; omega, put6_row hS5 ⟨dm, dw, dt, dd, _, dx⟩, put6_below HB5 hSw ⟨dm, dw, dt, dd, _, dx⟩⟩, by simp [intOf]; omega⟩
        · have hr := HK.out.dup (.inr rfl) hcr
          have HD : Hid (dd = c.dups) := hr.1
          obtain ⟨-, hb1, hb2⟩ := hr
          replace hb2 : dr = _ := hb2
          subst hb1
          subst hb2
          go_wp2_with fail
          exact ⟨⟨k + 1, ⟨dm, dw, dt, dd, _, dx⟩, by omega, rfl, by show _ = Value.int .i64 dd; rw [HD.out], HFit.out, by show 0 ≤ dd; rw [HD.out]; omega, by show dd ≤ _; rw [HD.out]; omega, put6_row hS5 ⟨dm, dw, dt, dd, _, dx⟩, put6_below HB5 hSw ⟨dm, dw, dt, dd, _, dx⟩⟩, by simp [intOf]; omega⟩
    · go_wp2_with fail
      refine (alive_any _).mono ?_
      rintro e w' ⟨rfl, hba⟩
      go_wp2_with fail
      go_ret
      exact ⟨rfl, below_after hb hba (by have := hb.size; omega)⟩
end Go.Proofs.Ytkecfdngnbeinaa
