/- The control: Dup, Idle. -/
import Derived.Test.YtkecfdngnbeinaaCongB
import Derived.Laws.ResultCell
namespace Go.Proofs.Ytkecfdngnbeinaa
set_option linter.unusedVariables false
set_option linter.unusedSimpArgs false
open Go.RowKit

theorem ctl_ret2 {fn : Func} {R : Ending → World → Prop} {tmps : Array Value} {w : World} {p u : Tmp} {b : Nat} {c : Ctl} (hf : fn.results = #[.cell p 26, .tmp u]) (hp : tmps.getD p undef = .pointer (some ⟨b, 0, none⟩))
    (hb : w.heap[b]? = some (.cells c.cells 26 (0, 0))) (hR : R (.returned (.tuple #[c.v, tmps.getD u undef])) w) : bodyPost Try.prog fn R .ret ⟨tmps, []⟩ w := by
  refine bodyPost_ret ?_ rfl hR
  show (results fn tmps).run _ _ = _
  have hl := run_loadVar_row (P := Try.prog) w b 26 26 c.cells (0, 0) _ hb Try.underlying26 rfl infoC
  have ha : (asAddr (.pointer (some ⟨b, 0, none⟩))).run Try.prog w = .ok ⟨b, 0, none⟩ w := rfl
  rw [results_cell_tmp hf, hp, ha]
  simp only [Result.andThen_ok, hl]
  rfl
def Ctl.dup (c : Ctl) (f next : Int) : Ctl × Bool :=
  if c.recs then (c.set (c.win + c.mss), false)
  else if c.dups + 1 = 3 then (Ctl.set { Ctl.lost { c with dups := 3 } f next with recs := true } ((c.lost f next).thr + 3 * c.mss), true)
  else ({ c with dups := c.dups + 1 }, false)
theorem two_new' (w : World) (m wi t d : Int) (r : Bool) (o : Int) : Two w ((w.alloc (.cells #[.int .i64 m, .int .i64 wi, .int .i64 t, .int .i64 d, .bool r, .int .u32 o] 26)).alloc (.cells #[.int .i64 0, .int .i64 0, .int .i64 0, .int .i64 0, .bool false, .int .u32 0] 26)) w.heap.size ⟨m, wi, t, d, r, o⟩ zeroC := two_new w ⟨m, wi, t, d, r, o⟩

set_option maxHeartbeats 1000000 in
theorem dup_any (c : Ctl) (f next : Int) (w : World) (hm : 0 ≤ c.mss ∧ c.mss ≤ 65535) (hw : 0 ≤ c.win ∧ c.win ≤ 1073741824) (hd : 0 ≤ c.dups ∧ c.dups ≤ 100000) (hf : -9223372036854775808 ≤ f ∧ f ≤ 9223372036854775807) :
    Calls Try.prog 15 #[c.v, .int .i64 f, .int .u32 next] w fun e w' => e = .returned (.tuple #[(c.dup f next).1.v, .bool (c.dup f next).2]) ∧ Below w.heap.size w w' := by
  have H := two_new w c
  obtain ⟨m, wi, t, d, r, o⟩ := c
  simp only at hm hw hd
  have w1 : IntKind.i64.wrap (wi + m) = wi + m := IntWalk.i64_in _ (by omega)
  have w2 : IntKind.i64.wrap (d + 1) = d + 1 := IntWalk.i64_in _ (by omega)
  have H0 := H
  cases r
  case true =>
    have hsp : Ctl.dup ⟨m, wi, t, d, true, o⟩ f next = (Ctl.set ⟨m, wi, t, d, true, o⟩ (wi + m), false) := rfl
    rw [hsp]
    clear hsp
    unfold Ctl.v
    go_enter Try.func15, Try.ntmps15
    go_wp2_with fail
    clear H0
    generalize (w.alloc _).alloc _ = W at H ⊢
    refine (set_any ⟨m, wi, t, d, true, o⟩ (wi + m) W).mono ?_
    rintro e w3 ⟨rfl, hb3⟩
    replace H := H.after hb3
    dsimp only
    rename_i hK
    refine hK _ _ ?_
    refine wpList_store_row (by rfl) 26 (.tmp 6) (.tmp 16) (by rfl) (w.heap.size + 1) (Ctl.cells (Ctl.set ⟨m, wi, t, d, true, o⟩ (wi + m))) (by rfl) (by rfl) 26 _ H.res infoC (by rfl) (ctl_one _) ?_
    replace H := H.rowRes (Ctl.set ⟨m, wi, t, d, true, o⟩ (wi + m))
    generalize w3.setRow (w.heap.size + 1) _ = W4 at H ⊢
    go_wp2_with fail
    exact ctl_ret2 rfl rfl H.res ⟨rfl, H.below⟩
  case false =>
    by_cases h3 : d + 1 = 3
    · obtain rfl : d = 2 := by omega
      clear H H0
      have H := two_new w ⟨m, wi, t, 3, false, o⟩
      obtain ⟨D, hD⟩ : ∃ D : Ctl, D = Ctl.lost ⟨m, wi, t, 3, false, o⟩ f next := ⟨_, rfl⟩
      have hsp : Ctl.dup ⟨m, wi, t, 2, false, o⟩ f next = (Ctl.set { D with recs := true } (D.thr + 3 * D.mss), true) := by rw [hD]; rfl
      have hDm : D.mss = m := by rw [hD]; rfl
      have hDt : -2147483648 ≤ D.thr ∧ D.thr ≤ 1073741824 := by rw [hD]; simp only [Ctl.lost]; omega
      rw [hsp]
      clear hsp
      have HD := hid hD
      clear hD
      unfold Ctl.v
      go_enter Try.func15, Try.ntmps15
      go_wp2_with fail
      generalize (w.alloc _).alloc _ = W at H ⊢
      refine (lost_any ⟨m, wi, t, 3, false, o⟩ f next W hm hf).mono ?_
      rintro e w3 ⟨rfl, hb3⟩
      rw [← HD.out]
      replace H := H.after hb3
      dsimp only
      rename_i hK
      refine hK _ _ ?_
      refine wpList_store_row (by rfl) 26 (.tmp 3) (.tmp 28) (by rfl) w.heap.size D.cells (by rfl) (by rfl) 26 _ H.own infoC (by rfl) (ctl_one _) ?_
      replace H := H.rowOwn D
      generalize w3.setRow w.heap.size _ = W4 at H ⊢
      obtain ⟨s0, s1, s2, s3, s4, s5, sz⟩ := H.mine
      have hm2 : 0 ≤ D.mss ∧ D.mss ≤ 65535 := by omega
      have w3 : IntKind.i64.wrap (3 * D.mss) = 3 * D.mss := IntWalk.i64_in _ (by omega)
      have w4 : IntKind.i64.wrap (D.thr + 3 * D.mss) = D.thr + 3 * D.mss := IntWalk.i64_in _ (by omega)
      clear hDm
      go_wp2_with fail
      refine (set_any { D with recs := true } (D.thr + 3 * D.mss) _).mono ?_
      rintro e w5 ⟨rfl, hb5⟩
      have H5 := (H.setOwn 4 (.bool true) { D with recs := true } rfl).after hb5
      dsimp only
      rename_i hK
      refine hK _ _ ?_
      refine wpList_store_row (by rfl) 26 (.tmp 6) (.tmp 37) (by rfl) (w.heap.size + 1) (Ctl.cells (Ctl.set { D with recs := true } (D.thr + 3 * D.mss))) (by rfl) (by rfl) 26 _ H5.res infoC (by rfl) (ctl_one _) ?_
      replace H5 := H5.rowRes (Ctl.set { D with recs := true } (D.thr + 3 * D.mss))
      generalize w5.setRow (w.heap.size + 1) _ = W6 at H5 ⊢
      go_wp2_with fail
      exact ctl_ret2 rfl rfl H5.res ⟨rfl, H5.below⟩
    · have hsp : Ctl.dup ⟨m, wi, t, d, false, o⟩ f next = (⟨m, wi, t, d + 1, false, o⟩, false) := by unfold Ctl.dup; simp [h3]
      rw [hsp]
      clear hsp
      unfold Ctl.v
      go_enter Try.func15, Try.ntmps15
      go_wp2_with fail
      exact ctl_ret2 (c := ⟨m, wi, t, d + 1, false, o⟩) rfl rfl (new2 w _ _) ⟨rfl, below2 w _ _⟩
end Go.Proofs.Ytkecfdngnbeinaa
