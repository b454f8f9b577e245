/- Walk: the bytes of a segment. Walk: the fields of a header. Walk: the fields of a header, read under Try. -/
import Derived.Test.YthnidgiogjehkaaSegA
namespace Go.Proofs.Ythnidgiogjehkaa
set_option linter.unusedVariables false
set_option linter.unusedSimpArgs false
set_option maxRecDepth 20000
open Go.RowKit

theorem put2_two (x y : Nat) (hx : x < 18446744073709551616) (hy : y < 18446744073709551616) : beL (clampN 2) [UInt64.ofNat x, UInt64.ofNat y] = beB 2 x ++ beB 2 y := by
  have h1 : (UInt64.ofNat x).toNat = x := by rw [UInt64.toNat_ofNat']; omega
  have h2 : (UInt64.ofNat y).toNat = y := by rw [UInt64.toNat_ofNat']; omega
  simp only [beL, List.flatMap_cons, List.flatMap_nil, List.append_nil, h1, h2]
  rfl
theorem put2_three (x y z : Nat) (hx : x < 18446744073709551616) (hy : y < 18446744073709551616) (hz : z < 18446744073709551616) : beL (clampN 2) [UInt64.ofNat x, UInt64.ofNat y, UInt64.ofNat z] = beB 2 x ++ (beB 2 y ++ beB 2 z) := by
  have h1 : (UInt64.ofNat x).toNat = x := by rw [UInt64.toNat_ofNat']; omega
  have h2 : (UInt64.ofNat y).toNat = y := by rw [UInt64.toNat_ofNat']; omega
  have h3 : (UInt64.ofNat z).toNat = z := by rw [UInt64.toNat_ofNat']; omega
  simp only [beL, List.flatMap_cons, List.flatMap_nil, List.append_nil, h1, h2, h3]
  rfl
theorem RN.litT {w : World} {b : Nat} {x y z : Nat} {T : TypeId} (h : w.heap[b]? = some (.cells #[.int .u64 (x : Int), .int .u64 (y : Int), .int .u64 (z : Int)] T (0, 0))) (hx : x < 18446744073709551616) (hy : y < 18446744073709551616) (hz : z < 18446744073709551616) : RN w (.slice (some ⟨b, 0, none⟩) 3 3) [UInt64.ofNat x, UInt64.ofNat y, UInt64.ofNat z] := by
  have h1 : (UInt64.ofNat x).toNat = x := by rw [UInt64.toNat_ofNat']; omega
  have h2 : (UInt64.ofNat y).toNat = y := by rw [UInt64.toNat_ofNat']; omega
  have h3 : (UInt64.ofNat z).toNat = z := by rw [UInt64.toNat_ofNat']; omega
  refine ⟨_, 3, rfl, rfl, Nat.le_refl _, by omega, fun k v hv => ⟨_, rfl, ?_⟩⟩
  have e : ((⟨b, 0, none⟩ : Addr).add k) = ⟨b, k, none⟩ := by
    unfold Addr.add
    split
    · rename_i h0; subst h0; rfl
    · simp
  rw [e, cellRow h k, ← hv]
  simp [by64, v64, h1, h2, h3]
theorem info_segX (s : SegM) (hm : s.o.mac.length = 12) : (Try.prog.info? 34).map (·.size) = some s.cells.size := by
  have : s.cells.size = 32 := by unfold SegM.cells; simp [s.o.size hm]
  rw [this]
  exact (by kernel_rfl : (Try.prog.info? 34).map (·.size) = some 32)
theorem layO_le (o : OptM) : (layO o).length ≤ 40 := by
  unfold layO
  split
  · rename_i h
    exact ((mayO_iff o).1 h).2.2.2
  · exact Nat.zero_le _
theorem mayG_mayO {s : SegM} (h : mayG s = true) : mayO s.o = true := by
  unfold mayG at h
  simp only [Bool.and_eq_true] at h
  exact h.1.1
theorem mayG_data {s : SegM} (h : mayG s = true) : s.data.length ≤ 16384 ∧ s.flags ≤ 63 := by
  unfold mayG at h
  simp only [Bool.and_eq_true, decide_eq_true_eq] at h
  exact ⟨h.2, h.1.2⟩
def LayGRes (B : Nat) (w : World) (a b : Adr) (s : SegM) (e : Ending) (w' : World) : Prop := ∃ A c, e = .returned (.tuple #[.slice A (layG a b s).length c, .int .i64 (layGE s : Int)]) ∧ OB w' B (.slice A (layG a b s).length c) (layG a b s) ∧ Below B w w'
theorem layG_no {B : Nat} {w w' : World} {a b : Adr} {s : SegM} (h : mayG s = false) (hb : Below B w w') : LayGRes B w a b s (.returned (.tuple #[.slice none 0 0, .int .i64 1])) w' := by
  have h1 : layG a b s = [] := by unfold layG; rw [h]; rfl
  have h2 : layGE s = 1 := by unfold layGE; rw [h]; rfl
  unfold LayGRes
  rw [h1, h2]
  exact ⟨none, 0, rfl, OB.nil _ _, hb⟩
theorem layG_yes {B : Nat} {w w' : World} {a b : Adr} {s : SegM} {A : Option Addr} {c : Nat} {l : List UInt8} (h : mayG s = true) (hl : bytesG s (ckG a b s) = l) (ho : OB w' B (.slice A l.length c) l) (hb : Below B w w') : LayGRes B w a b s (.returned (.tuple #[.slice A l.length c, .int .i64 0])) w' := by
  have h1 : layG a b s = l := by unfold layG; rw [if_pos h, hl]
  have h2 : layGE s = 0 := by unfold layGE; rw [if_pos h]
  unfold LayGRes
  rw [h1, h2]
  exact ⟨A, c, rfl, ho, hb⟩
set_option maxHeartbeats 8000000 in
theorem layG_any (a b : Adr) (s : SegM) (w : World) (hs : SegOk w s) (hsl : s.o.sacks.length ≤ 1000) :
    Calls Try.prog 11 #[.agg a.cells, .agg b.cells, .agg s.cells] w (LayGRes w.heap.size w a b s) := by
  have HM := hid (fun W (h : Below w.heap.size w W) => mayG_any s W (hs.below h) hsl)
  have HOL := hid (fun W (h : Below w.heap.size w W) => lay_any s.o W (hs.o.below h) hsl)
  have HOC := hid (fun (W : World) (g : Nat) (h : W.heap[g]? = some (.cells s.cells 34 (0, 0))) => seg_cells h hs.o.mac)
  have HOO := hid (fun (W : World) (g : Nat) (h : W.heap[g]? = some (.cells s.cells 34 (0, 0))) => seg_optsX h)
  have HI := hid (info_optsX s.o hs.o.mac)
  have HIS := hid (info_segX s hs.o.mac)
  have HD := hid (fun W (h : Below w.heap.size w W) => hs.data.below h)
  have hsrc := hs.src
  have hdst := hs.dst
  have hseq := hs.seq
  have hack := hs.ack
  have hwin := hs.win
  have hurg := hs.urg
  obtain ⟨F, hF⟩ : ∃ F : UInt8, F = UInt8.ofNat s.flags := ⟨_, rfl⟩
  have hFn : F.toNat = s.flags := by rw [hF, UInt8.toNat_ofNat']; have := hs.flags; omega
  have hlo := layO_le s.o
  obtain ⟨K, hK⟩ : ∃ K : UInt8, K = UInt8.ofNat ((20 + (layO s.o).length) * 4) := ⟨_, rfl⟩
  have hKn : K.toNat = (20 + (layO s.o).length) * 4 := by rw [hK, UInt8.toNat_ofNat']; omega
  have HKF : Hid (#[Value.int .u8 ((20 + ((layO s.o).length : Int)) * 4), .int .u8 (s.flags : Int)] = (by8 [K, F]).toArray) := hid (by simp only [by8, u8, List.map_cons, List.map_nil, hKn, hFn]; rw [Int.natCast_mul, Int.natCast_add]; rfl)
  have HW : Hid (wordG s = [K, F]) := hid (by unfold wordG; rw [hK, hF])
  obtain ⟨x1, hx1⟩ : ∃ x, beB 2 s.src ++ beB 2 s.dst = x := ⟨_, rfl⟩
  obtain ⟨x3, hx3⟩ : ∃ x, fixG s ++ [K, F] = x := ⟨_, rfl⟩
  obtain ⟨x4, hx4⟩ : ∃ x, x3 ++ (beB 2 s.win ++ (beB 2 0 ++ beB 2 s.urg)) = x := ⟨_, rfl⟩
  obtain ⟨x5, hx5⟩ : ∃ x, x4 ++ layO s.o = x := ⟨_, rfl⟩
  have HZ1 := hid (show ([] : List UInt8) ++ beL (clampN 2) [UInt64.ofNat s.src, UInt64.ofNat s.dst] = x1 by rw [put2_two _ _ (by omega) (by omega), ← hx1]; rfl)
  have HZ2 := hid (show x1 ++ beL (clampN 4) [UInt64.ofNat s.seq, UInt64.ofNat s.ack] = fixG s by rw [put4_two _ _ (by omega) (by omega), ← hx1]; rfl)
  have HZ3 := hid hx3
  have HZ4 := hid (show x3 ++ beL (clampN 2) [UInt64.ofNat s.win, UInt64.ofNat 0, UInt64.ofNat s.urg] = x4 by rw [put2_three _ _ _ (by omega) (by omega) (by omega), hx4])
  have HZ5 := hid hx5
  have HZ6 := hid (show x5 ++ s.data = bytesG s 0 by rw [← hx5, ← hx4, ← hx3]; unfold bytesG; rw [HW.out])
  have y1 : x1.length = 4 := by rw [← hx1]; simp [beB_length]
  have y3 : x3.length = 14 := by rw [← hx3]; simp [fixG_len]
  have y4 : x4.length = 20 := by rw [← hx4]; simp [beB_length, y3]
  have y5 : x5.length = 20 + (layO s.o).length := by rw [← hx5]; simp [y4]
  have Y1 := hid y1
  have Y3 := hid y3
  have Y4 := hid y4
  have Y5 := hid y5
  have Y2 := hid (fixG_len s)
  clear hx1 hx3 hx4 hx5 y1 y3 y4 y5
  have HL := hid (bytesG_len s 0)
  have HCV := hid (ckG_val a b s)
  have HCL := hid (ckG_le a b s)
  have HST := hid (bytesG_set s (ckG a b s))
  have HE := hid (show mayG s = true → layE s.o = 0 ∧ s.data.length ≤ 16384 from fun h => ⟨by unfold layE; rw [if_pos (mayG_mayO h)], (mayG_data h).1⟩)
  have HNO := hid (fun (h : mayG s = false) (W : World) (hb : Below w.heap.size w W) => layG_no (a := a) (b := b) h hb)
  have HYES := hid (fun (h : mayG s = true) (W : World) (A : Option Addr) (c : Nat) (l : List UInt8) (hl : bytesG s (ckG a b s) = l) (ho : OB W w.heap.size (.slice A l.length c) l) (hb : Below w.heap.size w W) => layG_yes (a := a) (b := b) h hl ho hb)
  clear hF hK hs hKn hFn
  obtain ⟨t, ht⟩ : ∃ t, mayG s = t := ⟨_, rfl⟩
  rw [ht] at HM
  generalize hco : s.o.cells = co at HOO HI HOL
  generalize hcs : s.cells = cs at HOC HOO HIS HM ⊢
  clear hco hcs
  obtain ⟨B, hB⟩ : ∃ B, w.heap.size = B := ⟨_, rfl⟩
  rw [hB] at HM HOL HD HNO HYES ⊢
  have HB := hid hB
  clear hB
  go_enter Try.func11, Try.ntmps11
  go_wp2_with (first
    | ((with_reducible refine at_slot 3 ?_); refine wpList_boxF rfl 24 (.tmp 0) rfl a.cells rfl ?_; intro w1 ha1 hb1 hz1; rw [HB.out] at ha1 hb1 hz1 ⊢)
    | ((with_reducible refine at_slot 4 ?_); refine wpList_boxF rfl 24 (.tmp 1) rfl b.cells rfl ?_; intro w2 ha2 hb2 hz2; rw [hz1] at ha2 hb2 hz2 ⊢)
    | ((with_reducible refine at_slot 5 ?_); refine wpList_boxF rfl 34 (.tmp 2) rfl cs rfl ?_; intro w3 hx3 hb3 hz3; rw [hz2] at hx3 hb3 hz3 ⊢; (have hA3 := (hb3.block B (by omega)).trans ((hb2.block B (by omega)).trans ha1)); (have hC3 := (hb3.block (B + 1) (by omega)).trans ha2); (have HB3 := hid (hb1.trans ((hb2.mono (by omega)).trans (hb3.mono (by omega))))); clear ha1 ha2 hb1 hb2 hb3 hz1 hz2)
    | ((with_reducible refine at_slot 12 ?_); refine wpList_load_row rfl 34 (.tmp 5) rfl (B + 1 + 1) rfl 34 cs _ _ hx3 Try.underlying34 rfl HIS.out ?_))
  (with_reducible refine Calls.mono (HM.out _ HB3.out) ?_)
  rintro e w4 ⟨rfl, hb4⟩
  have HA4 := hid ((hb4.block B (by omega)).trans hA3)
  have HC4 := hid ((hb4.block (B + 1) (by omega)).trans hC3)
  have HX4 := hid ((hb4.block _ (by omega)).trans hx3)
  have HB4 := hid (HB3.out.trans (hb4.mono (by omega)))
  have hz4 : B + 1 + 1 + 1 ≤ w4.heap.size := Nat.le_trans (Nat.le_of_eq hz3.symm) hb4.size
  clear hb4 hA3 hC3 hx3 hz3 HB3 HM
  cases t
  · go_wp2_with fail
    go_ret2
    exact HNO.out ht _ HB4.out
  · obtain ⟨e3, e4⟩ := HE.out ht
    go_wp2_with (first
      | ((with_reducible refine at_slot 17 ?_); refine wpList_load_at 31 (.tmp 16) rfl rfl ⟨B + 1 + 1, 7, none⟩ rfl co _ (HOO.out _ _ HX4.out) Try.underlying31 rfl HI.out ?_))
    (with_reducible refine Calls.mono (HOL.out _ HB4.out) ?_)
    rintro e w5 ⟨A5, c5, rfl, ho5, hb5⟩
    rw [e3]
    have hA5 := (hb5.block B (by omega)).trans HA4.out
    have hC5 := (hb5.block (B + 1) (by omega)).trans HC4.out
    have hX5 := (hb5.block _ (by omega)).trans HX4.out
    have hB5 := HB4.out.trans (hb5.mono (by omega))
    have hz5 : B + 1 + 1 + 1 ≤ w5.heap.size := Nat.le_trans hz4 hb5.size
    have hO5 := ho5.rb
    have HF := hid (fun W (h : Below w5.heap.size w5 W) => (⟨(h.block B (by omega)).trans hA5, (h.block (B + 1) (by omega)).trans hC5, (h.block _ (by omega)).trans hX5, hO5.below h, hB5.trans (h.mono (by omega)), Nat.le_trans hz5 h.size⟩ : _ ∧ _ ∧ _ ∧ _ ∧ _ ∧ _))
    have HG5 := hid (Below.refl w5.heap.size w5)
    clear hb5 hz4 HA4 HC4 HX4 HB4 HOL HE HNO ho5 e3 hA5 hC5 hX5 hB5 hO5
    generalize layO s.o = ol at *
    generalize bytesG s (ckG a b s) = LF at *
    generalize bytesG s 0 = L0 at *
    generalize fixG s = fx at *
    obtain ⟨f0, f1, f2, f3, f4, f5, f6, f7⟩ := HOC.out _ _ (HF.out _ HG5.out).2.2.1
    go_wp2_with fail
    have hr1 := RN.lit2 (nw1 w5 (.cells #[.int .u64 (s.src : Int), .int .u64 (s.dst : Int)] 60)) (by omega) (by omega)
    have hb1 := bl1 w5 (.cells #[.int .u64 (s.src : Int), .int .u64 (s.dst : Int)] 60)
    (with_reducible refine Calls.mono (put_any _ _ [] 2 [UInt64.ofNat s.src, UInt64.ofNat s.dst] _ (RB.nil _) hr1 (by omega) (by omega) (by simp)) ?_)
    rw [HZ1.out]
    rintro e w6 ⟨A6, c6, rfl, ho6, hb6⟩
    have hbb := hb1.trans (hb6.mono hb1.size)
    have HQ6 := hid (ho6.lower (base' := w5.heap.size) (by have := hb1.size; have := HG5.out.size; omega))
    have HG6 := hid (below_after HG5.out hbb (Nat.le_refl _))
    clear f0 f1 f2 f3 f4 f5 f6 f7 hr1 hb1 hb6 hbb ho6 HG5
    obtain ⟨f0, f1, f2, f3, f4, f5, f6, f7⟩ := HOC.out _ _ (HF.out _ HG6.out).2.2.1
    go_wp2_with fail
    have hr1 := RN.lit2 (nw1 w6 (.cells #[.int .u64 (s.seq : Int), .int .u64 (s.ack : Int)] 60)) (by omega) (by omega)
    have hb1 := bl1 w6 (.cells #[.int .u64 (s.seq : Int), .int .u64 (s.ack : Int)] 60)
    (with_reducible refine Calls.mono (put_any _ _ x1 4 [UInt64.ofNat s.seq, UInt64.ofNat s.ack] _ (HQ6.out.rb.below hb1) hr1 (by omega) (by omega) (by rw [Y1.out]; simp)) ?_)
    rw [HZ2.out]
    rintro e w7 ⟨A7, c7, rfl, ho7, hb7⟩
    have hbb := hb1.trans (hb7.mono hb1.size)
    have HQ7 := hid (ho7.lower (base' := w5.heap.size) (by have := hb1.size; have := HG6.out.size; omega))
    have HG7 := hid (below_after HG6.out hbb (Nat.le_refl _))
    clear f0 f1 f2 f3 f4 f5 f6 f7 hr1 hb1 hb7 hbb ho7 HG6 HQ6
    obtain ⟨f0, f1, f2, f3, f4, f5, f6, f7⟩ := HOC.out _ _ (HF.out _ HG7.out).2.2.1
    have hb7 := bl1 w7 (.cells #[.int .u8 ((20 + (ol.length : Int)) * 4), .int .u8 (s.flags : Int)] 5)
    have hs7 := HG7.out.size
    go_upto_region 9 with (at_builtin; refine append_u8 (.tmp 41) (.tmp 49) w5.heap.size fx [K, F] x3 HZ3.out rfl rfl rfl rfl (HQ7.out.below hb7) (RB.new w7 _ [K, F] _ _ 2 rfl rfl (by omega) HKF.out) (by rw [Y2.out]; simp) (by simp; omega) ?_; intro A8 c8 w8 ho8 hb8 _ _)
    have HQ8 := hid ho8
    have HG8 := hid (HG7.out.trans ((hb7.mono hs7).trans hb8))
    clear f0 f1 f2 f3 f4 f5 f6 f7 ho8 hb8 hb7 hs7 HG7 HQ7
    obtain ⟨f0, f1, f2, f3, f4, f5, f6, f7⟩ := HOC.out _ _ (HF.out _ HG8.out).2.2.1
    go_wp2_with fail
    have hr1 := RN.litT (x := s.win) (y := 0) (z := s.urg) (nw1 w8 (.cells #[.int .u64 (s.win : Int), .int .u64 (0 : Int), .int .u64 (s.urg : Int)] 60)) (by omega) (by omega) (by omega)
    have hb1 := bl1 w8 (.cells #[.int .u64 (s.win : Int), .int .u64 (0 : Int), .int .u64 (s.urg : Int)] 60)
    (with_reducible refine Calls.mono (put_any _ _ x3 2 [UInt64.ofNat s.win, UInt64.ofNat 0, UInt64.ofNat s.urg] _ (HQ8.out.rb.below hb1) hr1 (by omega) (by omega) (by rw [Y3.out]; simp)) ?_)
    rw [HZ4.out]
    rintro e w9 ⟨A9, c9, rfl, ho9, hb9⟩
    have hbb := hb1.trans (hb9.mono hb1.size)
    have HQ9 := hid (ho9.lower (base' := w5.heap.size) (by have := hb1.size; have := HG8.out.size; omega))
    have HG9 := hid (below_after HG8.out hbb (Nat.le_refl _))
    clear f0 f1 f2 f3 f4 f5 f6 f7 hr1 hb1 hb9 hbb ho9 HG8 HQ8
    obtain ⟨f0, f1, f2, f3, f4, f5, f6, f7⟩ := HOC.out _ _ (HF.out _ HG9.out).2.2.1
    clear f0 f1 f2 f3 f4 f5 f6 f7
    go_upto_region 10 with fail
    refine wp_region_hand (fun W => W.heap[B + 1 + 1]? = some (.cells cs 34 (0, 0))) (by kernel_rfl) ((HF.out _ HG9.out).2.2.1) ?_
    intro hS
    have HG := hid (below_drewN HG9.out 1)
    have HQ := hid (OB.drewN HQ9.out 1)
    change Hid (Below _ _ ({ w9 with drawn := w9.drawn + 1 } : World)) at HG
    change Hid (OB ({ w9 with drawn := w9.drawn + 1 } : World) _ _ _) at HQ
    clear HG9 HQ9
    generalize ({ w9 with drawn := w9.drawn + 1 } : World) = u at HG HQ hS ⊢
    refine wpAnyH_take (i := 0) (oi := ⟨some 60, _, _, _, _, _⟩) (v := ?_) rfl (by kernel_rfl) (by kernel_rfl) (by kernel_rfl) (fun _ _ _ h => h) (Or.inl ⟨by rfl, ?_⟩) hS ?_
    rotate_left 1
    focus ((intro W' hS'; go_simp) <;> with_reducible rfl)
    try simp only [Act.put, List.setIfInBounds_toArray, List.set_cons_zero, List.set_cons_succ]
    refine wpAnyH_take (i := 1) (oi := ⟨some 61, _, _, _, _, _⟩) (v := ?_) rfl (by kernel_rfl) (by kernel_rfl) (by kernel_rfl) (fun _ _ _ h => h) (Or.inl ⟨by rfl, ?_⟩) hS ?_
    rotate_left 1
    focus ((intro W' hS'; go_simp) <;> with_reducible rfl)
    try simp only [Act.put, List.setIfInBounds_toArray, List.set_cons_zero, List.set_cons_succ]
    refine wpAnyH_take (i := 3) (oi := ⟨some 63, _, _, _, _, _⟩) (v := ?_) rfl (by kernel_rfl) (by kernel_rfl) (by kernel_rfl) (fun _ _ _ h => h) (Or.inl ⟨by rfl, ?_⟩) hS ?_
    rotate_left 1
    focus ((intro W' hS'; go_simp) <;> with_reducible rfl)
    try simp only [Act.put, List.setIfInBounds_toArray, List.set_cons_zero, List.set_cons_succ]
    refine wpAnyH_take (i := 4) (oi := ⟨some 64, _, _, _, _, _⟩) (v := ?_) rfl (by kernel_rfl) (by kernel_rfl) (by kernel_rfl) (fun _ _ _ h => h) (Or.inl ⟨by rfl, ?_⟩) hS ?_
    rotate_left 1
    focus ((intro W' hS'; have x7 := (HOC.out _ _ hS').2.2.2.2.2.2.2; go_simp) <;> with_reducible rfl)
    try simp only [Act.put, List.setIfInBounds_toArray, List.set_cons_zero, List.set_cons_succ]
    refine anyH_one (i := 2) (by kernel_rfl) ⟨some 62, _, _, _, _, _⟩ rfl (by rfl) ?_
    refine wp_append8 (.tmp 60) (.tmp 61) w5.heap.size x4 ol x5 HZ5.out rfl rfl rfl rfl HQ.out (HF.out _ HG.out).2.2.2.1 (by rw [Y4.out]; omega) HG.out.size ?_
    intro A10 c10 u2 ho hb
    have HQ2 := hid ho
    have HG2 := hid (HG.out.trans hb)
    clear ho hb
    have hS := (HF.out _ HG2.out).2.2.1
    refine ⟨hS, ?_⟩
    try simp only [Act.put, List.setIfInBounds_toArray, List.set_cons_zero, List.set_cons_succ]
    refine anyH_one (i := 5) (by kernel_rfl) ⟨some 65, _, _, _, _, _⟩ rfl (by rfl) ?_
    refine wp_append8 (.tmp 62) (.tmp 64) w5.heap.size x5 s.data L0 HZ6.out rfl rfl rfl rfl HQ2.out (HD.out _ (HF.out _ HG2.out).2.2.2.2.1) (by rw [Y5.out]; omega) HG2.out.size ?_
    intro A11 c11 u3 ho hb
    have HQ3 := hid ho
    have HG3 := hid (HG2.out.trans hb)
    clear ho hb
    have hS := (HF.out _ HG3.out).2.2.1
    refine ⟨hS, ?_⟩
    try simp only [Act.put, List.setIfInBounds_toArray, List.set_cons_zero, List.set_cons_succ]
    refine wpAnyH_take (i := 6) (oi := ⟨some 10, _, _, _, _, _⟩) (v := ?_) rfl (by kernel_rfl) (by kernel_rfl) (by kernel_rfl) (fun _ _ _ h => h) (Or.inl ⟨by rfl, ?_⟩) hS ?_
    rotate_left 1
    focus ((intro W' hS'; go_simp) <;> with_reducible rfl)
    try simp only [Act.put, List.setIfInBounds_toArray, List.set_cons_zero, List.set_cons_succ]
    refine wpAnyH_done (by kernel_rfl) ?_ _
    have F3 := HF.out _ HG3.out
    have hA := F3.1
    have hC := F3.2.1
    have e9 : 65535 - foldS (wtot [pseudoS a b 6 L0.length, L0]) = ((ckG a b s : Nat) : Int) := HCV.out.symm
    have HLD := hid (load_any a b 6 (.slice A11 L0.length c11) L0 u3 HQ3.out.rb (by have := HL.out; omega))
    rw [e9, show (((6 : UInt8).toNat : Nat) : Int) = 6 from rfl] at HLD
    have hck := HCL.out
    generalize ckG a b s = ck at *
    clear e9 hS
    go_wp2_with (first
      | ((with_reducible refine at_slot 66 ?_); refine wpList_load_row rfl 24 (.tmp 3) rfl B rfl 24 a.cells (0, 0) _ hA Try.underlying24 rfl (info_addr a) ?_)
      | ((with_reducible refine at_slot 67 ?_); refine wpList_load_row rfl 24 (.tmp 4) rfl (B + 1) rfl 24 b.cells (0, 0) _ hC Try.underlying24 rfl (info_addr b) ?_))
    (with_reducible refine Calls.mono HLD.out ?_)
    rintro e u4 ⟨rfl, hb4⟩
    have ho4 := HQ3.out.below hb4
    have hL0 : L0.length = 20 + ol.length + s.data.length := HL.out
    have HB9 := hid (F3.2.2.2.2.1.trans (hb4.mono (by have := HG3.out.size; omega)))
    obtain ⟨g, rfl, hg1, hg2, _⟩ := ho4.blk (by omega)
    obtain ⟨hi, hhi⟩ : ∃ x : UInt8, UInt8.ofNat (ck / 256) = x := ⟨_, rfl⟩
    obtain ⟨lo, hlo'⟩ : ∃ x : UInt8, UInt8.ofNat ck = x := ⟨_, rfl⟩
    have v1 : (ck : Int) / 256 = (hi.toNat : Int) := by rw [← hhi, UInt8.toNat_ofNat']; omega
    have v2 : (ck : Int) % 256 = (lo.toNat : Int) := by rw [← hlo', UInt8.toNat_ofNat']; omega
    have HST2 := hid (show (L0.set 16 hi).set 17 lo = LF by rw [← hhi, ← hlo']; exact HST.out)
    obtain ⟨s1, s2, s3⟩ := ho4.store 16 (by omega)
    have ho5 := s3 hi _ rfl
    obtain ⟨s4, s5, s6⟩ := ho5.store 17 (by rw [List.length_set]; omega)
    have HQ6 := hid (s6 lo _ rfl)
    have i16 : (16 : Int) < (L0.length : Int) := by omega
    have i17 : (17 : Int) < (L0.length : Int) := by omega
    have hbz : B ≤ g := by omega
    clear hhi hlo' hb4 s3 s6 ho5 ho4 HLD F3 hA hC hL0
    go_wp2_with fail
    have HB10 := hid ((HB9.out.setCell (p := ⟨g, 16, none⟩) hbz (.int .u8 (hi.toNat : Int))).setCell (p := ⟨g, 17, none⟩) hbz (.int .u8 (lo.toNat : Int)))
    go_ret2
    have hz9 := HQ6.out
    rw [HST2.out] at hz9
    have hll : L0.length = LF.length := by rw [← HST2.out]; simp
    rw [hll] at hz9 ⊢
    exact HYES.out ht _ _ _ LF rfl (hz9.lower (by omega)) HB10.out
end Go.Proofs.Ythnidgiogjehkaa
namespace Go.Proofs.Ythnidgiogjehkaa
set_option linter.unusedVariables false
set_option linter.unusedSimpArgs false
set_option maxRecDepth 20000
open Go.RowKit

theorem SegM.cons (s : SegM) : s.cells = (.int .u16 (s.src : Int) :: .int .u16 (s.dst : Int) :: .int .u32 (s.seq : Int) :: .int .u32 (s.ack : Int) :: .int .u8 (s.flags : Int) :: .int .u16 (s.win : Int) :: .int .u16 (s.urg : Int) :: (s.o.cells.toList ++ [.slice s.D s.data.length s.dc])).toArray := by
  unfold SegM.cells
  apply Array.toList_inj.1
  simp
theorem SegM.set_src (s : SegM) (v : Nat) : s.cells.setIfInBounds 0 (.int .u16 (v : Int)) = ({ s with src := v } : SegM).cells := by
  rw [SegM.cons, SegM.cons, List.setIfInBounds_toArray]
  rfl
theorem SegM.set_dst (s : SegM) (v : Nat) : s.cells.setIfInBounds 1 (.int .u16 (v : Int)) = ({ s with dst := v } : SegM).cells := by
  rw [SegM.cons, SegM.cons, List.setIfInBounds_toArray]
  rfl
theorem SegM.set_seq (s : SegM) (v : Nat) : s.cells.setIfInBounds 2 (.int .u32 (v : Int)) = ({ s with seq := v } : SegM).cells := by
  rw [SegM.cons, SegM.cons, List.setIfInBounds_toArray]
  rfl
theorem SegM.set_ack (s : SegM) (v : Nat) : s.cells.setIfInBounds 3 (.int .u32 (v : Int)) = ({ s with ack := v } : SegM).cells := by
  rw [SegM.cons, SegM.cons, List.setIfInBounds_toArray]
  rfl
theorem SegM.set_flags (s : SegM) (v : Nat) : s.cells.setIfInBounds 4 (.int .u8 (v : Int)) = ({ s with flags := v } : SegM).cells := by
  rw [SegM.cons, SegM.cons, List.setIfInBounds_toArray]
  rfl
theorem SegM.set_win (s : SegM) (v : Nat) : s.cells.setIfInBounds 5 (.int .u16 (v : Int)) = ({ s with win := v } : SegM).cells := by
  rw [SegM.cons, SegM.cons, List.setIfInBounds_toArray]
  rfl
theorem SegM.set_urg (s : SegM) (v : Nat) : s.cells.setIfInBounds 6 (.int .u16 (v : Int)) = ({ s with urg := v } : SegM).cells := by
  rw [SegM.cons, SegM.cons, List.setIfInBounds_toArray]
  rfl
theorem numW (g d : Nat) (xs : List UInt8) (k v : Nat) (hv : be (xs.take k) = v) (hk0 : 0 < k) (hk8 : k ≤ 8) (hk : k ≤ xs.length) (w : World) (h : RdrD w g d xs) :
    Calls Try.prog 68 #[.pointer (some ⟨g, 0, none⟩), .int .i64 (k : Int)] w fun e w' => e = .returned (.int .u64 (v : Int)) ∧ RdrD w' g d (xs.drop k) ∧ Mod [g] w w' := by
  subst hv
  refine (numD g d xs k hk0 hk8 hk w h).mono ?_
  rintro e w' ⟨rfl, h1, h2, _⟩
  exact ⟨by rw [getS_take xs k hk8], h1, h2⟩
/-- Where the fields' closure stands: its reader, and its segment. -/
structure FSt (w : World) (pr ps g d : Nat) (m : SegM) (xs : List UInt8) : Prop where
  hr : w.heap[pr]? = some (.cells #[.pointer (some ⟨g, 0, none⟩)] 94 (0, 0))
  hp : w.heap[ps]? = some (.cells m.cells 34 (0, 0))
  rd : RdrD w g d xs
  n1 : pr ≠ g
  n2 : ps ≠ g
  n3 : pr ≠ ps
  n4 : d ≠ ps
theorem FSt.read {w w' : World} {pr ps g d : Nat} {m : SegM} {xs ys : List UInt8} (h : FSt w pr ps g d m xs) (h1 : RdrD w' g d ys) (hm : Mod [g] w w') : FSt w' pr ps g d m ys :=
  ⟨hm.keeps h.hr (by simpa using h.n1), hm.keeps h.hp (by simpa using h.n2), h1, h.n1, h.n2, h.n3, h.n4⟩
theorem FSt.put {w : World} {pr ps g d : Nat} {m m' : SegM} {xs : List UInt8} (h : FSt w pr ps g d m xs) (k : Nat) (v : Value) (hv : m.cells.setIfInBounds k v = m'.cells) : FSt (w.setCell ⟨ps, k, none⟩ v) pr ps g d m' xs :=
  ⟨(rowSetCell_far h.n3.symm k v).trans h.hr, by rw [← hv]; exact rowSetCell h.hp k v, h.rd.mod (Mod.setCell (M := [ps]) ps k v (by simp)) (by simpa using h.n2.symm) (by simpa using h.n4), h.n1, h.n2, h.n3, h.n4⟩
theorem FSt.drewN {w : World} {pr ps g d : Nat} {m : SegM} {xs : List UInt8} (h : FSt w pr ps g d m xs) (k : Nat) : FSt (w.drewN k) pr ps g d m xs := ⟨h.hr, h.hp, h.rd.below (below_drewN (Below.refl _ _) k), h.n1, h.n2, h.n3, h.n4⟩
def fldG (xs : List UInt8) : SegM := ⟨be (xs.take 2), be ((xs.drop 2).take 2), be ((xs.drop 4).take 4), be ((xs.drop 8).take 4), (xs.getD 13 0).toNat % 64, be ((xs.drop 14).take 2), be ((xs.drop 18).take 2), noOpt, none, 0, []⟩
theorem be_tk (xs : List UInt8) (k : Nat) : be (xs.take k) < 256 ^ k := be_take_lt xs k
theorem and63 (n : Nat) (h : n < 256) : bits .and .u8 (n : Int) 63 = ((n % 64 : Nat) : Int) := by
  have : ∀ m : Fin 256, bits .and .u8 ((m.val : Nat) : Int) 63 = ((m.val % 64 : Nat) : Int) := by decide +kernel
  exact this ⟨n, h⟩
theorem take_one_be (xs : List UInt8) (h : 0 < xs.length) : be (xs.take 1) = (xs.getD 0 0).toNat := by
  cases xs with
  | nil => simp at h
  | cons x xs => simp [be]
set_option maxHeartbeats 4000000 in
theorem fieldsClo_any (pr ps g d : Nat) (xs : List UInt8) (w : World) (h : FSt w pr ps g d noSegG xs) (hl : 20 ≤ xs.length) :
    Calls Try.prog 67 #[.pointer (some ⟨pr, 0, none⟩), .pointer (some ⟨ps, 0, none⟩)] w fun e w' => e = .returned (.tuple #[]) ∧ w'.heap[ps]? = some (.cells (fldG xs).cells 34 (0, 0)) ∧ Mod [g, ps] w w' := by
  obtain ⟨v0, h0⟩ : ∃ v, be (xs.take 2) = v := ⟨_, rfl⟩
  obtain ⟨v1, h1⟩ : ∃ v, be ((xs.drop 2).take 2) = v := ⟨_, rfl⟩
  obtain ⟨v2, h2⟩ : ∃ v, be ((xs.drop 4).take 4) = v := ⟨_, rfl⟩
  obtain ⟨v3, h3⟩ : ∃ v, be ((xs.drop 8).take 4) = v := ⟨_, rfl⟩
  obtain ⟨vx, hx⟩ : ∃ v, be ((xs.drop 12).take 1) = v := ⟨_, rfl⟩
  obtain ⟨vf, hf⟩ : ∃ v, be ((xs.drop 13).take 1) = v := ⟨_, rfl⟩
  obtain ⟨v5, h5⟩ : ∃ v, be ((xs.drop 14).take 2) = v := ⟨_, rfl⟩
  obtain ⟨vy, hy⟩ : ∃ v, be ((xs.drop 16).take 2) = v := ⟨_, rfl⟩
  obtain ⟨v6, h6⟩ : ∃ v, be ((xs.drop 18).take 2) = v := ⟨_, rfl⟩
  have b0 : v0 < 65536 := by rw [← h0]; exact be_tk _ 2
  have b1 : v1 < 65536 := by rw [← h1]; exact be_tk _ 2
  have b2 : v2 < 4294967296 := by rw [← h2]; exact be_tk _ 4
  have b3 : v3 < 4294967296 := by rw [← h3]; exact be_tk _ 4
  have bf : vf < 256 := by rw [← hf]; exact be_tk _ 1
  have b5 : v5 < 65536 := by rw [← h5]; exact be_tk _ 2
  have b6 : v6 < 65536 := by rw [← h6]; exact be_tk _ 2
  have w0 : IntKind.u16.wrap (v0 : Int) = (v0 : Int) := by rw [IntKind.wrap_u16]; omega
  have w1 : IntKind.u16.wrap (v1 : Int) = (v1 : Int) := by rw [IntKind.wrap_u16]; omega
  have w2 : IntKind.u32.wrap (v2 : Int) = (v2 : Int) := by rw [IntKind.wrap_u32]; omega
  have w3 : IntKind.u32.wrap (v3 : Int) = (v3 : Int) := by rw [IntKind.wrap_u32]; omega
  have hff : (xs.getD 13 0).toNat = vf := by
    rw [← hf, take_one_be _ (by rw [List.length_drop]; omega)]
    simp [List.getD_eq_getElem?_getD]
  have hfl := and63 vf bf
  have HFG := hid (show fldG xs = ⟨v0, v1, v2, v3, vf % 64, v5, v6, noOpt, none, 0, []⟩ by unfold fldG; rw [h0, h1, h2, h3, h5, h6, hff])
  obtain ⟨fl, hfl'⟩ : ∃ x, vf % 64 = x := ⟨_, rfl⟩
  rw [hfl'] at hfl HFG
  have HMAC : Hid (noOpt.mac.length = 12) := hid rfl
  have H0 := hid h
  have HM0 := hid (Mod.refl [g, ps] w)
  have N0 := hid (fun W (h : RdrD W g d xs) => numW g d xs 2 v0 h0 (by omega) (by omega) (by omega) W h)
  have N1 := hid (fun W (h : RdrD W g d (xs.drop 2)) => numW g d (xs.drop 2) 2 v1 h1 (by omega) (by omega) (by rw [List.length_drop]; omega) W h)
  have N2 := hid (fun W (h : RdrD W g d (xs.drop 4)) => numW g d (xs.drop 4) 4 v2 h2 (by omega) (by omega) (by rw [List.length_drop]; omega) W h)
  have N3 := hid (fun W (h : RdrD W g d (xs.drop 8)) => numW g d (xs.drop 8) 4 v3 h3 (by omega) (by omega) (by rw [List.length_drop]; omega) W h)
  have NX := hid (fun W (h : RdrD W g d (xs.drop 12)) => numW g d (xs.drop 12) 1 vx hx (by omega) (by omega) (by rw [List.length_drop]; omega) W h)
  have NF := hid (fun W (h : RdrD W g d (xs.drop 13)) => numW g d (xs.drop 13) 1 vf hf (by omega) (by omega) (by rw [List.length_drop]; omega) W h)
  have N5 := hid (fun W (h : RdrD W g d (xs.drop 14)) => numW g d (xs.drop 14) 2 v5 h5 (by omega) (by omega) (by rw [List.length_drop]; omega) W h)
  have NY := hid (fun W (h : RdrD W g d (xs.drop 16)) => numW g d (xs.drop 16) 2 vy hy (by omega) (by omega) (by rw [List.length_drop]; omega) W h)
  have N6 := hid (fun W (h : RdrD W g d (xs.drop 18)) => numW g d (xs.drop 18) 2 v6 h6 (by omega) (by omega) (by rw [List.length_drop]; omega) W h)
  have D0 := hid (show (xs.drop 2).drop 2 = xs.drop 4 ∧ (xs.drop 4).drop 4 = xs.drop 8 ∧ (xs.drop 8).drop 4 = xs.drop 12 ∧ (xs.drop 12).drop 1 = xs.drop 13 ∧ (xs.drop 13).drop 1 = xs.drop 14 ∧ (xs.drop 14).drop 2 = xs.drop 16 ∧ (xs.drop 16).drop 2 = xs.drop 18 by refine ⟨?_, ?_, ?_, ?_, ?_, ?_, ?_⟩ <;> rw [List.drop_drop])
  clear h h0 h1 h2 h3 hx hf h5 hy h6 hff hfl'
  go_enter Try.func67, Try.ntmps67
  go_upto_region 0 with fail
  refine wp_region_hand (fun W => W.heap[pr]? = some (.cells #[.pointer (some ⟨g, 0, none⟩)] 94 (0, 0))) (by kernel_rfl) (H0.out.hr) ?_
  intro hS
  have H := hid (H0.out.drewN 1)
  have HM := hid (HM0.out.trans (Mod.drewN (M := [g, ps]) 1))
  change Hid (FSt ({ w with drawn := w.drawn + 1 } : World) _ _ _ _ _ _) at H
  change Hid (Mod _ _ ({ w with drawn := w.drawn + 1 } : World)) at HM
  clear H0 HM0
  generalize ({ w with drawn := w.drawn + 1 } : World) = u at H HM hS ⊢
  refine wpAnyH_take (i := 0) (oi := ⟨some 2, _, _, _, _, _⟩) (v := ?_) rfl (by kernel_rfl) (by kernel_rfl) (by kernel_rfl) (fun _ _ _ h => h) (Or.inl ⟨by rfl, ?_⟩) hS ?_
  rotate_left 1
  focus ((intro W' hS'; have q1 := cellRow hS' 0; simp only [List.getElem?_toArray, List.getElem?_cons_zero] at q1; go_simp) <;> with_reducible rfl)
  try simp only [Act.put, List.setIfInBounds_toArray, List.set_cons_zero, List.set_cons_succ]
  refine wpAnyH_take (i := 3) (oi := ⟨some 5, _, _, _, _, _⟩) (v := ?_) rfl (by kernel_rfl) (by kernel_rfl) (by kernel_rfl) (fun _ _ _ h => h) (Or.inl ⟨by rfl, ?_⟩) hS ?_
  rotate_left 1
  focus ((intro W' hS'; have q1 := cellRow hS' 0; simp only [List.getElem?_toArray, List.getElem?_cons_zero] at q1; go_simp) <;> with_reducible rfl)
  try simp only [Act.put, List.setIfInBounds_toArray, List.set_cons_zero, List.set_cons_succ]
  refine anyH_one (i := 1) (by kernel_rfl) ⟨some 3, _, _, _, _, _⟩ rfl (by rfl) ?_
  go_simp
  with_reducible refine Calls.mono (N0.out _ H.out.rd) ?_
  rintro e u1 ⟨rfl, hr1, hm1⟩
  have H2 := hid (H.out.read hr1 hm1)
  have HM2 := hid (HM.out.trans (hm1.sub (by simp)))
  clear hr1 hm1 H HM hS
  have hS := H2.out.hr
  refine ⟨hS, ?_⟩
  try simp only [Act.put, List.setIfInBounds_toArray, List.set_cons_zero, List.set_cons_succ]
  refine wpAnyH_take (i := 2) (oi := ⟨some 4, _, _, _, _, _⟩) (v := ?_) rfl (by kernel_rfl) (by kernel_rfl) (by kernel_rfl) (fun _ _ _ h => h) (Or.inl ⟨by rfl, ?_⟩) hS ?_
  rotate_left 1
  focus ((intro W' hS'; go_simp) <;> with_reducible rfl)
  try simp only [Act.put, List.setIfInBounds_toArray, List.set_cons_zero, List.set_cons_succ]
  refine anyH_one (i := 4) (by kernel_rfl) ⟨some 6, _, _, _, _, _⟩ rfl (by rfl) ?_
  go_simp
  with_reducible refine Calls.mono (N1.out _ H2.out.rd) ?_
  rintro e u2 ⟨rfl, hr1, hm1⟩
  rw [D0.out.1] at hr1
  have H3 := hid (H2.out.read hr1 hm1)
  have HM3 := hid (HM2.out.trans (hm1.sub (by simp)))
  clear hr1 hm1 H2 HM2 hS
  have hS := H3.out.hr
  refine ⟨hS, ?_⟩
  try simp only [Act.put, List.setIfInBounds_toArray, List.set_cons_zero, List.set_cons_succ]
  refine wpAnyH_take (i := 5) (oi := ⟨some 7, _, _, _, _, _⟩) (v := ?_) rfl (by kernel_rfl) (by kernel_rfl) (by kernel_rfl) (fun _ _ _ h => h) (Or.inl ⟨by rfl, ?_⟩) hS ?_
  rotate_left 1
  focus ((intro W' hS'; go_simp) <;> with_reducible rfl)
  try simp only [Act.put, List.setIfInBounds_toArray, List.set_cons_zero, List.set_cons_succ]
  refine wpAnyH_take (i := 6) (oi := ⟨some 8, _, _, _, _, _⟩) (v := ?_) rfl (by kernel_rfl) (by kernel_rfl) (by kernel_rfl) (fun _ _ _ h => h) (Or.inl ⟨by rfl, ?_⟩) hS ?_
  rotate_left 1
  focus ((intro W' hS'; go_simp) <;> with_reducible rfl)
  try simp only [Act.put, List.setIfInBounds_toArray, List.set_cons_zero, List.set_cons_succ]
  refine anyH_one (i := 7) (by kernel_rfl) ⟨none, _, _, _, _, _⟩ rfl (by rfl) ?_
  obtain ⟨oc, _, _, _, _, _, _, _⟩ := seg_cells H3.out.hp HMAC.out
  have zf := frozRow H3.out.hp 0
  go_simp
  have H4 := hid (H3.out.put 0 (.int .u16 (v0 : Int)) (SegM.set_src _ _))
  have HM4 := hid (HM3.out.trans (Mod.setCell ps 0 (.int .u16 (v0 : Int)) (by simp)))
  clear H3 HM3 hS oc zf
  have hS := H4.out.hr
  refine ⟨hS, ?_⟩
  try simp only [Act.put, List.setIfInBounds_toArray, List.set_cons_zero, List.set_cons_succ]
  refine wpAnyH_take (i := 8) (oi := ⟨some 9, _, _, _, _, _⟩) (v := ?_) rfl (by kernel_rfl) (by kernel_rfl) (by kernel_rfl) (fun _ _ _ h => h) (Or.inl ⟨by rfl, ?_⟩) hS ?_
  rotate_left 1
  focus ((intro W' hS'; go_simp) <;> with_reducible rfl)
  try simp only [Act.put, List.setIfInBounds_toArray, List.set_cons_zero, List.set_cons_succ]
  refine anyH_one (i := 9) (by kernel_rfl) ⟨none, _, _, _, _, _⟩ rfl (by rfl) ?_
  obtain ⟨_, oc, _, _, _, _, _, _⟩ := seg_cells H4.out.hp HMAC.out
  have zf := frozRow H4.out.hp 1
  go_simp
  have H5 := hid (H4.out.put 1 (.int .u16 (v1 : Int)) (SegM.set_dst _ _))
  have HM5 := hid (HM4.out.trans (Mod.setCell ps 1 (.int .u16 (v1 : Int)) (by simp)))
  clear H4 HM4 hS oc zf
  have hS := H5.out.hr
  refine ⟨hS, ?_⟩
  try simp only [Act.put, List.setIfInBounds_toArray, List.set_cons_zero, List.set_cons_succ]
  refine wpAnyH_done (by kernel_rfl) ?_ _
  clear hS
  go_upto_region 1 with fail
  generalize ((u2.setCell _ _).setCell _ _) = w1 at H5 HM5 ⊢
  have HA := H5
  have HMA := HM5
  clear H5 HM5
  go_upto_region 1 with fail
  refine wp_region_hand (fun W => W.heap[pr]? = some (.cells #[.pointer (some ⟨g, 0, none⟩)] 94 (0, 0))) (by kernel_rfl) (HA.out.hr) ?_
  intro hS
  have H := hid (HA.out.drewN 1)
  have HM := hid (HMA.out.trans (Mod.drewN (M := [g, ps]) 1))
  change Hid (FSt ({ w1 with drawn := w1.drawn + 1 } : World) _ _ _ _ _ _) at H
  change Hid (Mod _ _ ({ w1 with drawn := w1.drawn + 1 } : World)) at HM
  clear HA HMA
  generalize ({ w1 with drawn := w1.drawn + 1 } : World) = u at H HM hS ⊢
  refine wpAnyH_take (i := 0) (oi := ⟨some 10, _, _, _, _, _⟩) (v := ?_) rfl (by kernel_rfl) (by kernel_rfl) (by kernel_rfl) (fun _ _ _ h => h) (Or.inl ⟨by rfl, ?_⟩) hS ?_
  rotate_left 1
  focus ((intro W' hS'; have q1 := cellRow hS' 0; simp only [List.getElem?_toArray, List.getElem?_cons_zero] at q1; go_simp) <;> with_reducible rfl)
  try simp only [Act.put, List.setIfInBounds_toArray, List.set_cons_zero, List.set_cons_succ]
  refine wpAnyH_take (i := 3) (oi := ⟨some 13, _, _, _, _, _⟩) (v := ?_) rfl (by kernel_rfl) (by kernel_rfl) (by kernel_rfl) (fun _ _ _ h => h) (Or.inl ⟨by rfl, ?_⟩) hS ?_
  rotate_left 1
  focus ((intro W' hS'; have q1 := cellRow hS' 0; simp only [List.getElem?_toArray, List.getElem?_cons_zero] at q1; go_simp) <;> with_reducible rfl)
  try simp only [Act.put, List.setIfInBounds_toArray, List.set_cons_zero, List.set_cons_succ]
  refine anyH_one (i := 1) (by kernel_rfl) ⟨some 11, _, _, _, _, _⟩ rfl (by rfl) ?_
  go_simp
  with_reducible refine Calls.mono (N2.out _ H.out.rd) ?_
  rintro e u1 ⟨rfl, hr1, hm1⟩
  rw [D0.out.2.1] at hr1
  have H2 := hid (H.out.read hr1 hm1)
  have HM2 := hid (HM.out.trans (hm1.sub (by simp)))
  clear hr1 hm1 H HM hS
  have hS := H2.out.hr
  refine ⟨hS, ?_⟩
  try simp only [Act.put, List.setIfInBounds_toArray, List.set_cons_zero, List.set_cons_succ]
  refine wpAnyH_take (i := 2) (oi := ⟨some 12, _, _, _, _, _⟩) (v := ?_) rfl (by kernel_rfl) (by kernel_rfl) (by kernel_rfl) (fun _ _ _ h => h) (Or.inl ⟨by rfl, ?_⟩) hS ?_
  rotate_left 1
  focus ((intro W' hS'; go_simp) <;> with_reducible rfl)
  try simp only [Act.put, List.setIfInBounds_toArray, List.set_cons_zero, List.set_cons_succ]
  refine anyH_one (i := 4) (by kernel_rfl) ⟨some 14, _, _, _, _, _⟩ rfl (by rfl) ?_
  go_simp
  with_reducible refine Calls.mono (N3.out _ H2.out.rd) ?_
  rintro e u2 ⟨rfl, hr1, hm1⟩
  rw [D0.out.2.2.1] at hr1
  have H3 := hid (H2.out.read hr1 hm1)
  have HM3 := hid (HM2.out.trans (hm1.sub (by simp)))
  clear hr1 hm1 H2 HM2 hS
  have hS := H3.out.hr
  refine ⟨hS, ?_⟩
  try simp only [Act.put, List.setIfInBounds_toArray, List.set_cons_zero, List.set_cons_succ]
  refine wpAnyH_take (i := 5) (oi := ⟨some 15, _, _, _, _, _⟩) (v := ?_) rfl (by kernel_rfl) (by kernel_rfl) (by kernel_rfl) (fun _ _ _ h => h) (Or.inl ⟨by rfl, ?_⟩) hS ?_
  rotate_left 1
  focus ((intro W' hS'; go_simp) <;> with_reducible rfl)
  try simp only [Act.put, List.setIfInBounds_toArray, List.set_cons_zero, List.set_cons_succ]
  refine wpAnyH_take (i := 6) (oi := ⟨some 16, _, _, _, _, _⟩) (v := ?_) rfl (by kernel_rfl) (by kernel_rfl) (by kernel_rfl) (fun _ _ _ h => h) (Or.inl ⟨by rfl, ?_⟩) hS ?_
  rotate_left 1
  focus ((intro W' hS'; go_simp) <;> with_reducible rfl)
  try simp only [Act.put, List.setIfInBounds_toArray, List.set_cons_zero, List.set_cons_succ]
  refine anyH_one (i := 7) (by kernel_rfl) ⟨none, _, _, _, _, _⟩ rfl (by rfl) ?_
  obtain ⟨_, _, oc, _, _, _, _, _⟩ := seg_cells H3.out.hp HMAC.out
  have zf := frozRow H3.out.hp 2
  go_simp
  have H4 := hid (H3.out.put 2 (.int .u32 (v2 : Int)) (SegM.set_seq _ _))
  have HM4 := hid (HM3.out.trans (Mod.setCell ps 2 (.int .u32 (v2 : Int)) (by simp)))
  clear H3 HM3 hS oc zf
  have hS := H4.out.hr
  refine ⟨hS, ?_⟩
  try simp only [Act.put, List.setIfInBounds_toArray, List.set_cons_zero, List.set_cons_succ]
  refine wpAnyH_take (i := 8) (oi := ⟨some 17, _, _, _, _, _⟩) (v := ?_) rfl (by kernel_rfl) (by kernel_rfl) (by kernel_rfl) (fun _ _ _ h => h) (Or.inl ⟨by rfl, ?_⟩) hS ?_
  rotate_left 1
  focus ((intro W' hS'; go_simp) <;> with_reducible rfl)
  try simp only [Act.put, List.setIfInBounds_toArray, List.set_cons_zero, List.set_cons_succ]
  refine anyH_one (i := 9) (by kernel_rfl) ⟨none, _, _, _, _, _⟩ rfl (by rfl) ?_
  obtain ⟨_, _, _, oc, _, _, _, _⟩ := seg_cells H4.out.hp HMAC.out
  have zf := frozRow H4.out.hp 3
  go_simp
  have H5 := hid (H4.out.put 3 (.int .u32 (v3 : Int)) (SegM.set_ack _ _))
  have HM5 := hid (HM4.out.trans (Mod.setCell ps 3 (.int .u32 (v3 : Int)) (by simp)))
  clear H4 HM4 hS oc zf
  have hS := H5.out.hr
  refine ⟨hS, ?_⟩
  try simp only [Act.put, List.setIfInBounds_toArray, List.set_cons_zero, List.set_cons_succ]
  refine wpAnyH_done (by kernel_rfl) ?_ _
  clear hS
  go_upto_region 2 with fail
  generalize ((u2.setCell _ _).setCell _ _) = w2 at H5 HM5 ⊢
  have q1 := cellRow H5.out.hr 0
  simp only [List.getElem?_toArray, List.getElem?_cons_zero] at q1
  go_wp2_with fail
  (with_reducible refine Calls.mono (NX.out _ H5.out.rd) ?_)
  rintro e w2' ⟨rfl, hr1, hm1⟩
  rw [D0.out.2.2.2.1] at hr1
  replace H5 := hid (H5.out.read hr1 hm1)
  replace HM5 := hid (HM5.out.trans (hm1.sub (by simp)))
  clear hr1 hm1 q1
  go_upto_region 3 with fail
  have q1 := cellRow H5.out.hr 0
  simp only [List.getElem?_toArray, List.getElem?_cons_zero] at q1
  go_wp2_with fail
  (with_reducible refine Calls.mono (NF.out _ H5.out.rd) ?_)
  rintro e w3' ⟨rfl, hr1, hm1⟩
  rw [D0.out.2.2.2.2.1] at hr1
  replace H5 := hid (H5.out.read hr1 hm1)
  replace HM5 := hid (HM5.out.trans (hm1.sub (by simp)))
  clear hr1 hm1 q1
  obtain ⟨_, _, _, _, oc, _, _, _⟩ := seg_cells H5.out.hp HMAC.out
  have zf := frozRow H5.out.hp 4
  go_upto_region 4 with fail
  replace H5 := hid (H5.out.put 4 (.int .u8 (fl : Int)) (SegM.set_flags _ _))
  replace HM5 := hid (HM5.out.trans (Mod.setCell ps 4 (.int .u8 (fl : Int)) (by simp)))
  clear oc zf
  generalize w3'.setCell _ _ = w4 at H5 HM5 ⊢
  have q1 := cellRow H5.out.hr 0
  simp only [List.getElem?_toArray, List.getElem?_cons_zero] at q1
  go_wp2_with fail
  (with_reducible refine Calls.mono (N5.out _ H5.out.rd) ?_)
  rintro e w4' ⟨rfl, hr1, hm1⟩
  rw [D0.out.2.2.2.2.2.1] at hr1
  replace H5 := hid (H5.out.read hr1 hm1)
  replace HM5 := hid (HM5.out.trans (hm1.sub (by simp)))
  clear hr1 hm1 q1
  obtain ⟨_, _, _, _, _, oc, _, _⟩ := seg_cells H5.out.hp HMAC.out
  have zf := frozRow H5.out.hp 5
  go_upto_region 5 with fail
  replace H5 := hid (H5.out.put 5 (.int .u16 (v5 : Int)) (SegM.set_win _ _))
  replace HM5 := hid (HM5.out.trans (Mod.setCell ps 5 (.int .u16 (v5 : Int)) (by simp)))
  clear oc zf
  generalize w4'.setCell _ _ = w5 at H5 HM5 ⊢
  have q1 := cellRow H5.out.hr 0
  simp only [List.getElem?_toArray, List.getElem?_cons_zero] at q1
  go_wp2_with fail
  (with_reducible refine Calls.mono (NY.out _ H5.out.rd) ?_)
  rintro e w5' ⟨rfl, hr1, hm1⟩
  rw [D0.out.2.2.2.2.2.2] at hr1
  replace H5 := hid (H5.out.read hr1 hm1)
  replace HM5 := hid (HM5.out.trans (hm1.sub (by simp)))
  clear hr1 hm1 q1
  go_upto_region 6 with fail
  have q1 := cellRow H5.out.hr 0
  simp only [List.getElem?_toArray, List.getElem?_cons_zero] at q1
  go_wp2_with fail
  (with_reducible refine Calls.mono (N6.out _ H5.out.rd) ?_)
  rintro e w6' ⟨rfl, hr1, hm1⟩
  replace H5 := hid (H5.out.read hr1 hm1)
  replace HM5 := hid (HM5.out.trans (hm1.sub (by simp)))
  clear hr1 hm1 q1
  obtain ⟨_, _, _, _, _, _, oc, _⟩ := seg_cells H5.out.hp HMAC.out
  have zf := frozRow H5.out.hp 6
  go_wp2_with fail
  replace H5 := hid (H5.out.put 6 (.int .u16 (v6 : Int)) (SegM.set_urg _ _))
  replace HM5 := hid (HM5.out.trans (Mod.setCell ps 6 (.int .u16 (v6 : Int)) (by simp)))
  clear oc zf
  go_end0
  refine ⟨rfl, ?_, HM5.out⟩
  rw [HFG.out]
  exact H5.out.hp
end Go.Proofs.Ythnidgiogjehkaa
namespace Go.Proofs.Ythnidgiogjehkaa
set_option linter.unusedVariables false
set_option linter.unusedSimpArgs false
set_option maxRecDepth 20000
open Go.RowKit

theorem alloc_noSegG : ∀ w, (Instr.alloc 34 true (.tuple #[])).run Try.prog w = .ok (.pointer (some ⟨w.heap.size, 0, none⟩)) (w.alloc (.cells noSegG.cells 34)) := by intro w; kernel_rfl
theorem build_noSegG : ∀ w, (Instr.build 34 #[]).run Try.prog w = .ok (.agg noSegG.cells) w := by intro w; kernel_rfl
theorem SegM.one (s : SegM) : s.cells.all (·.oneCell') = true := by
  unfold SegM.cells
  simp only [Array.all_append, Bool.and_eq_true]
  exact ⟨⟨by simp [Value.oneCell'], s.o.one⟩, by simp [Value.oneCell']⟩
theorem fldTry_any (pr ps g d : Nat) (xs : List UInt8) (w : World) (h : FSt w pr ps g d noSegG xs) (hl : 20 ≤ xs.length) :
    Calls Try.prog 63 #[.func (.func 67) #[] #[.pointer (some ⟨pr, 0, none⟩), .pointer (some ⟨ps, 0, none⟩)]] w fun e w' => e = .returned (.int .i64 0) ∧ w'.heap[ps]? = some (.cells (fldG xs).cells 34 (0, 0)) ∧ Mod [g, ps] w w' := by
  have hb0 := bl1 w (.cells #[.int .i64 0] 37)
  have hlt := (Array.getElem?_eq_some_iff.1 h.hp).1
  have hgl := h.rd.lt
  have h1 : FSt (w.alloc (.cells #[.int .i64 0] 37)) pr ps g d noSegG xs := ⟨(hb0.block _ (Array.getElem?_eq_some_iff.1 h.hr).1).trans h.hr, (hb0.block _ hlt).trans h.hp, h.rd.below hb0, h.n1, h.n2, h.n3, h.n4⟩
  refine (try_any 67 _ w (fun b w' => b = true ∧ w'.heap[ps]? = some (.cells (fldG xs).cells 34 (0, 0)) ∧ Mod [g, ps] (w.alloc (.cells #[.int .i64 0] 37)) w') (by intro w; kernel_rfl) ?_).mono ?_
  · refine (fieldsClo_any pr ps g d xs _ h1 hl).mono ?_
    rintro e w' ⟨rfl, h2, h3⟩
    exact ⟨h3.keeps (nw1 w _) (by simp; omega), .inl ⟨rfl, rfl, h2, h3⟩⟩
  · rintro e w'' ⟨b, w', ⟨rfl, h2, h3⟩, rfl, hg, _⟩
    refine ⟨rfl, (Mod.of_grown hg).keeps h2 (by simp; omega), ?_⟩
    have h4 : Mod (w.heap.size :: [g, ps]) w w'' := ((Mod.alloc _).trans (h3.sub (by simp))).trans ((Mod.of_grown hg).sub (by simp))
    exact h4.old (fun k hk => by
      rcases List.mem_cons.1 hk with h | h
      · exact .inr (by omega)
      · exact .inl h)
theorem fldG_info (xs : List UInt8) : (Try.prog.info? 34).map (·.size) = some (fldG xs).cells.size := info_segX _ rfl
set_option maxHeartbeats 4000000 in
theorem fields_any (v : Value) (xs : List UInt8) (w : World) (hx : RB w v xs) (hl : 20 ≤ xs.length) (hl2 : xs.length ≤ 1000000) :
    Calls Try.prog 41 #[v] w fun e w' => e = .returned (.agg (fldG xs).cells) ∧ Below w.heap.size w w' := by
  obtain ⟨A0, c0, rfl, hrow⟩ := hx
  have HBR := hid (show RB w (.slice A0 xs.length c0) xs from ⟨A0, c0, rfl, hrow⟩)
  clear hrow
  have HAL := hid alloc_noSegG
  have HIF := hid (fldG_info xs)
  have HSZ := hid (show noSegG.cells.size = (fldG xs).cells.size by rw [SegM.size noSegG rfl, SegM.size (fldG xs) rfl])
  have HON := hid (SegM.one (fldG xs))
  have HT := hid (fun pr ps g d (W : World) (h : FSt W pr ps g d noSegG xs) => fldTry_any pr ps g d xs W h hl)
  have hmf : ∀ (fn : Fn) (first cap : Array Value) (w : World), (Instr.makeFunc fn first cap).run Try.prog w = .ok (.func fn first cap) w := fun _ _ _ _ => rfl
  have HFS : Hid (∀ (W : World) pr ps g d, W.heap[pr]? = some (.cells #[.pointer (some ⟨g, 0, none⟩)] 94 (0, 0)) → W.heap[ps]? = some (.cells noSegG.cells 34 (0, 0)) → RdrD W g d xs → pr ≠ g → ps ≠ g → pr ≠ ps → d ≠ ps → FSt W pr ps g d noSegG xs) := hid (fun W pr ps g d h1 h2 h3 h4 h5 h6 h7 => ⟨h1, h2, h3, h4, h5, h6, h7⟩)
  generalize noSegG.cells = nc at HAL HSZ HFS
  generalize (fldG xs).cells = fc at HIF HSZ HON HT ⊢
  obtain ⟨B, hB⟩ : ∃ B, w.heap.size = B := ⟨_, rfl⟩
  have HB := hid hB
  rw [hB]
  clear hB
  go_enter Try.func41, Try.ntmps41
  go_wp2_with (first
    | ((with_reducible refine at_slot 2 ?_); refine wpList_allocF rfl 34 rfl _ HAL.out ?_; intro w1 hx1 hb1 hz1; rw [HB.out] at hx1 hb1 hz1 ⊢)
    | ((with_reducible refine at_slot 3 ?_); refine wpList_allocF rfl 34 rfl _ HAL.out ?_; intro w2 hx2 hb2 hz2; rw [hz1] at hx2 hb2 hz2 ⊢; have HX2 := hid ((hb2.block _ (by omega)).trans hx1); have HY2 := hid hx2; have HB2 := hid (hb1.trans (hb2.mono (by omega))); have HZ2 := hid hz2; clear hx1 hb1 hz1 hx2 hb2 hz2))
  (with_reducible refine Calls.mono (readD _ xs w2 (HBR.out.below (by rw [HB.out]; exact HB2.out)) (by omega)) ?_)
  rintro e w3 ⟨g, d, rfl, hg1, hd1, hdg, hr3, hb3⟩
  rw [HZ2.out] at hg1 hd1
  have HX3 := hid ((hb3.block _ (Array.getElem?_eq_some_iff.1 HX2.out).1).trans HX2.out)
  have HY3 := hid ((hb3.block _ (Array.getElem?_eq_some_iff.1 HY2.out).1).trans HY2.out)
  have HB3 := hid (HB2.out.trans (hb3.mono (by rw [HZ2.out]; omega)))
  have HR3 := hid hr3
  have hgl := hr3.lt
  clear hb3 hr3 HX2 HY2 HB2 HZ2
  go_upto_region 3 with ((with_reducible refine at_slot 4 ?_); refine wpList_allocF rfl 94 rfl _ ptr_cells ?_; intro w4 hx4 hb4 hz4; have ch := cellRow hx4 0; have chz := Lib.frozen_of_heap hx4 0; simp only [List.getElem?_toArray, List.getElem?_cons_zero] at ch; have HX4 := hid ((hb4.block _ (Array.getElem?_eq_some_iff.1 HX3.out).1).trans HX3.out); have HY4 := hid ((hb4.block _ (Array.getElem?_eq_some_iff.1 HY3.out).1).trans HY3.out); have HR4 := hid (HR3.out.below hb4); have HB4 := hid (HB3.out.trans (hb4.mono (by have := HB3.out.size; have := HB.out; omega))); have HH4 := hid hx4; have HS3 := hid (Array.getElem?_eq_some_iff.1 HY3.out).1; clear hb4 hz4 hx4 HX3 HY3 HR3 HB3)
  obtain ⟨gh, hgh⟩ : ∃ gh, w3.heap.size = gh := ⟨_, rfl⟩
  simp only [hgh] at hgl HH4 HS3 ch chz ⊢
  have hs3 := HS3.out
  have HM5 := hid (show Mod [gh] w4 (w4.setCell ⟨gh, 0, none⟩ (.pointer (some ⟨g, 0, none⟩))) from Mod.setCell _ _ _ (by simp))
  have hh5 := rowSetCell HH4.out 0 (.pointer (some ⟨g, 0, none⟩))
  have hh5 : (w4.setCell ⟨gh, 0, none⟩ (.pointer (some ⟨g, 0, none⟩))).heap[gh]? = some (.cells #[.pointer (some ⟨g, 0, none⟩)] 94 (0, 0)) := by simpa using hh5
  have HX5 := hid (HM5.out.keeps HX4.out (by simp <;> omega))
  have HY5 := hid (HM5.out.keeps HY4.out (by simp <;> omega))
  have HR5 := hid (HR4.out.mod HM5.out (by simp <;> omega) (by simp <;> omega))
  have HB5 := hid (Mod.below HB4.out HM5.out (Nat.le_of_eq HB.out.symm) (by simp <;> omega))
  have HH5 := hid hh5
  clear hh5 HX4 HY4 HR4 HB4 HH4 HM5 ch chz hgh
  generalize w4.setCell ⟨gh, 0, none⟩ _ = w5 at HX5 HY5 HR5 HB5 HH5 ⊢
  have HST := hid (HFS.out w5 gh (B + 1) g d HH5.out HY5.out HR5.out (by omega) (by omega) (by omega) (by omega))
  go_wp2_with fail
  (with_reducible refine Calls.mono (HT.out _ _ _ _ _ HST.out) ?_)
  rintro e w6 ⟨rfl, hy6, m6⟩
  have hx6 := m6.keeps HX5.out (by simp; omega)
  have HB6 := hid (Mod.below HB5.out m6 (Nat.le_of_eq HB.out.symm) (by simp; omega))
  clear m6 HST HX5 HY5 HR5 HB5 HH5
  go_wp2_with (first
    | ((with_reducible refine at_slot 9 ?_); refine wpList_load_row rfl 34 (.tmp 3) rfl (B + 1) rfl _ fc _ _ hy6 Try.underlying34 rfl HIF.out ?_)
    | ((with_reducible refine at_store 2 9 ?_); refine wpList_rowF rfl 34 (.tmp 2) (.tmp 9) rfl B 34 _ fc rfl rfl hx6 HIF.out HSZ.out HON.out ?_; intro w7 h7 m7 z7))
  try simp only [Act.put, List.setIfInBounds_toArray, List.set_cons_zero, List.set_cons_succ]
  exact ret_cell1 (p := 2) rfl rfl h7 Try.underlying34 rfl HIF.out ⟨rfl, Mod.below HB6.out m7 (Nat.le_of_eq HB.out.symm) (by simp)⟩
end Go.Proofs.Ythnidgiogjehkaa
