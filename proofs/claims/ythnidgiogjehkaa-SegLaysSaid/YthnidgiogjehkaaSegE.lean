/- Walks: the bytes of a segment, by the document. Walk: Lay of a segment, by the document. The law SegLays, layer 13. -/
import Derived.Test.YthnidgiogjehkaaSegB
import Derived.Test.YthnidgiogjehkaaSegX
import Derived.Test.YthnidgiogjehkaaOptE
import Derived.Test.YthnidgiogjehkaaSegD
namespace Go.Proofs.Ythnidgiogjehkaa
set_option linter.unusedVariables false
set_option linter.unusedSimpArgs false
set_option maxRecDepth 20000
open Go.RowKit

set_option maxHeartbeats 800000 in
theorem rload_any (s d : Adr) (p : UInt8) (v : Value) (xs : List UInt8) (w : World) (hx : RB w v xs) (hl : xs.length ≤ 900000) :
    Calls Try.prog 33 #[.agg s.cells, .agg d.cells, .int .u8 (p.toNat : Int), v] w fun e w' => e = .returned (.int .u16 (65535 - foldS (wtot [pseudoS s d p xs.length, xs]))) ∧ Below w.heap.size w w' := by
  have hx0 := hx
  obtain ⟨A, c, rfl, hrow⟩ := hx
  have hcap := hrow.cap
  have htop := hrow.top
  have hpl := pseudoS_len s d p xs.length
  generalize hps : pseudoS s d p xs.length = ps at hpl ⊢
  have HPS := hid hps
  clear hps
  go_enter Try.func33, Try.ntmps33
  go_wp2_with (first
    | refine wpList_load_row rfl 24 (.tmp 4) rfl w.heap.size rfl 24 s.cells (0, 0) _ (heap_alloc2_old w _ _) Try.underlying24 rfl (info_addr s) ?_
    | refine wpList_load_row rfl 24 (.tmp 5) rfl (w.heap.size + 1) rfl 24 d.cells (0, 0) _ (heap_alloc2_new w _ _) Try.underlying24 rfl (info_addr d) ?_)
  refine (rpseudo_any s d p xs.length _ (by omega)).mono ?_
  rw [HPS.out]
  rintro e w1 ⟨A1, c1, rfl, ho1, hb1⟩
  have HB1 := below_after (below_alloc (below_alloc (Below.refl w.heap.size w) _ (Nat.le_refl _)) _ (Nat.le_refl _)) hb1 (Nat.le_refl _)
  go_wp2_with fail
  have hSr := foldS_range (wtot [ps, xs])
  have hsg : IntKind.u16.signed = false := rfl
  have HSUM := hid (fun W v (h : RBB W v [ps, xs]) => rsum_any v [ps, xs] W h (btot2 _ _ _ hpl hl (by omega)))
  generalize hS : foldS (wtot [ps, xs]) = S at hSr HSUM
  have HS := hid hS
  have hxor := xor_u16 S hSr.1 hSr.2
  clear hS
  (with_reducible refine Calls.mono (HSUM.out _ _ (RBB.new2 _ _ _ _ _ _ _ rfl ho1.rb (hx0.below HB1))) ?_)
  rintro e w2 ⟨rfl, rfl⟩
  go_wp2_with fail
  go_ret
  exact ⟨by rw [HS.out]; rfl, below_alloc HB1 _ (Nat.le_refl _)⟩
set_option maxHeartbeats 8000000 in
theorem rbytesG_any (s : SegM) (ck : Nat) (w : World) (hs : SegOk w s) (hsl : s.o.sacks.length ≤ 1000) (hdl : s.data.length ≤ 100000) (hck : ck < 65536) :
    Calls Try.prog 32 #[.agg s.cells, .int .u16 (ck : Int)] w fun e w' => ∃ A c, e = .returned (.slice A (bytesG s ck).length c) ∧ OB w' w.heap.size (.slice A (bytesG s ck).length c) (bytesG s ck) ∧ Below w.heap.size w w' := by
  have HOL := hid (fun W (h : Below w.heap.size w W) => rlay12_any s.o W (hs.o.below h) hsl)
  have HOC := hid (fun (W : World) (g : Nat) (h : W.heap[g]? = some (.cells s.cells 34 (0, 0))) => seg_cells h hs.o.mac)
  have HOO := hid (fun (W : World) (g : Nat) (h : W.heap[g]? = some (.cells s.cells 34 (0, 0))) => seg_optsX h)
  have HI := hid (info_optsX s.o hs.o.mac)
  have HD := hid (fun W (h : Below w.heap.size w W) => hs.data.below h)
  have hsrc := hs.src
  have hdst := hs.dst
  have hseq := hs.seq
  have hack := hs.ack
  have hwin := hs.win
  have hurg := hs.urg
  obtain ⟨F, hF⟩ : ∃ F : UInt8, F = UInt8.ofNat s.flags := ⟨_, rfl⟩
  have hFn : F.toNat = s.flags := by rw [hF, UInt8.toNat_ofNat']; have := hs.flags; omega
  have hlo := layO_le s.o
  have h4 : (layO s.o).length % 4 = 0 := by
    unfold layO
    split
    · rw [bytesO_len s.o hs.o.mac]; unfold sizeO; omega
    · rfl
  obtain ⟨K, hK⟩ : ∃ K : UInt8, K = UInt8.ofNat ((20 + (layO s.o).length) * 4) := ⟨_, rfl⟩
  have hKn : K.toNat = (20 + (layO s.o).length) * 4 := by rw [hK, UInt8.toNat_ofNat']; omega
  have HKF : Hid (#[Value.int .u8 (16 * (5 + ((layO s.o).length : Int) / 4)), .int .u8 (s.flags : Int)] = (by8 [K, F]).toArray) := hid (by
    have e : 16 * (5 + ((layO s.o).length : Int) / 4) = (K.toNat : Int) := by rw [hKn]; omega
    simp only [by8, u8, List.map_cons, List.map_nil, e, hFn])
  have HW : Hid (wordG s = [K, F]) := hid (by unfold wordG; rw [hK, hF])
  obtain ⟨x1, hx1⟩ : ∃ x, beB 2 s.src ++ beB 2 s.dst = x := ⟨_, rfl⟩
  obtain ⟨x3, hx3⟩ : ∃ x, fixG s ++ [K, F] = x := ⟨_, rfl⟩
  obtain ⟨x4, hx4⟩ : ∃ x, x3 ++ (beB 2 s.win ++ (beB 2 ck ++ beB 2 s.urg)) = x := ⟨_, rfl⟩
  obtain ⟨x5, hx5⟩ : ∃ x, x4 ++ layO s.o = x := ⟨_, rfl⟩
  have HZ1 := hid (show ([] : List UInt8) ++ beL (clampN 2) [UInt64.ofNat s.src, UInt64.ofNat s.dst] = x1 by rw [put2_two _ _ (by omega) (by omega), ← hx1]; rfl)
  have HZ2 := hid (show x1 ++ beL (clampN 4) [UInt64.ofNat s.seq, UInt64.ofNat s.ack] = fixG s by rw [put4_two _ _ (by omega) (by omega), ← hx1]; rfl)
  have HZ3 := hid hx3
  have HZ4 := hid (show x3 ++ beL (clampN 2) [UInt64.ofNat s.win, UInt64.ofNat ck, UInt64.ofNat s.urg] = x4 by rw [put2_three _ _ _ (by omega) (by omega) (by omega), hx4])
  have HZ5 := hid hx5
  have HZ6 := hid (show x5 ++ s.data = bytesG s ck by rw [← hx5, ← hx4, ← hx3]; unfold bytesG; rw [HW.out])
  have y1 : x1.length = 4 := by rw [← hx1]; simp [beB_length]
  have y3 : x3.length = 14 := by rw [← hx3]; simp [fixG_len]
  have y4 : x4.length = 20 := by rw [← hx4]; simp [beB_length, y3]
  have y5 : x5.length = 20 + (layO s.o).length := by rw [← hx5]; simp [y4]
  have Y1 := hid y1
  have Y3 := hid y3
  have Y4 := hid y4
  have Y5 := hid y5
  have Y2 := hid (fixG_len s)
  clear hx1 hx3 hx4 hx5 y1 y3 y4 y5 hF hK hs hKn hFn HW
  obtain ⟨LF, hLF⟩ : ∃ x, bytesG s ck = x := ⟨_, rfl⟩
  rw [hLF] at HZ6 ⊢
  clear hLF
  generalize hco : s.o.cells = co at HOO HI HOL
  generalize hcs : s.cells = cs at HOC HOO ⊢
  clear hco hcs
  obtain ⟨B, hB⟩ : ∃ B, w.heap.size = B := ⟨_, rfl⟩
  rw [hB] at HOL HD ⊢
  have HB := hid hB
  clear hB
  go_enter Try.func32, Try.ntmps32
  go_wp2_with (first
    | ((with_reducible refine at_slot 2 ?_); refine wpList_boxF rfl 34 (.tmp 0) rfl cs rfl ?_; intro w4 hx4 hb4 hz4; rw [HB.out] at hx4 hb4 hz4 ⊢)
    | ((with_reducible refine at_slot 10 ?_); refine wpList_load_at 31 (.tmp 9) rfl rfl ⟨B, 7, none⟩ rfl co _ (HOO.out _ _ hx4) Try.underlying31 rfl HI.out ?_))
  (with_reducible refine Calls.mono (HOL.out _ hb4) ?_)
  rintro e w5 ⟨A5, c5, rfl, ho5, hb5⟩
  have hX5 := (hb5.block _ (by omega)).trans hx4
  have hB5 := hb4.trans (hb5.mono (by omega))
  have hz5 : B + 1 ≤ w5.heap.size := Nat.le_trans (Nat.le_of_eq hz4.symm) hb5.size
  have hO5 := ho5.rb
  have HF := hid (fun W (h : Below w5.heap.size w5 W) => (⟨(h.block _ (by omega)).trans hX5, hO5.below h, hB5.trans (h.mono (by omega)), Nat.le_trans hz5 h.size⟩ : _ ∧ _ ∧ _ ∧ _))
  have HG5 := hid (Below.refl w5.heap.size w5)
  clear hb5 hx4 hb4 hz4 HOL ho5 hX5 hB5 hO5
  generalize layO s.o = ol at *
  generalize fixG s = fx at *
  obtain ⟨f0, f1, f2, f3, f4, f5, f6, f7⟩ := HOC.out _ _ (HF.out _ HG5.out).1
  go_wp2_with fail
  have hr1 := RN.lit2 (nw1 w5 (.cells #[.int .u64 (s.src : Int), .int .u64 (s.dst : Int)] 60)) (by omega) (by omega)
  have hb1 := bl1 w5 (.cells #[.int .u64 (s.src : Int), .int .u64 (s.dst : Int)] 60)
  (with_reducible refine Calls.mono (rput_any _ _ [] 2 [UInt64.ofNat s.src, UInt64.ofNat s.dst] _ (RB.nil _) hr1 (by omega) (by omega) (by simp)) ?_)
  rw [HZ1.out]
  rintro e w6 ⟨A6, c6, rfl, ho6, hb6⟩
  have hbb := hb1.trans (hb6.mono hb1.size)
  have HQ6 := hid (ho6.lower (base' := w5.heap.size) (by have := hb1.size; have := HG5.out.size; omega))
  have HG6 := hid (below_after HG5.out hbb (Nat.le_refl _))
  clear f0 f1 f2 f3 f4 f5 f6 f7 hr1 hb1 hb6 hbb ho6 HG5
  obtain ⟨f0, f1, f2, f3, f4, f5, f6, f7⟩ := HOC.out _ _ (HF.out _ HG6.out).1
  go_wp2_with fail
  have hr1 := RN.lit2 (nw1 w6 (.cells #[.int .u64 (s.seq : Int), .int .u64 (s.ack : Int)] 60)) (by omega) (by omega)
  have hb1 := bl1 w6 (.cells #[.int .u64 (s.seq : Int), .int .u64 (s.ack : Int)] 60)
  (with_reducible refine Calls.mono (rput_any _ _ x1 4 [UInt64.ofNat s.seq, UInt64.ofNat s.ack] _ (HQ6.out.rb.below hb1) hr1 (by omega) (by omega) (by rw [Y1.out]; simp)) ?_)
  rw [HZ2.out]
  rintro e w7 ⟨A7, c7, rfl, ho7, hb7⟩
  have hbb := hb1.trans (hb7.mono hb1.size)
  have HQ7 := hid (ho7.lower (base' := w5.heap.size) (by have := hb1.size; have := HG6.out.size; omega))
  have HG7 := hid (below_after HG6.out hbb (Nat.le_refl _))
  clear f0 f1 f2 f3 f4 f5 f6 f7 hr1 hb1 hb7 hbb ho7 HG6 HQ6
  obtain ⟨f0, f1, f2, f3, f4, f5, f6, f7⟩ := HOC.out _ _ (HF.out _ HG7.out).1
  have hb7 := bl1 w7 (.cells #[.int .u8 (16 * (5 + (ol.length : Int) / 4)), .int .u8 (s.flags : Int)] 5)
  have hs7 := HG7.out.size
  go_upto_region 5 with (at_builtin; refine append_u8 (.tmp 31) (.tmp 40) w5.heap.size fx [K, F] x3 HZ3.out rfl rfl rfl rfl (HQ7.out.below hb7) (RB.new w7 _ [K, F] _ _ 2 rfl rfl (by omega) HKF.out) (by rw [Y2.out]; simp) (by simp; omega) ?_; intro A8 c8 w8 ho8 hb8 _ _)
  have HQ8 := hid ho8
  have HG8 := hid (HG7.out.trans ((hb7.mono hs7).trans hb8))
  clear f0 f1 f2 f3 f4 f5 f6 f7 ho8 hb8 hb7 hs7 HG7 HQ7
  obtain ⟨f0, f1, f2, f3, f4, f5, f6, f7⟩ := HOC.out _ _ (HF.out _ HG8.out).1
  go_wp2_with fail
  have hr1 := RN.litT (x := s.win) (y := ck) (z := s.urg) (nw1 w8 (.cells #[.int .u64 (s.win : Int), .int .u64 (ck : Int), .int .u64 (s.urg : Int)] 60)) (by omega) (by omega) (by omega)
  have hb1 := bl1 w8 (.cells #[.int .u64 (s.win : Int), .int .u64 (ck : Int), .int .u64 (s.urg : Int)] 60)
  (with_reducible refine Calls.mono (rput_any _ _ x3 2 [UInt64.ofNat s.win, UInt64.ofNat ck, UInt64.ofNat s.urg] _ (HQ8.out.rb.below hb1) hr1 (by omega) (by omega) (by rw [Y3.out]; simp)) ?_)
  rw [HZ4.out]
  rintro e w9 ⟨A9, c9, rfl, ho9, hb9⟩
  have hbb := hb1.trans (hb9.mono hb1.size)
  have HQ9 := hid (ho9.lower (base' := w5.heap.size) (by have := hb1.size; have := HG8.out.size; omega))
  have HG9 := hid (below_after HG8.out hbb (Nat.le_refl _))
  clear f0 f1 f2 f3 f4 f5 f6 f7 hr1 hb1 hb9 hbb ho9 HG8 HQ8
  go_upto_region 6 with fail
  refine wp_region_hand (fun W => W.heap[B]? = some (.cells cs 34 (0, 0))) (by kernel_rfl) ((HF.out _ HG9.out).1) ?_
  intro hS
  have HG := hid (below_drewN HG9.out 1)
  have HQ := hid (OB.drewN HQ9.out 1)
  change Hid (Below _ _ ({ w9 with drawn := w9.drawn + 1 } : World)) at HG
  change Hid (OB ({ w9 with drawn := w9.drawn + 1 } : World) _ _ _) at HQ
  clear HG9 HQ9
  generalize ({ w9 with drawn := w9.drawn + 1 } : World) = u at HG HQ hS ⊢
  refine wpAnyH_take (i := 0) (oi := ⟨some 53, _, _, _, _, _⟩) (v := ?_) rfl (by kernel_rfl) (by kernel_rfl) (by kernel_rfl) (fun _ _ _ h => h) (Or.inl ⟨by rfl, ?_⟩) hS ?_
  rotate_left 1
  focus ((intro W' hS'; go_simp) <;> with_reducible rfl)
  try simp only [Act.put, List.setIfInBounds_toArray, List.set_cons_zero, List.set_cons_succ]
  refine wpAnyH_take (i := 1) (oi := ⟨some 54, _, _, _, _, _⟩) (v := ?_) rfl (by kernel_rfl) (by kernel_rfl) (by kernel_rfl) (fun _ _ _ h => h) (Or.inl ⟨by rfl, ?_⟩) hS ?_
  rotate_left 1
  focus ((intro W' hS'; go_simp) <;> with_reducible rfl)
  try simp only [Act.put, List.setIfInBounds_toArray, List.set_cons_zero, List.set_cons_succ]
  refine wpAnyH_take (i := 3) (oi := ⟨some 56, _, _, _, _, _⟩) (v := ?_) rfl (by kernel_rfl) (by kernel_rfl) (by kernel_rfl) (fun _ _ _ h => h) (Or.inl ⟨by rfl, ?_⟩) hS ?_
  rotate_left 1
  focus ((intro W' hS'; go_simp) <;> with_reducible rfl)
  try simp only [Act.put, List.setIfInBounds_toArray, List.set_cons_zero, List.set_cons_succ]
  refine wpAnyH_take (i := 4) (oi := ⟨some 57, _, _, _, _, _⟩) (v := ?_) rfl (by kernel_rfl) (by kernel_rfl) (by kernel_rfl) (fun _ _ _ h => h) (Or.inl ⟨by rfl, ?_⟩) hS ?_
  rotate_left 1
  focus ((intro W' hS'; have x7 := (HOC.out _ _ hS').2.2.2.2.2.2.2; go_simp) <;> with_reducible rfl)
  try simp only [Act.put, List.setIfInBounds_toArray, List.set_cons_zero, List.set_cons_succ]
  refine anyH_one (i := 2) (by kernel_rfl) ⟨some 55, _, _, _, _, _⟩ rfl (by rfl) ?_
  refine wp_append8 (.tmp 53) (.tmp 54) w5.heap.size x4 ol x5 HZ5.out rfl rfl rfl rfl HQ.out (HF.out _ HG.out).2.1 (by rw [Y4.out]; omega) HG.out.size ?_
  intro A10 c10 u2 ho hb
  have HQ2 := hid ho
  have HG2 := hid (HG.out.trans hb)
  clear ho hb
  have hS := (HF.out _ HG2.out).1
  refine ⟨hS, ?_⟩
  try simp only [Act.put, List.setIfInBounds_toArray, List.set_cons_zero, List.set_cons_succ]
  refine anyH_one (i := 5) (by kernel_rfl) ⟨some 58, _, _, _, _, _⟩ rfl (by rfl) ?_
  refine wp_append8 (.tmp 55) (.tmp 57) w5.heap.size x5 s.data LF HZ6.out rfl rfl rfl rfl HQ2.out (HD.out _ (HF.out _ HG2.out).2.2.1) (by rw [Y5.out]; omega) HG2.out.size ?_
  intro A11 c11 u3 ho hb
  have HQ3 := hid ho
  have HG3 := hid (HG2.out.trans hb)
  clear ho hb
  have hS := (HF.out _ HG3.out).1
  refine ⟨hS, ?_⟩
  try simp only [Act.put, List.setIfInBounds_toArray, List.set_cons_zero, List.set_cons_succ]
  refine wpAnyH_take (i := 6) (oi := ⟨some 4, _, _, _, _, _⟩) (v := ?_) rfl (by kernel_rfl) (by kernel_rfl) (by kernel_rfl) (fun _ _ _ h => h) (Or.inl ⟨by rfl, ?_⟩) hS ?_
  rotate_left 1
  focus ((intro W' hS'; go_simp) <;> with_reducible rfl)
  try simp only [Act.put, List.setIfInBounds_toArray, List.set_cons_zero, List.set_cons_succ]
  refine wpAnyH_done (by kernel_rfl) ?_ _
  go_wp2_with fail
  go_ret
  exact ⟨A11, c11, rfl, HQ3.out.lower (by omega), (HF.out _ HG3.out).2.2.1⟩
end Go.Proofs.Ythnidgiogjehkaa
namespace Go.Proofs.Ythnidgiogjehkaa
set_option linter.unusedVariables false
set_option linter.unusedSimpArgs false
set_option maxRecDepth 20000
open Go.RowKit

set_option maxHeartbeats 8000000 in
theorem rlayG_any (a b : Adr) (s : SegM) (w : World) (hs : SegOk w s) (hsl : s.o.sacks.length ≤ 1000) (hdl : s.data.length ≤ 100000) :
    Calls Try.prog 12 #[.agg a.cells, .agg b.cells, .agg s.cells] w (LayGRes w.heap.size w a b s) := by
  have HM := hid (fun W (h : Below w.heap.size w W) => may13_any s W (hs.below h) hsl)
  have HBY := hid (fun ck (hck : ck < 65536) W (h : Below w.heap.size w W) => rbytesG_any s ck W (hs.below h) hsl hdl hck)
  have HIS := hid (info_segX s hs.o.mac)
  have HL := hid (bytesG_len s 0)
  have hlo := layO_le s.o
  have HCV := hid (ckG_val a b s)
  have HCL := hid (ckG_le a b s)
  have HNO := hid (fun (h : mayG s = false) (W : World) (hb : Below w.heap.size w W) => layG_no (a := a) (b := b) h hb)
  have HYES := hid (fun (h : mayG s = true) (W : World) (A : Option Addr) (c : Nat) (l : List UInt8) (hl : bytesG s (ckG a b s) = l) (ho : OB W w.heap.size (.slice A l.length c) l) (hb : Below w.heap.size w W) => layG_yes (a := a) (b := b) h hl ho hb)
  obtain ⟨t, ht⟩ : ∃ t, mayG s = t := ⟨_, rfl⟩
  rw [ht] at HM
  generalize hcs : s.cells = cs at HIS HM HBY ⊢
  clear hcs hs
  obtain ⟨B, hB⟩ : ∃ B, w.heap.size = B := ⟨_, rfl⟩
  rw [hB] at HM HBY HNO HYES ⊢
  have HB := hid hB
  clear hB
  go_enter Try.func12, Try.ntmps12
  go_wp2_with (first
    | ((with_reducible refine at_slot 3 ?_); refine wpList_boxF rfl 24 (.tmp 0) rfl a.cells rfl ?_; intro w1 ha1 hb1 hz1; rw [HB.out] at ha1 hb1 hz1 ⊢)
    | ((with_reducible refine at_slot 4 ?_); refine wpList_boxF rfl 24 (.tmp 1) rfl b.cells rfl ?_; intro w2 ha2 hb2 hz2; rw [hz1] at ha2 hb2 hz2 ⊢)
    | ((with_reducible refine at_slot 5 ?_); refine wpList_boxF rfl 34 (.tmp 2) rfl cs rfl ?_; intro w3 hx3 hb3 hz3; rw [hz2] at hx3 hb3 hz3 ⊢; (have hA3 := (hb3.block B (by omega)).trans ((hb2.block B (by omega)).trans ha1)); (have hC3 := (hb3.block (B + 1) (by omega)).trans ha2); (have HB3 := hid (hb1.trans ((hb2.mono (by omega)).trans (hb3.mono (by omega))))); clear ha1 ha2 hb1 hb2 hb3 hz1 hz2)
    | ((with_reducible refine at_slot 8 ?_); refine wpList_load_row rfl 34 (.tmp 5) rfl (B + 1 + 1) rfl 34 cs _ _ hx3 Try.underlying34 rfl HIS.out ?_))
  (with_reducible refine Calls.mono (HM.out _ HB3.out) ?_)
  rintro e w4 ⟨rfl, hb4⟩
  have hA4 := (hb4.block B (by omega)).trans hA3
  have hC4 := (hb4.block (B + 1) (by omega)).trans hC3
  have hX4 := (hb4.block _ (by omega)).trans hx3
  have hB4 := HB3.out.trans (hb4.mono (by omega))
  have hz4 : B + 1 + 1 + 1 ≤ w4.heap.size := Nat.le_trans (Nat.le_of_eq hz3.symm) hb4.size
  clear hb4 hA3 hC3 hx3 hz3 HB3 HM
  cases t
  · go_wp2_with fail
    go_ret2
    exact HNO.out ht _ hB4
  · have HF := hid (fun W (h : Below w4.heap.size w4 W) => (⟨(h.block B (by omega)).trans hA4, (h.block (B + 1) (by omega)).trans hC4, (h.block _ (by omega)).trans hX4, hB4.trans (h.mono (by omega))⟩ : _ ∧ _ ∧ _ ∧ _))
    have hgl : ∀ X : List UInt8, X = bytesG s 0 → X.length ≤ 900000 := by
      intro X h
      rw [h]
      have := HL.out
      omega
    have HB0 := hid (HBY.out 0 (by decide))
    have HBK := hid (HBY.out (ckG a b s) (by have := HCL.out; omega))
    have HLD := hid (fun v (X : List UInt8) W (h : RB W v X) (hX : X = bytesG s 0) => rload_any a b 6 v X W h (hgl X hX))
    have HY := hid (fun W A c (ho : OB W B (.slice A (bytesG s (ckG a b s)).length c) (bytesG s (ckG a b s))) (hb : Below B w W) => HYES.out ht W A c _ rfl ho hb)
    have HC2 := hid (fun (X : List UInt8) (hX : X = bytesG s 0) => (show 65535 - foldS (wtot [pseudoS a b 6 X.length, X]) = ((ckG a b s : Nat) : Int) by rw [hX]; exact HCV.out.symm))
    clear hA4 hC4 hX4 hB4 HBY HYES HCV HCL hgl ht
    generalize bytesG s (ckG a b s) = LF at HBK HY
    generalize ckG a b s = ck at HBK HC2
    generalize bytesG s 0 = L0 at *
    generalize hac : a.cells = ac at *
    go_upto_region 3 with fail
    refine wp_region_hand (fun W => Below w4.heap.size w4 W) (by kernel_rfl) (below_drewN (Below.refl _ _) 1) ?_
    intro hS
    generalize ({ w4 with drawn := w4.drawn + 1 } : World) = u at hS ⊢
    refine wpAnyH_take (i := 0) (oi := ⟨some 11, _, _, _, _, _⟩) rfl (by kernel_rfl) (by kernel_rfl) (by kernel_rfl) (fun _ _ _ h => h) (yields_row 34 (.tmp 5) rfl (by rfl) ⟨B + 1 + 1, 0, none⟩ rfl cs _ (fun W' hS' => cells_part (o := 0) ((HF.out _ hS').2.2.1) (fun j u h => by rw [Nat.zero_add]; exact h)) Try.underlying34 rfl HIS.out) hS ?_
    try simp only [Act.put, List.setIfInBounds_toArray, List.set_cons_zero, List.set_cons_succ]
    refine wpAnyH_take (i := 1) (oi := ⟨some 12, _, _, _, _, _⟩) rfl (by kernel_rfl) (by kernel_rfl) (by kernel_rfl) (fun _ _ _ h => h) (yields_row 24 (.tmp 3) rfl (by rfl) ⟨B, 0, none⟩ rfl ac _ (fun W' hS' => cells_part (o := 0) ((HF.out _ hS').1) (fun j u h => by rw [Nat.zero_add]; exact h)) Try.underlying24 rfl (by rw [← hac]; exact info_addr a)) hS ?_
    try simp only [Act.put, List.setIfInBounds_toArray, List.set_cons_zero, List.set_cons_succ]
    refine wpAnyH_take (i := 2) (oi := ⟨some 13, _, _, _, _, _⟩) rfl (by kernel_rfl) (by kernel_rfl) (by kernel_rfl) (fun _ _ _ h => h) (yields_row 24 (.tmp 4) rfl (by rfl) ⟨B + 1, 0, none⟩ rfl b.cells _ (fun W' hS' => cells_part (o := 0) ((HF.out _ hS').2.1) (fun j u h => by rw [Nat.zero_add]; exact h)) Try.underlying24 rfl (info_addr b)) hS ?_
    try simp only [Act.put, List.setIfInBounds_toArray, List.set_cons_zero, List.set_cons_succ]
    refine wpAnyH_take (i := 3) (oi := ⟨some 14, _, _, _, _, _⟩) rfl (by kernel_rfl) (by kernel_rfl) (by kernel_rfl) (fun _ _ _ h => h) (yields_row 34 (.tmp 5) rfl (by rfl) ⟨B + 1 + 1, 0, none⟩ rfl cs _ (fun W' hS' => cells_part (o := 0) ((HF.out _ hS').2.2.1) (fun j u h => by rw [Nat.zero_add]; exact h)) Try.underlying34 rfl HIS.out) hS ?_
    try simp only [Act.put, List.setIfInBounds_toArray, List.set_cons_zero, List.set_cons_succ]
    refine anyH_one (i := 4) (by kernel_rfl) ⟨some 15, _, _, _, _, _⟩ rfl (by rfl) ?_
    go_simp
    refine Calls.mono (HB0.out _ (HF.out _ hS).2.2.2) ?_
    rintro e u2 ⟨A2, c2, rfl, ho2, hb2⟩
    have hS2 := below_after hS hb2 (Nat.le_refl _)
    have HR2 := hid ho2.rb
    clear ho2 hb2 hS
    have hS := hS2
    clear hS2
    refine ⟨hS, ?_⟩
    try simp only [Act.put, List.setIfInBounds_toArray, List.set_cons_zero, List.set_cons_succ]
    refine anyH_one (i := 5) (by kernel_rfl) ⟨some 16, _, _, _, _, _⟩ rfl (by rfl) ?_
    go_simp
    have hld := HLD.out _ L0 _ HR2.out rfl
    rw [HC2.out L0 rfl, show (((6 : UInt8).toNat : Nat) : Int) = 6 from rfl] at hld
    with_reducible refine Calls.mono hld ?_
    rintro e u3 ⟨rfl, hb3⟩
    have hS3 := below_after hS hb3 (Nat.le_refl _)
    clear hb3 hS hld
    have hS := hS3
    clear hS3
    refine ⟨hS, ?_⟩
    try simp only [Act.put, List.setIfInBounds_toArray, List.set_cons_zero, List.set_cons_succ]
    refine anyH_one (i := 6) (by kernel_rfl) ⟨some 17, _, _, _, _, _⟩ rfl (by rfl) ?_
    go_simp
    with_reducible refine Calls.mono (HBK.out _ (HF.out _ hS).2.2.2) ?_
    rintro e u4 ⟨A4, c4, rfl, ho4, hb4⟩
    have hS4 := below_after hS hb4 (Nat.le_refl _)
    have HQ4 := hid (ho4.lower (base' := B) (by have := hS.size; omega))
    clear ho4 hb4 hS
    have hS := hS4
    clear hS4
    refine ⟨hS, ?_⟩
    try simp only [Act.put, List.setIfInBounds_toArray, List.set_cons_zero, List.set_cons_succ]
    refine wpAnyH_take (i := 7) (oi := ⟨some 6, _, _, _, _, _⟩) (v := ?_) rfl (by kernel_rfl) (by kernel_rfl) (by kernel_rfl) (fun _ _ _ h => h) (Or.inl ⟨by rfl, ?_⟩) hS ?_
    rotate_left 1
    focus ((intro W' hS'; go_simp) <;> with_reducible rfl)
    try simp only [Act.put, List.setIfInBounds_toArray, List.set_cons_zero, List.set_cons_succ]
    refine wpAnyH_take (i := 8) (oi := ⟨some 7, _, _, _, _, _⟩) (v := ?_) rfl (by kernel_rfl) (by kernel_rfl) (by kernel_rfl) (fun _ _ _ h => h) (Or.inl ⟨by rfl, ?_⟩) hS ?_
    rotate_left 1
    focus ((intro W' hS'; go_simp) <;> with_reducible rfl)
    try simp only [Act.put, List.setIfInBounds_toArray, List.set_cons_zero, List.set_cons_succ]
    refine wpAnyH_done (by kernel_rfl) ?_ _
    go_wp2_with fail
    go_ret2
    exact HY.out _ A4 c4 HQ4.out (HF.out _ hS).2.2.2
end Go.Proofs.Ythnidgiogjehkaa
namespace Go.Proofs.Ythnidgiogjehkaa
set_option linter.unusedVariables false
set_option linter.unusedSimpArgs false
set_option maxRecDepth 100000
open Go.RowKit

theorem Later.blkL {B : Nat} {w : World} (x : Later B w) {b : Nat} {cs : Array Value} {T : TypeId} {fz : Nat × Nat} (h : w.heap[b]? = some (.cells cs T fz)) (hb : b < B) : x.wd.heap[b]? = some (.cells cs T fz) := (x.ok.block b hb).trans h
set_option maxHeartbeats 8000000 in
theorem lawLaysG_any (a b : Adr) (s t : SegM) (w : World) (hs : SegOk w s) (ht : SegOk w t) :
    Calls Try.prog 3 #[.agg (a.cells ++ b.cells), .agg s.cells, .agg t.cells] w fun e w' => e = .returned (.bool true) ∧ Below w.heap.size w w' := by
  have HF1 := hid (fun W (h : Below w.heap.size w W) => far13_any s W (hs.below h))
  have HF2 := hid (fun W (h : Below w.heap.size w W) => far13_any t W (ht.below h))
  have HLY := hid (fun (hf : farG s = false) W (h : Below w.heap.size w W) => layG_any a b s W (hs.below h) (by have := (farG_no hf).1; omega))
  have HRL := hid (fun (hf : farG s = false) W (h : Below w.heap.size w W) => rlayG_any a b s W (hs.below h) (by have := (farG_no hf).1; omega) (by have := (farG_no hf).2; omega))
  have HMY := hid (fun (hf : farG s = false) W (h : Below w.heap.size w W) => mayG_any s W (hs.below h) (by have := (farG_no hf).1; omega))
  have HRM := hid (fun (hf : farG s = false) W (h : Below w.heap.size w W) => may13_any s W (hs.below h) (by have := (farG_no hf).1; omega))
  have HLN := hid (fun (hf : farG s = false) W => lenG_any s W hs.flags hs.o.mac (by have := (farG_no hf).2; omega))
  have HRN := hid (fun (hf : farG s = false) W => rlenG_any s W hs.flags hs.o.mac (by have := (farG_no hf).2; omega))
  have HSM := hid (fun W (h : Below w.heap.size w W) => sameG_any s t W (hs.below h) (ht.below h))
  have HRS := hid (fun W (h : Below w.heap.size w W) => same13_any s t W (hs.below h) (ht.below h))
  have HHS := hid (fun W => hasG_any s t.flags W hs.flags hs.o.mac ht.flags)
  have HRH := hid (fun W => rhasG_any s t.flags W hs.flags hs.o.mac ht.flags)
  have HIS := hid (info_segX s hs.o.mac)
  have HIT := hid (info_segX t ht.o.mac)
  have HCT := hid (fun (W : World) (g : Nat) (h : W.heap[g]? = some (.cells t.cells 34 (0, 0))) => (seg_cells h ht.o.mac).2.2.2.2.1)
  have PL := hid (fun (W : World) (h : W.heap[w.heap.size]? = some (.cells (a.cells ++ b.cells) 25 (0, 0))) => cells_part (o := 0) h (pair_lG a b))
  have PR := hid (fun (W : World) (h : W.heap[w.heap.size]? = some (.cells (a.cells ++ b.cells) 25 (0, 0))) => cells_part (o := 17) h (pair_rG a b))
  generalize s.cells = cs at *
  generalize t.cells = ds at *
  generalize a.cells ++ b.cells = ab at PL PR ⊢
  obtain ⟨t1, ht1⟩ : ∃ x, farG s = x := ⟨_, rfl⟩
  obtain ⟨t2, ht2⟩ : ∃ x, farG t = x := ⟨_, rfl⟩
  rw [ht1] at HF1
  rw [ht2] at HF2
  clear hs ht
  go_enter Try.func3, Try.ntmps3
  go_wp2_with (first
    | ((with_reducible refine at_slot 3 ?_); refine wpList_boxF rfl 25 (.tmp 0) rfl ab rfl ?_; intro w1 hp1 hb1 hz1)
    | ((with_reducible refine at_slot 4 ?_); refine wpList_boxF rfl 34 (.tmp 1) rfl cs rfl ?_; intro w2 h2 hb2 hz2; simp only [hz1] at h2 hb2 hz2 ⊢; (have hp2 := (hb2.block w.heap.size (by omega)).trans hp1); (have HB2 := hid (hb1.trans (hb2.mono (by omega)))))
    | ((with_reducible refine at_slot 5 ?_); refine wpList_boxF rfl 34 (.tmp 2) rfl ds rfl ?_; intro w3 h3 hb3 hz3; simp only [hz2] at h3 hb3 hz3 ⊢; (have hp3 := (hb3.block w.heap.size (by omega)).trans hp2); (have hs3 := (hb3.block (w.heap.size + 1) (by omega)).trans h2); (have HB3 := hid (HB2.out.trans (hb3.mono (by omega)))))
    | ((with_reducible refine at_slot 11 ?_); refine wpList_load_row rfl 34 (.tmp 4) rfl (w.heap.size + 1) rfl _ cs _ _ hs3 Try.underlying34 rfl HIS.out ?_))
  (with_reducible refine Calls.mono (HF1.out _ HB3.out) ?_)
  rintro e w4 ⟨rfl, hb4⟩
  have hp4 := keepS hp3 hb4
  have hs4 := keepS hs3 hb4
  have ht4 := keepS h3 hb4
  have HB4 := hid (below_after HB3.out hb4 (Nat.le_refl _))
  clear hp1 hp2 hp3 hb1 hb2 hb3 hb4 h2 h3 hs3 HB2 HB3 hz1 hz2 hz3 HF1
  cases t1
  rotate_left 1
  · go_wp2_with fail
    (with_reducible refine Calls.mono (alive13_any _) ?_)
    rintro e w5 ⟨rfl, hb5⟩
    go_wp2_with fail
    go_ret
    exact ⟨rfl, below_after HB4.out hb5 (Nat.le_refl _)⟩
  go_wp2_with (first
    | ((with_reducible refine at_slot 14 ?_); refine wpList_rowG (by rfl) 34 (.tmp 5) rfl (w.heap.size + 1 + 1) rfl _ ds _ ht4 Try.underlying34 rfl HIT.out ?_))
  (with_reducible refine Calls.mono (HF2.out _ HB4.out) ?_)
  rintro e w5 ⟨rfl, hb5⟩
  have hp5 := keepS hp4 hb5
  have hs5 := keepS hs4 hb5
  have ht5 := keepS ht4 hb5
  have HB5 := hid (below_after HB4.out hb5 (Nat.le_refl _))
  clear hp4 hb5 hs4 ht4 HB4 HF2
  cases t2
  rotate_left 1
  · go_wp2_with fail
    (with_reducible refine Calls.mono (alive13_any _) ?_)
    rintro e w6 ⟨rfl, hb6⟩
    go_wp2_with fail
    go_ret
    exact ⟨rfl, below_after HB5.out hb6 (Nat.le_refl _)⟩
  go_wp2_with (first
    | ((with_reducible refine at_slot 20 ?_); refine wpList_load_at 24 (.tmp 19) rfl rfl ⟨w.heap.size, 0, none⟩ rfl a.cells _ (PL.out _ hp5) Try.underlying24 rfl (info_addr a) ?_)
    | ((with_reducible refine at_slot 22 ?_); refine wpList_load_at 24 (.tmp 21) rfl rfl ⟨w.heap.size, 17, none⟩ rfl b.cells _ (PR.out _ hp5) Try.underlying24 rfl (info_addr b) ?_)
    | ((with_reducible refine at_slot 23 ?_); refine wpList_load_row rfl 34 (.tmp 4) rfl (w.heap.size + 1) rfl _ cs _ _ hs5 Try.underlying34 rfl HIS.out ?_))
  (with_reducible refine Calls.mono (HLY.out ht1 _ HB5.out) ?_)
  rintro e w6 ⟨A6, c6, rfl, ho6, hb6⟩
  have hp6 := keepS hp5 hb6
  have hs6 := keepS hs5 hb6
  have ht6 := keepS ht5 hb6
  have HB6 := hid (below_after HB5.out hb6 (Nat.le_refl _))
  have HR6 := hid ho6.rb
  clear hp5 hb6 hs5 ht5 HB5 HLY ho6
  go_wp2_with (first
    | ((with_reducible refine at_slot 29 ?_); refine wpList_load_at 24 (.tmp 28) rfl rfl ⟨w.heap.size, 0, none⟩ rfl a.cells _ (PL.out _ hp6) Try.underlying24 rfl (info_addr a) ?_)
    | ((with_reducible refine at_slot 31 ?_); refine wpList_load_at 24 (.tmp 30) rfl rfl ⟨w.heap.size, 17, none⟩ rfl b.cells _ (PR.out _ hp6) Try.underlying24 rfl (info_addr b) ?_)
    | ((with_reducible refine at_slot 32 ?_); refine wpList_load_row rfl 34 (.tmp 4) rfl (w.heap.size + 1) rfl _ cs _ _ hs6 Try.underlying34 rfl HIS.out ?_))
  (with_reducible refine Calls.mono (HRL.out ht1 _ HB6.out) ?_)
  rintro e w7 ⟨A7, c7, rfl, ho7, hb7⟩
  have hs7 := keepS hs6 hb7
  have ht7 := keepS ht6 hb7
  have HB7 := hid (below_after HB6.out hb7 (Nat.le_refl _))
  have hr6 := HR6.out.below hb7
  have hr7 := ho7.rb
  have hl1 := (Array.getElem?_eq_some_iff.1 hs7).1
  have hl2 := (Array.getElem?_eq_some_iff.1 ht7).1
  have hct := HCT.out _ _ ht7
  clear hp6 hb7 hs6 ht6 HB6 HRL ho7 HR6
  have HM := hid (HMY.out ht1)
  have HRM' := hid (HRM.out ht1)
  have HL := hid (HLN.out ht1)
  have HRL' := hid (HRN.out ht1)
  clear HMY HRM HLN HRN ht1 ht2
  generalize mayG s = u1 at *
  generalize lenG s = u2 at *
  generalize sameS s t = u3 at *
  generalize hasG s.flags t.flags = u4 at *
  generalize layGE s = u5 at *
  generalize layG a b s = lb at *
  have hsz := HB7.out.size
  go_upto_region 5 with fail
  refine wp_region_later w7.heap.size (Nat.le_refl _) (by kernel_rfl) (by kernel_rfl) ?_
  have r4 := fun x : Later w7.heap.size w7 => conv_str (hr6.below x.ok)
  have r5 := fun x : Later w7.heap.size w7 => conv_str (hr7.below x.ok)
  have DB := fun x : Later w7.heap.size w7 => HB7.out.trans (x.ok.mono hsz)
  have b5 := fun x : Later w7.heap.size w7 => x.blkL hs7 hl1
  have bq := fun x : Later w7.heap.size w7 => x.blkL ht7 hl2
  have q4 := fun x : Later w7.heap.size w7 => keep_cell x.ok hct hl2
  have DD := hid DB
  clear hs7 ht7 hr6 hr7 DB hct
  repeat (first
    | ((with_reducible refine atq_slot 47 ?_); refine wpQuiet_row (by rfl) 34 (.tmp 4) rfl ⟨w.heap.size + 1, 0, none⟩ rfl cs _ (row_later b5) Try.underlying34 rfl HIS.out ?_; simp only [Act.put, List.setIfInBounds_toArray, List.set_cons_zero, List.set_cons_succ])
    | ((with_reducible refine atq_slot 49 ?_); refine wpQuiet_row (by rfl) 34 (.tmp 4) rfl ⟨w.heap.size + 1, 0, none⟩ rfl cs _ (row_later b5) Try.underlying34 rfl HIS.out ?_; simp only [Act.put, List.setIfInBounds_toArray, List.set_cons_zero, List.set_cons_succ])
    | ((with_reducible refine atq_slot 54 ?_); refine wpQuiet_row (by rfl) 34 (.tmp 4) rfl ⟨w.heap.size + 1, 0, none⟩ rfl cs _ (row_later b5) Try.underlying34 rfl HIS.out ?_; simp only [Act.put, List.setIfInBounds_toArray, List.set_cons_zero, List.set_cons_succ])
    | ((with_reducible refine atq_slot 56 ?_); refine wpQuiet_row (by rfl) 34 (.tmp 4) rfl ⟨w.heap.size + 1, 0, none⟩ rfl cs _ (row_later b5) Try.underlying34 rfl HIS.out ?_; simp only [Act.put, List.setIfInBounds_toArray, List.set_cons_zero, List.set_cons_succ])
    | ((with_reducible refine atq_slot 61 ?_); refine wpQuiet_row (by rfl) 34 (.tmp 4) rfl ⟨w.heap.size + 1, 0, none⟩ rfl cs _ (row_later b5) Try.underlying34 rfl HIS.out ?_; simp only [Act.put, List.setIfInBounds_toArray, List.set_cons_zero, List.set_cons_succ])
    | ((with_reducible refine atq_slot 64 ?_); refine wpQuiet_row (by rfl) 34 (.tmp 4) rfl ⟨w.heap.size + 1, 0, none⟩ rfl cs _ (row_later b5) Try.underlying34 rfl HIS.out ?_; simp only [Act.put, List.setIfInBounds_toArray, List.set_cons_zero, List.set_cons_succ])
    | ((with_reducible refine atq_slot 70 ?_); refine wpQuiet_row (by rfl) 34 (.tmp 4) rfl ⟨w.heap.size + 1, 0, none⟩ rfl cs _ (row_later b5) Try.underlying34 rfl HIS.out ?_; simp only [Act.put, List.setIfInBounds_toArray, List.set_cons_zero, List.set_cons_succ])
    | ((with_reducible refine atq_slot 74 ?_); refine wpQuiet_row (by rfl) 34 (.tmp 4) rfl ⟨w.heap.size + 1, 0, none⟩ rfl cs _ (row_later b5) Try.underlying34 rfl HIS.out ?_; simp only [Act.put, List.setIfInBounds_toArray, List.set_cons_zero, List.set_cons_succ])
    | ((with_reducible refine atq_slot 62 ?_); refine wpQuiet_row (by rfl) 34 (.tmp 5) rfl ⟨w.heap.size + 1 + 1, 0, none⟩ rfl ds _ (row_later bq) Try.underlying34 rfl HIT.out ?_; simp only [Act.put, List.setIfInBounds_toArray, List.set_cons_zero, List.set_cons_succ])
    | ((with_reducible refine atq_slot 65 ?_); refine wpQuiet_row (by rfl) 34 (.tmp 5) rfl ⟨w.heap.size + 1 + 1, 0, none⟩ rfl ds _ (row_later bq) Try.underlying34 rfl HIT.out ?_; simp only [Act.put, List.setIfInBounds_toArray, List.set_cons_zero, List.set_cons_succ])
    | go_big_quiet_step (first
      | (go_at_call 13; with_reducible exact quiet_later _ (Nat.le_refl _) (HM.out _ (DD.out _)))
      | (go_at_call 14; with_reducible exact quiet_later _ (Nat.le_refl _) (HRM'.out _ (DD.out _)))
      | (go_at_call 15; with_reducible exact quiet_later _ (Nat.le_refl _) (HL.out _))
      | (go_at_call 16; with_reducible exact quiet_later _ (Nat.le_refl _) (HRL'.out _))
      | (go_at_call 17; with_reducible exact quiet_later _ (Nat.le_refl _) (HSM.out _ (DD.out _)))
      | (go_at_call 18; with_reducible exact quiet_later _ (Nat.le_refl _) (HRS.out _ (DD.out _)))
      | (go_at_call 19; with_reducible exact quiet_later _ (Nat.le_refl _) (HHS.out _))
      | (go_at_call 20; with_reducible exact quiet_later _ (Nat.le_refl _) (HRH.out _))
      | (go_at_call 10; with_reducible exact quiet_later _ (Nat.le_refl _) (alive13_any _))))
  refine wpQuiet_nil ?_
  rintro _ ⟨x, rfl⟩
  go_wp2_with fail
  go_ret
  exact ⟨rfl, DD.out x⟩
end Go.Proofs.Ythnidgiogjehkaa
