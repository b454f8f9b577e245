/- Segments in plain words: how many numbers, the bytes, what bytes are parsed as. Walk: whether two segments are the same. Walks: whether a segment has flags, how many numbers it has, whether it may be. Walk: whether a segment may be. -/
import Derived.Test.YthnidgiogjehkaaOptC
import Derived.Test.YthnidgiogjehkaaSegX
import Derived.Test.YthnidgiogjehkaaMay13
import Derived.Laws.BitsLemmas
namespace Go.Proofs.Ythnidgiogjehkaa
set_option linter.unusedVariables false
set_option linter.unusedSimpArgs false
open Go.RowKit

def hasG (f all : Nat) : Bool := decide (f &&& all = all)
/-- The bytes of a segment, with a check sum. -/
def fixG (s : SegM) : List UInt8 := (beB 2 s.src ++ beB 2 s.dst) ++ (beB 4 s.seq ++ beB 4 s.ack)
def wordG (s : SegM) : List UInt8 := [UInt8.ofNat ((20 + (layO s.o).length) * 4), UInt8.ofNat s.flags]
def bytesG (s : SegM) (ck : Nat) : List UInt8 := (fixG s ++ wordG s) ++ (beB 2 s.win ++ (beB 2 ck ++ beB 2 s.urg)) ++ layO s.o ++ s.data
def sumG (a b : Adr) (xs : List UInt8) : Int := foldS (wtot [pseudoS a b 6 xs.length, xs])
def ckG (a b : Adr) (s : SegM) : Nat := (65535 - sumG a b (bytesG s 0)).toNat
def layG (a b : Adr) (s : SegM) : List UInt8 := if mayG s then bytesG s (ckG a b s) else []
def layGE (s : SegM) : Nat := if mayG s then 0 else 1
theorem fixG_len (s : SegM) : (fixG s).length = 12 := by simp [fixG, beB_length]
theorem bytesG_split (s : SegM) (ck : Nat) : bytesG s ck = (fixG s ++ (wordG s ++ beB 2 s.win)) ++ (beB 2 ck ++ (beB 2 s.urg ++ (layO s.o ++ s.data))) := by
  unfold bytesG
  simp only [List.append_assoc]
theorem headG_len (s : SegM) : (fixG s ++ (wordG s ++ beB 2 s.win)).length = 16 := by simp [fixG_len, wordG, beB_length]
theorem bytesG_len (s : SegM) (ck : Nat) : (bytesG s ck).length = 20 + (layO s.o).length + s.data.length := by
  rw [bytesG_split, List.length_append, headG_len]
  simp only [List.length_append, beB_length]
  omega
theorem beB_two (n : Nat) : beB 2 n = [UInt8.ofNat (n / 256), UInt8.ofNat n] := by simp [beB]
/-- The check sum is laid over 0. -/
theorem bytesG_set (s : SegM) (ck : Nat) : ((bytesG s 0).set 16 (UInt8.ofNat (ck / 256))).set 17 (UInt8.ofNat ck) = bytesG s ck := by
  rw [bytesG_split, bytesG_split, beB_two 0, beB_two ck]
  generalize hA : fixG s ++ (wordG s ++ beB 2 s.win) = A
  have hl : A.length = 16 := by rw [← hA]; exact headG_len s
  generalize beB 2 s.urg ++ (layO s.o ++ s.data) = R
  simp [List.set_append, hl]
theorem wsum_two (n : Nat) (h : n ≤ 65535) : wsum (beB 2 n) = (n : Int) := by
  rw [beB_two]
  unfold wsum
  have h1 : ((UInt8.ofNat (n / 256)).toNat : Int) = ((n / 256 : Nat) : Int) := by rw [UInt8.toNat_ofNat']; omega
  have h2 : ((UInt8.ofNat n).toNat : Int) = ((n % 256 : Nat) : Int) := by rw [UInt8.toNat_ofNat']
  rw [h1, h2]
  have : wsum [] = 0 := rfl
  rw [this]
  omega
theorem wsum_bytesG (s : SegM) (ck : Nat) (h : ck ≤ 65535) : wsum (bytesG s ck) = wsum (bytesG s 0) + (ck : Int) := by
  rw [bytesG_split, bytesG_split]
  have hl := headG_len s
  generalize fixG s ++ (wordG s ++ beB 2 s.win) = A at hl ⊢
  generalize beB 2 s.urg ++ (layO s.o ++ s.data) = R
  rw [wsum_append A _ (by rw [hl]), wsum_append A _ (by rw [hl]), wsum_append (beB 2 ck) R (by rw [beB_length]), wsum_append (beB 2 0) R (by rw [beB_length]), wsum_two ck h, wsum_two 0 (by omega)]
  omega
theorem sumG_range (a b : Adr) (xs : List UInt8) : 0 ≤ sumG a b xs ∧ sumG a b xs ≤ 65535 := foldS_range _
theorem ckG_val (a b : Adr) (s : SegM) : (ckG a b s : Int) = 65535 - sumG a b (bytesG s 0) := by
  have := sumG_range a b (bytesG s 0)
  unfold ckG
  omega
theorem ckG_le (a b : Adr) (s : SegM) : ckG a b s ≤ 65535 := by
  have := sumG_range a b (bytesG s 0)
  unfold ckG
  omega
/-- What is laid has a good check sum. -/
theorem sumG_laid (a b : Adr) (s : SegM) : sumG a b (bytesG s (ckG a b s)) = 65535 := by
  have h1 := ckG_val a b s
  have h2 := ckG_le a b s
  have hw := wsum_bytesG s (ckG a b s) h2
  generalize ckG a b s = k at h1 h2 hw ⊢
  unfold sumG at h1 ⊢
  rw [bytesG_len] at h1 ⊢
  generalize pseudoS a b 6 (20 + (layO s.o).length + s.data.length) = ps at h1 ⊢
  simp only [wtot_cons, wtot_nil] at h1 ⊢
  have r1 := (wsum_range ps).1
  have r2 := (wsum_range (bytesG s 0)).1
  rw [hw]
  have e : wsum ps + (wsum (bytesG s 0) + (k : Int) + 0) = (wsum ps + (wsum (bytesG s 0) + 0)) + (65535 - foldS (wsum ps + (wsum (bytesG s 0) + 0))) := by rw [← h1]; omega
  rw [e]
  exact foldS_laid _ (by omega)
/-! ### What bytes are parsed as -/
def noSegG : SegM := ⟨0, 0, 0, 0, 0, 0, 0, noOpt, none, 0, []⟩
def segF (xs : List UInt8) (o : OptM) (n : Nat) : SegM := ⟨be (xs.take 2), be ((xs.drop 2).take 2), be ((xs.drop 4).take 4), be ((xs.drop 8).take 4), (xs.getD 13 0).toNat % 64, be ((xs.drop 14).take 2), be ((xs.drop 18).take 2), o, none, 0, xs.drop n⟩
def offG (xs : List UInt8) : Nat := (xs.getD 12 0).toNat / 16 * 4
def optG (xs : List UInt8) : Nat × OptM := parseO ((xs.drop 20).take (offG xs - 20))
def parseG (a b : Adr) (xs : List UInt8) : Nat × SegM :=
  if xs.length < 20 then (4, noSegG) else if offG xs < 20 then (3, noSegG) else if xs.length < offG xs then (4, noSegG) else if sumG a b xs ≠ 65535 then (8, noSegG)
  else if (optG xs).1 ≠ 0 then ((optG xs).1, noSegG) else if mayG (segF xs (optG xs).2 (offG xs)) then (0, segF xs (optG xs).2 (offG xs)) else (3, noSegG)
/-- A segment, wherever its slices stand. -/
def SegM.at0 (s : SegM) : SegM := { s with o := { s.o with A := none, c := 0 }, D := none, dc := 0 }
end Go.Proofs.Ythnidgiogjehkaa
namespace Go.Proofs.Ythnidgiogjehkaa
set_option linter.unusedVariables false
set_option linter.unusedSimpArgs false
set_option maxRecDepth 20000
open Go.RowKit

set_option maxRecDepth 20000 in
set_option maxHeartbeats 4000000 in
theorem sameG_any (a b : SegM) (w : World) (ha : SegOk w a) (hb : SegOk w b) :
    Calls Try.prog 17 #[.agg a.cells, .agg b.cells] w fun e w' => e = .returned (.bool (sameS a b)) ∧ Below w.heap.size w w' := by
  have C1 := hid fun (W : World) (g : Nat) (h : W.heap[g]? = some (.cells a.cells 34 (0, 0))) => seg_cells h ha.o.mac
  have C2 := hid fun (W : World) (g : Nat) (h : W.heap[g]? = some (.cells b.cells 34 (0, 0))) => seg_cells h hb.o.mac
  have O1 := hid fun (W : World) (g : Nat) (h : W.heap[g]? = some (.cells a.cells 34 (0, 0))) => seg_optsX h
  have O2 := hid fun (W : World) (g : Nat) (h : W.heap[g]? = some (.cells b.cells 34 (0, 0))) => seg_optsX h
  have HI1 := hid (info_optsX a.o ha.o.mac)
  have HI2 := hid (info_optsX b.o hb.o.mac)
  have HSO := hid fun W (h : Below w.heap.size w W) => same_any a.o b.o W (ha.o.below h) (hb.o.below h)
  have HD1 := hid fun W (h : Below w.heap.size w W) => ha.data.below h
  have HD2 := hid fun W (h : Below w.heap.size w W) => hb.data.below h
  generalize hca : a.cells = cs at C1 O1 ⊢
  generalize hcb : b.cells = ds at C2 O2 ⊢
  generalize hco : a.o.cells = co at O1 HI1 HSO
  generalize hdo : b.o.cells = do_ at O2 HI2 HSO
  clear hca hcb hco hdo ha hb
  obtain ⟨t0, ht0⟩ : ∃ t, (a.src == b.src) = t := ⟨_, rfl⟩
  have HT0 := hid (show ((a.src : Int) == (b.src : Int)) = t0 by rw [← ht0]; exact int_beq _ _)
  obtain ⟨t1, ht1⟩ : ∃ t, (a.dst == b.dst) = t := ⟨_, rfl⟩
  have HT1 := hid (show ((a.dst : Int) == (b.dst : Int)) = t1 by rw [← ht1]; exact int_beq _ _)
  obtain ⟨t2, ht2⟩ : ∃ t, (a.seq == b.seq) = t := ⟨_, rfl⟩
  have HT2 := hid (show ((a.seq : Int) == (b.seq : Int)) = t2 by rw [← ht2]; exact int_beq _ _)
  obtain ⟨t3, ht3⟩ : ∃ t, (a.ack == b.ack) = t := ⟨_, rfl⟩
  have HT3 := hid (show ((a.ack : Int) == (b.ack : Int)) = t3 by rw [← ht3]; exact int_beq _ _)
  obtain ⟨t4, ht4⟩ : ∃ t, (a.flags == b.flags) = t := ⟨_, rfl⟩
  have HT4 := hid (show ((a.flags : Int) == (b.flags : Int)) = t4 by rw [← ht4]; exact int_beq _ _)
  obtain ⟨t5, ht5⟩ : ∃ t, (a.win == b.win) = t := ⟨_, rfl⟩
  have HT5 := hid (show ((a.win : Int) == (b.win : Int)) = t5 by rw [← ht5]; exact int_beq _ _)
  obtain ⟨t6, ht6⟩ : ∃ t, (a.urg == b.urg) = t := ⟨_, rfl⟩
  have HT6 := hid (show ((a.urg : Int) == (b.urg : Int)) = t6 by rw [← ht6]; exact int_beq _ _)
  obtain ⟨t7, ht7⟩ : ∃ t, sameO a.o b.o = t := ⟨_, rfl⟩
  rw [ht7] at HSO
  obtain ⟨r, hr⟩ : ∃ r, sameS a b = r := ⟨_, rfl⟩
  rw [hr]
  have HR := hid (show r = (t0 && t1 && t2 && t3 && t4 && t5 && t6 && t7 && (a.data == b.data)) by rw [← hr, ← ht0, ← ht1, ← ht2, ← ht3, ← ht4, ← ht5, ← ht6, ← ht7]; rfl)
  clear hr ht0 ht1 ht2 ht3 ht4 ht5 ht6 ht7
  obtain ⟨g1, hg1⟩ : ∃ g, w.heap.size = g := ⟨_, rfl⟩
  rw [hg1] at HSO HD1 HD2
  have HGG := hid hg1
  clear hg1
  go_enter Try.func17, Try.ntmps17
  go_upto_region 1 with (first
    | ((with_reducible refine at_slot 2 ?_); refine wpList_boxF rfl 34 (.tmp 0) rfl cs rfl ?_; intro w1 hx1 hb1 hz1; rw [HGG.out] at hx1 hb1 hz1 ⊢)
    | ((with_reducible refine at_slot 3 ?_); refine wpList_boxF rfl 34 (.tmp 1) rfl ds rfl ?_; intro w2 hx2 hb2 hz2; rw [hz1] at hx2 hb2 hz2 ⊢; have hy1 := (hb2.block _ (by omega)).trans hx1; have HX1 := hid hy1; have HX2 := hid hx2; have HB1 := hid (hb1.trans (hb2.mono (by omega))); clear hx1 hb1 hz1 hx2 hb2 hz2 hy1))
  obtain ⟨g2, hg2⟩ : ∃ g, g1 + 1 = g := ⟨_, rfl⟩
  rw [hg2] at HX2 ⊢
  clear hg2
  obtain ⟨e0, e1, e2, e3, e4, e5, e6, e7⟩ := C1.out _ _ HX1.out
  obtain ⟨f0, f1, f2, f3, f4, f5, f6, f7⟩ := C2.out _ _ HX2.out
  refine wp_region_lit ?_
  refine wpList_pureG (v := .pointer (some ⟨g1, 0, none⟩)) (by kernel_rfl) (by kernel_rfl) ?_
  simp only [Act.put, List.setIfInBounds_toArray, List.set_cons_zero, List.set_cons_succ]
  refine wpList_pureG (by kernel_rfl) (exec_ld1 (.tmp 5) rfl ⟨g1, 0, none⟩ _ (by kernel_rfl) e0 (by intro w; kernel_rfl)) ?_
  simp only [Act.put, List.setIfInBounds_toArray, List.set_cons_zero, List.set_cons_succ]
  refine wpList_pureG (v := .pointer (some ⟨g2, 0, none⟩)) (by kernel_rfl) (by kernel_rfl) ?_
  simp only [Act.put, List.setIfInBounds_toArray, List.set_cons_zero, List.set_cons_succ]
  refine wpList_pureG (by kernel_rfl) (exec_ld1 (.tmp 7) rfl ⟨g2, 0, none⟩ _ (by kernel_rfl) f0 (by intro w; kernel_rfl)) ?_
  simp only [Act.put, List.setIfInBounds_toArray, List.set_cons_zero, List.set_cons_succ]
  refine wpList_pureG (by kernel_rfl) (exec_eqlI (.tmp 6) (.tmp 8) rfl .u16 (a.src : Int) (b.src : Int) t0 HT0.out (by kernel_rfl) (by kernel_rfl)) ?_
  simp only [Act.put, List.setIfInBounds_toArray, List.set_cons_zero, List.set_cons_succ]
  cases t0
  · refine wpList_tail 4 (.bool false) [] (by kernel_rfl) ?_
    intro a' h4 hd
    go_wp2_with fail
    refine bodyPost_ret (results_tmp rfl a'.tmps _ w2) hd ?_
    rw [h4]
    exact ⟨by rw [HR.out]; simp, by rw [HGG.out]; exact HB1.out⟩
  refine wpList_pureG (v := .bool true) (by kernel_rfl) (by kernel_rfl) ?_
  simp only [Act.put, List.setIfInBounds_toArray, List.set_cons_zero, List.set_cons_succ]
  refine wpList_pureG (v := .pointer (some ⟨g1, 1, none⟩)) (by kernel_rfl) (by kernel_rfl) ?_
  simp only [Act.put, List.setIfInBounds_toArray, List.set_cons_zero, List.set_cons_succ]
  refine wpList_pureG (by kernel_rfl) (exec_ld1 (.tmp 11) rfl ⟨g1, 1, none⟩ _ (by kernel_rfl) e1 (by intro w; kernel_rfl)) ?_
  simp only [Act.put, List.setIfInBounds_toArray, List.set_cons_zero, List.set_cons_succ]
  refine wpList_pureG (v := .pointer (some ⟨g2, 1, none⟩)) (by kernel_rfl) (by kernel_rfl) ?_
  simp only [Act.put, List.setIfInBounds_toArray, List.set_cons_zero, List.set_cons_succ]
  refine wpList_pureG (by kernel_rfl) (exec_ld1 (.tmp 13) rfl ⟨g2, 1, none⟩ _ (by kernel_rfl) f1 (by intro w; kernel_rfl)) ?_
  simp only [Act.put, List.setIfInBounds_toArray, List.set_cons_zero, List.set_cons_succ]
  refine wpList_pureG (by kernel_rfl) (exec_eqlI (.tmp 12) (.tmp 14) rfl .u16 (a.dst : Int) (b.dst : Int) t1 HT1.out (by kernel_rfl) (by kernel_rfl)) ?_
  simp only [Act.put, List.setIfInBounds_toArray, List.set_cons_zero, List.set_cons_succ]
  cases t1
  · refine wpList_tail 4 (.bool false) [] (by kernel_rfl) ?_
    intro a' h4 hd
    go_wp2_with fail
    refine bodyPost_ret (results_tmp rfl a'.tmps _ w2) hd ?_
    rw [h4]
    exact ⟨by rw [HR.out]; simp, by rw [HGG.out]; exact HB1.out⟩
  refine wpList_pureG (v := .bool true) (by kernel_rfl) (by kernel_rfl) ?_
  simp only [Act.put, List.setIfInBounds_toArray, List.set_cons_zero, List.set_cons_succ]
  refine wpList_pureG (v := .bool true) (by kernel_rfl) (by kernel_rfl) ?_
  simp only [Act.put, List.setIfInBounds_toArray, List.set_cons_zero, List.set_cons_succ]
  refine wpList_pureG (v := .pointer (some ⟨g1, 2, none⟩)) (by kernel_rfl) (by kernel_rfl) ?_
  simp only [Act.put, List.setIfInBounds_toArray, List.set_cons_zero, List.set_cons_succ]
  refine wpList_pureG (by kernel_rfl) (exec_ld1 (.tmp 18) rfl ⟨g1, 2, none⟩ _ (by kernel_rfl) e2 (by intro w; kernel_rfl)) ?_
  simp only [Act.put, List.setIfInBounds_toArray, List.set_cons_zero, List.set_cons_succ]
  refine wpList_pureG (v := .pointer (some ⟨g2, 2, none⟩)) (by kernel_rfl) (by kernel_rfl) ?_
  simp only [Act.put, List.setIfInBounds_toArray, List.set_cons_zero, List.set_cons_succ]
  refine wpList_pureG (by kernel_rfl) (exec_ld1 (.tmp 20) rfl ⟨g2, 2, none⟩ _ (by kernel_rfl) f2 (by intro w; kernel_rfl)) ?_
  simp only [Act.put, List.setIfInBounds_toArray, List.set_cons_zero, List.set_cons_succ]
  refine wpList_pureG (by kernel_rfl) (exec_eqlI (.tmp 19) (.tmp 21) rfl .u32 (a.seq : Int) (b.seq : Int) t2 HT2.out (by kernel_rfl) (by kernel_rfl)) ?_
  simp only [Act.put, List.setIfInBounds_toArray, List.set_cons_zero, List.set_cons_succ]
  cases t2
  · refine wpList_tail 4 (.bool false) [] (by kernel_rfl) ?_
    intro a' h4 hd
    go_wp2_with fail
    refine bodyPost_ret (results_tmp rfl a'.tmps _ w2) hd ?_
    rw [h4]
    exact ⟨by rw [HR.out]; simp, by rw [HGG.out]; exact HB1.out⟩
  refine wpList_pureG (v := .bool true) (by kernel_rfl) (by kernel_rfl) ?_
  simp only [Act.put, List.setIfInBounds_toArray, List.set_cons_zero, List.set_cons_succ]
  refine wpList_pureG (v := .bool true) (by kernel_rfl) (by kernel_rfl) ?_
  simp only [Act.put, List.setIfInBounds_toArray, List.set_cons_zero, List.set_cons_succ]
  refine wpList_pureG (v := .pointer (some ⟨g1, 3, none⟩)) (by kernel_rfl) (by kernel_rfl) ?_
  simp only [Act.put, List.setIfInBounds_toArray, List.set_cons_zero, List.set_cons_succ]
  refine wpList_pureG (by kernel_rfl) (exec_ld1 (.tmp 25) rfl ⟨g1, 3, none⟩ _ (by kernel_rfl) e3 (by intro w; kernel_rfl)) ?_
  simp only [Act.put, List.setIfInBounds_toArray, List.set_cons_zero, List.set_cons_succ]
  refine wpList_pureG (v := .pointer (some ⟨g2, 3, none⟩)) (by kernel_rfl) (by kernel_rfl) ?_
  simp only [Act.put, List.setIfInBounds_toArray, List.set_cons_zero, List.set_cons_succ]
  refine wpList_pureG (by kernel_rfl) (exec_ld1 (.tmp 27) rfl ⟨g2, 3, none⟩ _ (by kernel_rfl) f3 (by intro w; kernel_rfl)) ?_
  simp only [Act.put, List.setIfInBounds_toArray, List.set_cons_zero, List.set_cons_succ]
  refine wpList_pureG (by kernel_rfl) (exec_eqlI (.tmp 26) (.tmp 28) rfl .u32 (a.ack : Int) (b.ack : Int) t3 HT3.out (by kernel_rfl) (by kernel_rfl)) ?_
  simp only [Act.put, List.setIfInBounds_toArray, List.set_cons_zero, List.set_cons_succ]
  cases t3
  · refine wpList_tail 4 (.bool false) [] (by kernel_rfl) ?_
    intro a' h4 hd
    go_wp2_with fail
    refine bodyPost_ret (results_tmp rfl a'.tmps _ w2) hd ?_
    rw [h4]
    exact ⟨by rw [HR.out]; simp, by rw [HGG.out]; exact HB1.out⟩
  refine wpList_pureG (v := .bool true) (by kernel_rfl) (by kernel_rfl) ?_
  simp only [Act.put, List.setIfInBounds_toArray, List.set_cons_zero, List.set_cons_succ]
  refine wpList_pureG (v := .bool true) (by kernel_rfl) (by kernel_rfl) ?_
  simp only [Act.put, List.setIfInBounds_toArray, List.set_cons_zero, List.set_cons_succ]
  refine wpList_pureG (v := .pointer (some ⟨g1, 4, none⟩)) (by kernel_rfl) (by kernel_rfl) ?_
  simp only [Act.put, List.setIfInBounds_toArray, List.set_cons_zero, List.set_cons_succ]
  refine wpList_pureG (by kernel_rfl) (exec_ld1 (.tmp 32) rfl ⟨g1, 4, none⟩ _ (by kernel_rfl) e4 (by intro w; kernel_rfl)) ?_
  simp only [Act.put, List.setIfInBounds_toArray, List.set_cons_zero, List.set_cons_succ]
  refine wpList_pureG (v := .pointer (some ⟨g2, 4, none⟩)) (by kernel_rfl) (by kernel_rfl) ?_
  simp only [Act.put, List.setIfInBounds_toArray, List.set_cons_zero, List.set_cons_succ]
  refine wpList_pureG (by kernel_rfl) (exec_ld1 (.tmp 34) rfl ⟨g2, 4, none⟩ _ (by kernel_rfl) f4 (by intro w; kernel_rfl)) ?_
  simp only [Act.put, List.setIfInBounds_toArray, List.set_cons_zero, List.set_cons_succ]
  refine wpList_pureG (by kernel_rfl) (exec_eqlI (.tmp 33) (.tmp 35) rfl .u8 (a.flags : Int) (b.flags : Int) t4 HT4.out (by kernel_rfl) (by kernel_rfl)) ?_
  simp only [Act.put, List.setIfInBounds_toArray, List.set_cons_zero, List.set_cons_succ]
  cases t4
  · refine wpList_tail 4 (.bool false) [] (by kernel_rfl) ?_
    intro a' h4 hd
    go_wp2_with fail
    refine bodyPost_ret (results_tmp rfl a'.tmps _ w2) hd ?_
    rw [h4]
    exact ⟨by rw [HR.out]; simp, by rw [HGG.out]; exact HB1.out⟩
  refine wpList_pureG (v := .bool true) (by kernel_rfl) (by kernel_rfl) ?_
  simp only [Act.put, List.setIfInBounds_toArray, List.set_cons_zero, List.set_cons_succ]
  refine wpList_pureG (v := .bool true) (by kernel_rfl) (by kernel_rfl) ?_
  simp only [Act.put, List.setIfInBounds_toArray, List.set_cons_zero, List.set_cons_succ]
  refine wpList_pureG (v := .pointer (some ⟨g1, 5, none⟩)) (by kernel_rfl) (by kernel_rfl) ?_
  simp only [Act.put, List.setIfInBounds_toArray, List.set_cons_zero, List.set_cons_succ]
  refine wpList_pureG (by kernel_rfl) (exec_ld1 (.tmp 39) rfl ⟨g1, 5, none⟩ _ (by kernel_rfl) e5 (by intro w; kernel_rfl)) ?_
  simp only [Act.put, List.setIfInBounds_toArray, List.set_cons_zero, List.set_cons_succ]
  refine wpList_pureG (v := .pointer (some ⟨g2, 5, none⟩)) (by kernel_rfl) (by kernel_rfl) ?_
  simp only [Act.put, List.setIfInBounds_toArray, List.set_cons_zero, List.set_cons_succ]
  refine wpList_pureG (by kernel_rfl) (exec_ld1 (.tmp 41) rfl ⟨g2, 5, none⟩ _ (by kernel_rfl) f5 (by intro w; kernel_rfl)) ?_
  simp only [Act.put, List.setIfInBounds_toArray, List.set_cons_zero, List.set_cons_succ]
  refine wpList_pureG (by kernel_rfl) (exec_eqlI (.tmp 40) (.tmp 42) rfl .u16 (a.win : Int) (b.win : Int) t5 HT5.out (by kernel_rfl) (by kernel_rfl)) ?_
  simp only [Act.put, List.setIfInBounds_toArray, List.set_cons_zero, List.set_cons_succ]
  cases t5
  · refine wpList_tail 4 (.bool false) [] (by kernel_rfl) ?_
    intro a' h4 hd
    go_wp2_with fail
    refine bodyPost_ret (results_tmp rfl a'.tmps _ w2) hd ?_
    rw [h4]
    exact ⟨by rw [HR.out]; simp, by rw [HGG.out]; exact HB1.out⟩
  refine wpList_pureG (v := .bool true) (by kernel_rfl) (by kernel_rfl) ?_
  simp only [Act.put, List.setIfInBounds_toArray, List.set_cons_zero, List.set_cons_succ]
  refine wpList_pureG (v := .bool true) (by kernel_rfl) (by kernel_rfl) ?_
  simp only [Act.put, List.setIfInBounds_toArray, List.set_cons_zero, List.set_cons_succ]
  refine wpList_pureG (v := .pointer (some ⟨g1, 6, none⟩)) (by kernel_rfl) (by kernel_rfl) ?_
  simp only [Act.put, List.setIfInBounds_toArray, List.set_cons_zero, List.set_cons_succ]
  refine wpList_pureG (by kernel_rfl) (exec_ld1 (.tmp 46) rfl ⟨g1, 6, none⟩ _ (by kernel_rfl) e6 (by intro w; kernel_rfl)) ?_
  simp only [Act.put, List.setIfInBounds_toArray, List.set_cons_zero, List.set_cons_succ]
  refine wpList_pureG (v := .pointer (some ⟨g2, 6, none⟩)) (by kernel_rfl) (by kernel_rfl) ?_
  simp only [Act.put, List.setIfInBounds_toArray, List.set_cons_zero, List.set_cons_succ]
  refine wpList_pureG (by kernel_rfl) (exec_ld1 (.tmp 48) rfl ⟨g2, 6, none⟩ _ (by kernel_rfl) f6 (by intro w; kernel_rfl)) ?_
  simp only [Act.put, List.setIfInBounds_toArray, List.set_cons_zero, List.set_cons_succ]
  refine wpList_pureG (by kernel_rfl) (exec_eqlI (.tmp 47) (.tmp 49) rfl .u16 (a.urg : Int) (b.urg : Int) t6 HT6.out (by kernel_rfl) (by kernel_rfl)) ?_
  simp only [Act.put, List.setIfInBounds_toArray, List.set_cons_zero, List.set_cons_succ]
  cases t6
  · refine wpList_tail 4 (.bool false) [] (by kernel_rfl) ?_
    intro a' h4 hd
    go_wp2_with fail
    refine bodyPost_ret (results_tmp rfl a'.tmps _ w2) hd ?_
    rw [h4]
    exact ⟨by rw [HR.out]; simp, by rw [HGG.out]; exact HB1.out⟩
  refine wpList_pureG (v := .bool true) (by kernel_rfl) (by kernel_rfl) ?_
  simp only [Act.put, List.setIfInBounds_toArray, List.set_cons_zero, List.set_cons_succ]
  clear e0 e1 e2 e3 e4 e5 e6 f0 f1 f2 f3 f4 f5 f6
  go_wp2_with (first
    | ((with_reducible refine at_slot 54 ?_); refine wpList_yieldG (by rfl) (exec_loadAt 31 (.tmp 53) rfl ⟨g1, 7, none⟩ rfl co _ (O1.out _ _ HX1.out) Try.underlying31 rfl HI1.out) ?_)
    | ((with_reducible refine at_slot 56 ?_); refine wpList_yieldG (by rfl) (exec_loadAt 31 (.tmp 55) rfl ⟨g2, 7, none⟩ rfl do_ _ (O2.out _ _ HX2.out) Try.underlying31 rfl HI2.out) ?_))
  (with_reducible refine Calls.mono (HSO.out _ HB1.out) ?_)
  rintro e w3 ⟨rfl, hb3⟩
  have e7' := keep_cell hb3 e7 (World.block_lt_of_cell? _ _ e7)
  have f7' := keep_cell hb3 f7 (World.block_lt_of_cell? _ _ f7)
  have HB3 := hid (HB1.out.trans (hb3.mono (by have := HB1.out.size; have := HGG.out; omega)))
  clear e7 f7 hb3
  have HQ := hid (bequal_any _ _ a.data b.data w3 (HD1.out _ HB3.out) (HD2.out _ HB3.out))
  cases t7
  · go_wp2_with fail
    go_ret
    exact ⟨by rw [HR.out]; simp, by rw [HGG.out]; exact HB3.out⟩
  · go_wp2_with fail
    (with_reducible refine Calls.mono HQ.out ?_)
    rintro e w4 ⟨rfl, rfl⟩
    go_wp2_with fail
    go_ret
    exact ⟨by rw [HR.out, show (a.data == b.data) = decide (a.data = b.data) by rw [Bool.eq_iff_iff]; simp]; simp, by rw [HGG.out]; exact HB3.out⟩
end Go.Proofs.Ythnidgiogjehkaa
namespace Go.Proofs.Ythnidgiogjehkaa
set_option linter.unusedVariables false
set_option linter.unusedSimpArgs false
set_option maxRecDepth 20000
open Go.RowKit

theorem and_u8 (f a : Nat) (hf : f < 256) (ha : a < 256) : bits .and .u8 (f : Int) (a : Int) = ((f &&& a : Nat) : Int) := (bits_nat .u8 8 (Nat.le_refl _) (fun n h0 h1 => wraps_u8 n h0 h1) f a hf ha).1
theorem hasG_beq (f a : Nat) : (((f &&& a : Nat) : Int) == (a : Int)) = hasG f a := by
  unfold hasG
  rw [Bool.eq_iff_iff, beq_iff_eq, decide_eq_true_eq]
  omega
theorem hasG_any (s : SegM) (all : Nat) (w : World) (hs : s.flags < 256) (hm : s.o.mac.length = 12) (ha : all < 256) : Calls Try.prog 19 #[.agg s.cells, .int .u8 (all : Int)] w fun e w' => e = .returned (.bool (hasG s.flags all)) ∧ Below w.heap.size w w' := by
  have C := hid fun (W : World) (g : Nat) (h : W.heap[g]? = some (.cells s.cells 34 (0, 0))) => (seg_cells h hm).2.2.2.2.1
  have hb := and_u8 s.flags all hs ha
  have hq := hasG_beq s.flags all
  generalize s.cells = cs at C ⊢
  generalize hasG s.flags all = t at hq ⊢
  go_enter Try.func19, Try.ntmps19
  go_upto_region 1 with fail
  have hc := C.out _ _ (nw1 w (.cells cs 34))
  go_wp2_with fail
  go_ret
  exact ⟨rfl, bl1 _ _⟩
theorem rhasG_any (s : SegM) (all : Nat) (w : World) (hs : s.flags < 256) (hm : s.o.mac.length = 12) (ha : all < 256) : Calls Try.prog 20 #[.agg s.cells, .int .u8 (all : Int)] w fun e w' => e = .returned (.bool (hasG s.flags all)) ∧ Below w.heap.size w w' := by
  have C := hid fun (W : World) (g : Nat) (h : W.heap[g]? = some (.cells s.cells 34 (0, 0))) => (seg_cells h hm).2.2.2.2.1
  have hb := and_u8 s.flags all hs ha
  have hq := hasG_beq s.flags all
  generalize s.cells = cs at C ⊢
  generalize hasG s.flags all = t at hq ⊢
  go_enter Try.func20, Try.ntmps20
  go_upto_region 1 with fail
  have hc := C.out _ _ (nw1 w (.cells cs 34))
  go_wp2_with fail
  go_ret
  exact ⟨rfl, bl1 _ _⟩
def bitN (t : Bool) : Nat := if t then 1 else 0
def lenG (s : SegM) : Nat := s.data.length + bitN (hasG s.flags 2) + bitN (hasG s.flags 1)
theorem and_one (f : Nat) (hf : f < 256) : f &&& 1 = bitN (hasG f 1) := by
  have : ∀ m : Fin 256, m.val &&& 1 = bitN (hasG m.val 1) := by decide +kernel
  exact this ⟨f, hf⟩
theorem and_two (f : Nat) (hf : f < 256) : f &&& 2 = 2 * bitN (hasG f 2) := by
  have : ∀ m : Fin 256, m.val &&& 2 = 2 * bitN (hasG m.val 2) := by decide +kernel
  exact this ⟨f, hf⟩
theorem lenG_any (s : SegM) (w : World) (hs : s.flags < 256) (hm : s.o.mac.length = 12) (hd : s.data.length ≤ 1000000) : Calls Try.prog 15 #[.agg s.cells] w fun e w' => e = .returned (.int .u32 (lenG s : Int)) ∧ Below w.heap.size w w' := by
  have C := hid fun (W : World) (g : Nat) (h : W.heap[g]? = some (.cells s.cells 34 (0, 0))) => seg_cells h hm
  have h1 : bits .and .u8 (s.flags : Int) 1 = ((bitN (hasG s.flags 1) : Nat) : Int) := by rw [← and_one s.flags hs]; exact and_u8 s.flags 1 hs (by decide)
  have h2 : bits .and .u8 (s.flags : Int) 2 = ((2 * bitN (hasG s.flags 2) : Nat) : Int) := by rw [← and_two s.flags hs]; exact and_u8 s.flags 2 hs (by decide)
  unfold lenG
  generalize s.cells = cs at C ⊢
  generalize hasG s.flags 1 = t1 at h1 ⊢
  generalize hasG s.flags 2 = t2 at h2 ⊢
  cases t1 <;> cases t2 <;> (simp only [bitN, if_true, if_false, Nat.mul_one, Nat.mul_zero, Bool.false_eq_true] at h1 h2 ⊢)
  all_goals
    go_enter Try.func15, Try.ntmps15
    go_upto_region 1 with fail
    obtain ⟨_, _, _, _, c4, _, _, c7⟩ := C.out _ _ (nw1 w (.cells cs 34))
    go_wp2_with fail
    go_ret
    refine ⟨ret_int ?_, bl1 _ _⟩
    omega
theorem rlenG_any (s : SegM) (w : World) (hs : s.flags < 256) (hm : s.o.mac.length = 12) (hd : s.data.length ≤ 1000000) : Calls Try.prog 16 #[.agg s.cells] w fun e w' => e = .returned (.int .u32 (lenG s : Int)) ∧ Below w.heap.size w w' := by
  have C := hid fun (W : World) (g : Nat) (h : W.heap[g]? = some (.cells s.cells 34 (0, 0))) => seg_cells h hm
  have HI : Hid ((Try.prog.info? 34).map (·.size) = some s.cells.size) := hid (by
    have : s.cells.size = 32 := by unfold SegM.cells; simp [s.o.size hm]
    rw [this]
    exact (by kernel_rfl : (Try.prog.info? 34).map (·.size) = some 32))
  have H1 := hid fun W => rhasG_any s 1 W hs hm (by decide)
  have H2 := hid fun W => rhasG_any s 2 W hs hm (by decide)
  unfold lenG
  generalize s.cells = cs at C HI H1 H2 ⊢
  generalize hasG s.flags 1 = t1 at H1 ⊢
  generalize hasG s.flags 2 = t2 at H2 ⊢
  cases t1 <;> cases t2 <;> (simp only [bitN, if_true, if_false, Nat.mul_one, Nat.mul_zero, Bool.false_eq_true] at ⊢)
  all_goals
    go_enter Try.func16, Try.ntmps16
    go_upto_region 1 with fail
    have hx := nw1 w (.cells cs 34)
    have hb := bl1 w (.cells cs 34)
    obtain ⟨_, _, _, _, c4, _, _, c7⟩ := C.out _ _ hx
    generalize w.alloc _ = w1 at hx hb c4 c7 ⊢
    go_wp2_with (first
      | ((with_reducible refine at_slot 8 ?_); refine wpList_load_row rfl 34 (.tmp 1) rfl w.heap.size rfl 34 cs _ _ hx Try.underlying34 rfl HI.out ?_))
    (refine Calls.mono (H2.out w1) ?_)
    rintro e w2 ⟨rfl, hb2⟩
    have hx2 := (hb2.block _ (Array.getElem?_eq_some_iff.1 hx).1).trans hx
    have HB2 := hid (below_after hb hb2 (Nat.le_refl _))
    clear hx hb hb2 c4 c7
    go_wp2_with (first
      | ((with_reducible refine at_slot 12 ?_); refine wpList_load_row rfl 34 (.tmp 1) rfl w.heap.size rfl 34 cs _ _ hx2 Try.underlying34 rfl HI.out ?_))
    (refine Calls.mono (H1.out w2) ?_)
    rintro e w3 ⟨rfl, hb3⟩
    have HB3 := hid (below_after HB2.out hb3 (Nat.le_refl _))
    go_wp2_with fail
    go_ret
    refine ⟨ret_int ?_, HB3.out⟩
    omega
end Go.Proofs.Ythnidgiogjehkaa
namespace Go.Proofs.Ythnidgiogjehkaa
set_option linter.unusedVariables false
set_option linter.unusedSimpArgs false
set_option maxRecDepth 20000
open Go.RowKit

set_option maxRecDepth 20000 in
set_option maxHeartbeats 4000000 in
theorem mayG_any (s : SegM) (w : World) (hs : SegOk w s) (hsl : s.o.sacks.length ≤ 1000) :
    Calls Try.prog 13 #[.agg s.cells] w fun e w' => e = .returned (.bool (mayG s)) ∧ Below w.heap.size w w' := by
  have HM := hid (fun W (h : Below w.heap.size w W) => may_any s.o W (hs.o.below h) hsl)
  have HOC := hid (fun (W : World) (g : Nat) (h : W.heap[g]? = some (.cells s.cells 34 (0, 0))) => seg_cells h hs.o.mac)
  have HOO := hid (fun (W : World) (g : Nat) (h : W.heap[g]? = some (.cells s.cells 34 (0, 0))) => seg_optsX h)
  have HI := hid (info_optsX s.o hs.o.mac)
  obtain ⟨t1, h1⟩ : ∃ t, mayO s.o = t := ⟨_, rfl⟩
  obtain ⟨t2, h2⟩ : ∃ t, decide (s.flags ≤ 63) = t := ⟨_, rfl⟩
  obtain ⟨t3, h3⟩ : ∃ t, decide (s.data.length ≤ 16384) = t := ⟨_, rfl⟩
  have HR := hid (show mayG s = (t1 && t2 && t3) by rw [← h1, ← h2, ← h3]; rfl)
  have i2 : decide ((s.flags : Int) ≤ 63) = t2 := by rw [← h2, decide_eq_decide]; omega
  have i3 : decide ((s.data.length : Int) ≤ 16384) = t3 := by rw [← h3, decide_eq_decide]; omega
  rw [h1] at HM
  generalize hr : mayG s = r at HR ⊢
  generalize hco : s.o.cells = co at HOO HI HM
  generalize hcs : s.cells = cs at HOC HOO ⊢
  clear hr hco hcs h1 hs hsl
  obtain ⟨B, hB⟩ : ∃ B, w.heap.size = B := ⟨_, rfl⟩
  rw [hB] at HM
  have HB := hid hB
  clear hB
  have FIN : ∀ (b : Bool) W, r = b → Below B w W → (Ending.returned (Value.bool b) = .returned (.bool r) ∧ Below w.heap.size w W) := fun b W h1 h2 => ⟨by rw [h1], by rw [HB.out]; exact h2⟩
  have HFIN := hid FIN
  clear FIN
  go_enter Try.func13, Try.ntmps13
  go_wp2_with (first
    | ((with_reducible refine at_slot 1 ?_); refine wpList_boxF rfl 34 (.tmp 0) rfl cs rfl ?_; intro w1 hx1 hb1 hz1; rw [HB.out] at hx1 hb1 hz1 ⊢)
    | ((with_reducible refine at_slot 4 ?_); refine wpList_load_at 31 (.tmp 3) rfl rfl ⟨B, 7, none⟩ rfl co _ (HOO.out _ _ hx1) Try.underlying31 rfl HI.out ?_))
  (with_reducible refine Calls.mono (HM.out _ hb1) ?_)
  rintro e w2 ⟨rfl, hb2⟩
  have hx2 := (hb2.block _ (Array.getElem?_eq_some_iff.1 hx1).1).trans hx1
  have HB2 := hid (hb1.trans (hb2.mono (by omega)))
  obtain ⟨f0, f1, f2, f3, f4, f5, f6, f7⟩ := HOC.out _ _ hx2
  clear f0 f1 f2 f3 f5 f6 hx1 hx2 hb1 hb2 hz1
  cases t1
  · clear h2 h3 i2 i3
    go_wp2_with fail
    go_ret
    exact HFIN.out false _ (by rw [HR.out]; rfl) HB2.out
  · cases t2
    · clear h3 i3
      go_wp2_with fail
      go_ret
      exact HFIN.out false _ (by rw [HR.out]; rfl) HB2.out
    · cases t3
      · go_wp2_with fail
        go_ret
        exact HFIN.out false _ (by rw [HR.out]; rfl) HB2.out
      · go_wp2_with fail
        go_ret
        exact HFIN.out true _ (by rw [HR.out]; rfl) HB2.out
end Go.Proofs.Ythnidgiogjehkaa
