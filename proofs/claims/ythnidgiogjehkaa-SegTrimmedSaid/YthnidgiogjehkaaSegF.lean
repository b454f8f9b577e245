/- Walks: how far numbers are apart; a flag that is let go. Walk: a segment within a window. Plain law: what is trimmed. Plain law: what is trimmed lies within the window. Walks: the ring of numbers, by the document. The law SegTrimmed, layer 13. -/
import Derived.Test.YthnidgiogjehkaaSegC
import Derived.Test.YthnidgiogjehkaaSegD
namespace Go.Proofs.Ythnidgiogjehkaa
set_option linter.unusedVariables false
set_option linter.unusedSimpArgs false
set_option maxRecDepth 20000
open Go.RowKit

def aheadG (a b : Nat) : Nat := (b + 4294967296 - a) % 4294967296
def diffG (a b : Nat) : Int := if aheadG a b < 2147483648 then (aheadG a b : Int) else (aheadG a b : Int) - 4294967296
theorem diffG_range (a b : Nat) : -2147483648 ≤ diffG a b ∧ diffG a b < 2147483648 := by
  have : aheadG a b < 4294967296 := Nat.mod_lt _ (by decide)
  unfold diffG
  split <;> omega
theorem diffG_any (a b : Nat) (ha : a < 4294967296) (hb : b < 4294967296) (w : World) : Calls Try.prog 47 #[.int .u32 (a : Int), .int .u32 (b : Int)] w fun e w' => e = .returned (.int .i32 (diffG a b)) ∧ w = w' := by
  obtain ⟨x, hx⟩ : ∃ x, aheadG a b = x := ⟨_, rfl⟩
  have hxl : x < 4294967296 := by rw [← hx]; exact Nat.mod_lt _ (by decide)
  have h1 : ((b : Int) - (a : Int)) % 4294967296 = (x : Int) := by rw [← hx]; unfold aheadG; omega
  have hd : diffG a b = if x < 2147483648 then (x : Int) else (x : Int) - 4294967296 := by unfold diffG; rw [hx]
  obtain ⟨y, hy⟩ : ∃ y, diffG a b = y := ⟨_, rfl⟩
  rw [hy] at hd ⊢
  have h4 : ((x : Int) + 2147483648) % 4294967296 - 2147483648 = y := by rw [hd]; split <;> omega
  have h5 : wrap32 (x : Int) = y := by unfold wrap32; exact h4
  clear hd hx hy
  go_enter Try.func47, Try.ntmps47
  go_wp2_with fail
  go_ret
  exact ⟨by rw [← h5]; rfl, rfl⟩
/-- A flag is let go, if there is one, and something is to go. -/
def dropB (f a : Nat) (n : Int) : Bool := decide (0 < n) && hasG f a
def dropF (f a : Nat) (n : Int) : Nat := if dropB f a n then f - a else f
def dropL (f a : Nat) (n : Int) : Int := if dropB f a n then n - 1 else n
theorem dropF_lt (f a : Nat) (n : Int) (h : f < 256) : dropF f a n < 256 := by unfold dropF; split <;> omega
theorem andNot_one (f : Nat) (hf : f < 256) (h : hasG f 1 = true) : bits .andNot .u8 (f : Int) 1 = ((f - 1 : Nat) : Int) := by
  have : ∀ m : Fin 256, hasG m.val 1 = true → bits .andNot .u8 ((m.val : Nat) : Int) 1 = ((m.val - 1 : Nat) : Int) := by decide +kernel
  exact this ⟨f, hf⟩ h
theorem andNot_two (f : Nat) (hf : f < 256) (h : hasG f 2 = true) : bits .andNot .u8 (f : Int) 2 = ((f - 2 : Nat) : Int) := by
  have : ∀ m : Fin 256, hasG m.val 2 = true → bits .andNot .u8 ((m.val : Nat) : Int) 2 = ((m.val - 2 : Nat) : Int) := by decide +kernel
  exact this ⟨f, hf⟩ h
set_option maxHeartbeats 4000000 in
theorem dropG_any (g a : Nat) (n : Int) (s : SegM) (w : World) (hg : w.heap[g]? = some (.cells s.cells 34 (0, 0))) (hf : s.flags < 256) (hm : s.o.mac.length = 12) (ha : a = 1 ∨ a = 2) (h0 : -9223372036854775807 ≤ n) (h1 : n ≤ 9223372036854775807) :
    Calls Try.prog 48 #[.pointer (some ⟨g, 0, none⟩), .int .u8 (a : Int), .int .i64 n] w fun e w' => e = .returned (.int .i64 (dropL s.flags a n)) ∧ w'.heap[g]? = some (.cells ({ s with flags := dropF s.flags a n } : SegM).cells 34 (0, 0)) ∧ Mod [g] w w' := by
  have HIS := hid (info_segX s hm)
  have HH := hid (fun W => hasG_any s a W hf hm (by omega))
  have HAN := hid (fun (h : hasG s.flags a = true) => show bits .andNot .u8 (s.flags : Int) (a : Int) = ((s.flags - a : Nat) : Int) by
    rcases ha with rfl | rfl
    · exact andNot_one _ hf h
    · exact andNot_two _ hf h)
  have HG := hid hg
  obtain ⟨t1, ht1⟩ : ∃ t, decide (0 < n) = t := ⟨_, rfl⟩
  obtain ⟨t2, ht2⟩ : ∃ t, hasG s.flags a = t := ⟨_, rfl⟩
  have HDB : Hid (dropB s.flags a n = (t1 && t2)) := hid (by unfold dropB; rw [ht1, ht2])
  rw [ht2] at HH HAN
  have HT := hid ht1
  have HFF := hid (fun (t : Bool) (h : (t1 && t2) = t) => show dropF s.flags a n = (if t then s.flags - a else s.flags) ∧ dropL s.flags a n = (if t then n - 1 else n) by unfold dropF dropL; rw [HDB.out, h]; exact ⟨rfl, rfl⟩)
  clear ht2 hg
  cases t1
  · obtain ⟨e1, e2⟩ := HFF.out false (by rfl)
    rw [e1, e2]
    clear e1 e2 HFF HDB HAN HH
    go_enter Try.func48, Try.ntmps48
    go_wp2_with fail
    go_ret
    exact ⟨rfl, HG.out, Mod.refl _ _⟩
  · have hnp : 0 < n := of_decide_eq_true HT.out
    generalize hcs : s.cells = cs at HH HIS HG
    have HCS := hid hcs
    clear hcs
    have hx := HG.out
    cases t2
    · obtain ⟨e1, e2⟩ := HFF.out false (by rfl)
      rw [e1, e2]
      clear e1 e2 HFF HDB HAN
      go_enter Try.func48, Try.ntmps48
      go_wp2_with (first
        | ((with_reducible refine at_slot 12 ?_); refine wpList_rowG (by rfl) 34 (.tmp 11) rfl g rfl _ cs _ hx Try.underlying34 rfl HIS.out ?_))
      (with_reducible refine Calls.mono (HH.out _) ?_)
      rintro e w1 ⟨rfl, hb1⟩
      go_wp2_with fail
      go_ret
      have hx1 := (hb1.block _ (Array.getElem?_eq_some_iff.1 hx).1).trans hx
      exact ⟨rfl, by rw [hx1, ← HCS.out], (Mod.of_below hb1).sub (by simp)⟩
    · obtain ⟨e1, e2⟩ := HFF.out true (by rfl)
      rw [e1, e2]
      have han := HAN.out (by rfl)
      clear e1 e2 HFF HDB HAN
      go_enter Try.func48, Try.ntmps48
      go_wp2_with (first
        | ((with_reducible refine at_slot 12 ?_); refine wpList_rowG (by rfl) 34 (.tmp 11) rfl g rfl _ cs _ hx Try.underlying34 rfl HIS.out ?_))
      (with_reducible refine Calls.mono (HH.out _) ?_)
      rintro e w1 ⟨rfl, hb1⟩
      have hx1 := (hb1.block _ (Array.getElem?_eq_some_iff.1 hx).1).trans hx
      have hx2 := hx1
      rw [← HCS.out] at hx2
      have c4 := (seg_cells hx2 hm).2.2.2.2.1
      have z4 := frozRow hx1 4
      go_wp2_with fail
      go_ret
      have hx3 := rowSetCell hx2 4 (.int .u8 ((s.flags - a : Nat) : Int))
      rw [SegM.set_flags] at hx3
      exact ⟨rfl, hx3, ((Mod.of_below hb1).sub (by simp)).trans (Mod.setCell g 4 _ (by simp))⟩
end Go.Proofs.Ythnidgiogjehkaa
namespace Go.Proofs.Ythnidgiogjehkaa
set_option linter.unusedVariables false
set_option linter.unusedSimpArgs false
set_option maxRecDepth 20000
open Go.RowKit

def lenF (f n : Nat) : Nat := n + bitN (hasG f 2) + bitN (hasG f 1)
/-- How much of the data is cut off at its head, and the flags behind that. -/
def headK (f len : Nat) (ah : Int) : Nat := min (dropL f 2 ah).toNat len
def headF (f len : Nat) (ah : Int) : Nat := dropF (dropF f 2 ah) 1 (dropL f 2 ah - (headK f len ah : Int))
def overT (f len : Nat) (lim : Int) : Int := (lenF f len : Int) - max lim 0
def tailK (f len : Nat) (lim : Int) : Nat := min (max (dropL f 1 (overT f len lim)) 0).toNat len
def tailF (f len : Nat) (lim : Int) : Nat := dropF (dropF f 1 (overT f len lim)) 2 (dropL f 1 (overT f len lim) - (tailK f len lim : Int))
def trimH (s : SegM) (b : Nat) : SegM := if 0 < diffG s.seq b then { s with seq := b, flags := headF s.flags s.data.length (diffG s.seq b), data := s.data.drop (headK s.flags s.data.length (diffG s.seq b)) } else s
def trimA (s : SegM) (b : Nat) : Int := if 0 < diffG s.seq b then 0 else diffG s.seq b
def trimT (s : SegM) (lim : Int) : SegM := { s with flags := tailF s.flags s.data.length lim, data := s.data.take (s.data.length - tailK s.flags s.data.length lim) }
def trimG (s : SegM) (b z : Nat) : SegM := trimT (trimH s b) ((z : Int) + trimA s b)
def SegM.put (s : SegM) (D : Option Addr) (dc : Nat) : SegM := { s with D := D, dc := dc }
theorem dropL_range (f a : Nat) (n : Int) : n - 1 ≤ dropL f a n ∧ dropL f a n ≤ n ∧ (0 ≤ n → 0 ≤ dropL f a n) := by
  unfold dropL dropB
  split
  · rename_i h
    simp only [Bool.and_eq_true, decide_eq_true_eq] at h
    omega
  · omega
theorem bitN_le (t : Bool) : bitN t ≤ 1 := by cases t <;> decide
/-- b[:h:h]. -/
theorem cutG_hm {A : Option Addr} {c : Nat} {b : List UInt8} (hc : b.length ≤ c) (h : Nat) (h2 : h ≤ b.length) :
    ∃ B k, (∀ W, (Instr.slice 32 (.slice A b.length c) none (some (.int .i64 (h : Int))) (some (.int .i64 (h : Int)))).run Try.prog W = .ok (.slice B h k) W) ∧ (∀ W, RB W (.slice A b.length c) b → RB W (.slice B h k) (b.take h)) := by
  obtain ⟨i0, hi0, hz0, hz1, hz2⟩ := info_parts info_u8
  refine ⟨A, h, fun W => ?_, fun W hw => ?_⟩
  · have ht : Try.prog.underlying 32 = some (.slice 5) := Try.underlying32
    have hel : Try.prog.elem 32 = 5 := by simp [Program.elem, ht]
    have hu : Try.prog.underlying 32 = some (.slice (Try.prog.elem 32)) := by rw [hel]; exact ht
    rw [run_slice_hm W 32 A b.length c hu .i64 .i64 (h : Int) (h : Int) (by omega) (by omega) (by omega), hel]
    have hm : A.map (fun x => x.add 0) = A := by cases A <;> simp [add_zero']
    simp [sizeOf, typeInfo, hi0, hz1, Result.andThen, sliced, hm]
  · obtain ⟨A', c', e, r⟩ := hw
    injection e with e1 e2 e3
    subst e1 e3
    have r1 := (r.take (m := h) h2).recap (c' := h) (Nat.le_refl _) (by have := r.top; omega)
    have hl : (b.take h).length = h := by rw [List.length_take]; omega
    refine ⟨A, h, by rw [hl], ?_⟩
    rw [hl]
    rw [Nat.mul_one, by8_take] at r1
    exact r1
def TrimRes (B : Nat) (w : World) (m : SegM) (e : Ending) (w' : World) : Prop := ∃ D dc, e = .returned (.agg (m.put D dc).cells) ∧ SegOk w' (m.put D dc) ∧ Below B w w'
set_option maxHeartbeats 8000000 in
theorem trimG_any (s : SegM) (b z : Nat) (w : World) (hs : SegOk w s) (hb : b < 4294967296) (hz : z < 4294967296) (hl : s.data.length ≤ 100000) :
    Calls Try.prog 25 #[.agg s.cells, .int .u32 (b : Int), .int .u32 (z : Int)] w (TrimRes w.heap.size w (trimG s b z)) := by
  have HDF := hid (diffG_any s.seq b hs.seq hb)
  have hdr := diffG_range s.seq b
  have HIS := hid (info_segX s hs.o.mac)
  have HAL := hid alloc_noSegG
  have HSN := hid (SegM.size noSegG rfl)
  have HDT := hid (fun W (h : Below w.heap.size w W) => hs.data.below h)
  have HOK := hid (fun W (h : Below w.heap.size w W) => hs.o.below h)
  have HSS := hid (show s.src < 65536 ∧ s.dst < 65536 ∧ s.seq < 4294967296 ∧ s.ack < 4294967296 ∧ s.flags < 256 ∧ s.win < 65536 ∧ s.urg < 65536 from ⟨hs.src, hs.dst, hs.seq, hs.ack, hs.flags, hs.win, hs.urg⟩)
  have hmac := hs.o.mac
  have HTG := hid (show trimG s b z = trimT (trimH s b) ((z : Int) + trimA s b) from rfl)
  generalize noSegG.cells = nc at HAL HSN
  generalize trimG s b z = res at HTG ⊢
  unfold trimH trimA at HTG
  obtain ⟨ah, hah⟩ : ∃ x, diffG s.seq b = x := ⟨_, rfl⟩
  rw [hah] at HDF hdr HTG
  obtain ⟨B, hB⟩ : ∃ B, w.heap.size = B := ⟨_, rfl⟩
  rw [hB] at HDT HOK ⊢
  have HB := hid hB
  have hsg : ∃ m0 : SegM, m0 = s := ⟨s, rfl⟩
  clear hB hah hs
  go_enter Try.func25, Try.ntmps25
  go_upto_region 1 with (first
    | ((with_reducible refine at_slot 3 ?_); refine wpList_boxF rfl 34 (.tmp 0) rfl s.cells rfl ?_; intro w1 hx1 hb1 hz1; rw [HB.out] at hx1 hb1 hz1 ⊢)
    | ((with_reducible refine at_slot 6 ?_); refine wpList_allocF rfl 34 rfl _ HAL.out ?_; intro w2 hx2 hb2 hz2; rw [hz1] at hx2 hb2 hz2 ⊢; (have hs2 := (hb2.block B (by omega)).trans hx1); (have HB2 := hid (hb1.trans (hb2.mono (by omega)))); clear hx1 hb1 hz1))
  obtain ⟨_, _, c2, _⟩ := seg_cells hs2 hmac
  go_wp2_with fail
  (with_reducible refine Calls.mono (HDF.out _) ?_)
  rintro e w3 ⟨rfl, rfl⟩
  obtain ⟨t, ht⟩ : ∃ t, decide (0 < ah) = t := ⟨_, rfl⟩
  have HT := hid ht
  clear c2 HDF
  go_upto_region 2 with fail
  cases t
  · have HTG2 := HTG.out
    have hn0 : ¬ 0 < ah := of_decide_eq_false ht
    rw [if_neg hn0, if_neg hn0] at HTG2
    have hal : ah ≤ 0 := by omega
    have hal2 : -2147483648 ≤ ah := hdr.1
    have HXm := hid hs2
    have HNm := hid hx2
    have HBm := HB2
    have hzm : B + 1 < w2.heap.size := by omega
    have hmm := hmac
    have hfm := HSS.out.2.2.2.2.1
    have hlm := hl
    have HDm := HDT
    have HSK := hid (fun (W : World) (f : Nat) (D : Option Addr) (dc : Nat) (d : List UInt8) (h : Below B w W) (h1 : f < 256) (h2 : RB W (.slice D d.length dc) d) => (⟨HSS.out.1, HSS.out.2.1, HSS.out.2.2.1, HSS.out.2.2.2.1, h1, HSS.out.2.2.2.2.2.1, HSS.out.2.2.2.2.2.2, HOK.out W h, h2⟩ : SegOk W ({ s with flags := f, D := D, dc := dc, data := d } : SegM)))
    have HRS := hid (fun (D : Option Addr) (dc : Nat) => show res.put D dc = ({ s with flags := tailF s.flags s.data.length ((z : Int) + ah), D := D, dc := dc, data := s.data.take (s.data.length - tailK s.flags s.data.length ((z : Int) + ah)) } : SegM) by rw [HTG2]; rfl)
    clear HTG HTG2 hdr hmac hl hs2 hx2 HB2 HDT HOK HSS hb2 hz2 hn0 ht
    generalize s = m at *
    generalize ah = av at *
    generalize w2 = wm at *
    go_wp2_with (first
      | ((with_reducible refine at_slot 38 ?_); refine wpList_load_row rfl 34 (.tmp 3) rfl B rfl _ m.cells _ _ HXm.out Try.underlying34 rfl (info_segX m hmm) ?_))
    (with_reducible refine Calls.mono (lenG_any m _ hfm hmm (by omega)) ?_)
    rintro e w4 ⟨rfl, hb4⟩
    have hx4 := (hb4.block B (by omega)).trans HXm.out
    have hn4 := (hb4.block (B + 1) (by omega)).trans HNm.out
    have HB4 := hid (HBm.out.trans (hb4.mono (by omega)))
    have hz4 : B + 1 < w4.heap.size := Nat.lt_of_lt_of_le hzm hb4.size
    clear hb4 HXm HNm HBm hzm
    have hlg : lenG m = lenF m.flags m.data.length := rfl
    have hlb : lenF m.flags m.data.length ≤ 100002 := by unfold lenF; have := bitN_le (hasG m.flags 1); have := bitN_le (hasG m.flags 2); omega
    rw [hlg]
    obtain ⟨lim, hlim⟩ : ∃ x : Int, (z : Int) + av = x := ⟨_, rfl⟩
    rw [hlim] at HRS
    have hlr : -2147483648 ≤ lim ∧ lim ≤ 4294967296 := by omega
    obtain ⟨M, hM⟩ : ∃ x : Int, max lim 0 = x := ⟨_, rfl⟩
    have hMr : 0 ≤ M ∧ M ≤ 4294967296 := by omega
    have a1 : (if lim < 0 then 0 else lim) = M := by split <;> omega
    have a2 : (if 0 < lim then lim else 0) = M := by split <;> omega
    have a3 : (if lim ≤ 0 then 0 else lim) = M := by split <;> omega
    obtain ⟨ov, hov⟩ : ∃ x, overT m.flags m.data.length lim = x := ⟨_, rfl⟩
    have hov2 : (lenF m.flags m.data.length : Int) - M = ov := by rw [← hov, ← hM]; rfl
    have hor : -4294967296 ≤ ov ∧ ov ≤ 100002 := by omega
    obtain ⟨f3, hf3⟩ : ∃ x, dropF m.flags 1 ov = x := ⟨_, rfl⟩
    obtain ⟨o1, ho1⟩ : ∃ x, dropL m.flags 1 ov = x := ⟨_, rfl⟩
    have hf3l : f3 < 256 := by rw [← hf3]; exact dropF_lt _ _ _ hfm
    have hor1 := dropL_range m.flags 1 ov
    rw [ho1] at hor1
    obtain ⟨k2, hk2⟩ : ∃ x, tailK m.flags m.data.length lim = x := ⟨_, rfl⟩
    have hk2e : min (max o1 0).toNat m.data.length = k2 := by rw [← hk2]; unfold tailK; rw [hov, ho1]
    have hk2l : k2 ≤ m.data.length := by omega
    obtain ⟨f4, hf4⟩ : ∃ x, dropF f3 2 (o1 - (k2 : Int)) = x := ⟨_, rfl⟩
    have htf : tailF m.flags m.data.length lim = f4 := by unfold tailF; rw [hov, ho1, hf3, hk2, hf4]
    have hf4l : f4 < 256 := by rw [← hf4]; exact dropF_lt _ _ _ hf3l
    rw [htf, hk2] at HRS
    obtain ⟨P, hP⟩ : ∃ x : Int, max o1 0 = x := ⟨_, rfl⟩
    have p1 : (if o1 < 0 then 0 else o1) = P := by split <;> omega
    have p2 : (if 0 < o1 then o1 else 0) = P := by split <;> omega
    have p3 : (if o1 ≤ 0 then 0 else o1) = P := by split <;> omega
    have q1 : min P (m.data.length : Int) = (k2 : Int) := by omega
    have q2 : (if (m.data.length : Int) < P then (m.data.length : Int) else P) = (k2 : Int) := by split <;> omega
    have q3 : (if P < (m.data.length : Int) then P else (m.data.length : Int)) = (k2 : Int) := by split <;> omega
    have q4 : (if P ≤ (m.data.length : Int) then P else (m.data.length : Int)) = (k2 : Int) := by split <;> omega
    have HD3 := hid (dropG_any B 1 ov m w4 hx4 hfm hmm (.inl rfl) (by omega) (by omega))
    rw [ho1, hf3] at HD3
    have HF4 := hid hf4
    have HSD := hid hlim
    have HOV := hid hov2
    have HML := hid (show 0 ≤ lim → (lenF m.flags m.data.length : Int) - lim = ov from fun h => by omega)
    clear hlg hM hov ho1 hf3 hk2 hk2e hf4 htf hP hx4 hlim hov2
    generalize lenF m.flags m.data.length = ln at *
    go_upto_region 9 with fail
    try simp only [HSD.out]
    try simp only [a1, a2, a3]
    try simp only [HOV.out]
    go_wp2_with fail
    (with_reducible refine Calls.mono HD3.out ?_)
    rintro e w5 ⟨rfl, hx5, m5⟩
    have hn5 := m5.keeps hn4 (by simp)
    have HB5 := hid (Mod.below HB4.out m5 (Nat.le_of_eq HB.out.symm) (by simp))
    have hz5 : B + 1 < w5.heap.size := Nat.lt_of_lt_of_le hz4 m5.size
    clear m5 hn4 HB4 hz4 HD3
    have hmm5 : ({ m with flags := f3 } : SegM).o.mac.length = 12 := hmm
    obtain ⟨_, _, _, _, _, _, _, c31⟩ := seg_cells hx5 hmm5
    dsimp only at c31
    go_upto_region 11 with fail
    try simp only [p1, p2, p3, q1, q2, q3, q4]
    have hRB5 := HDm.out w5 HB5.out
    have hcapm : m.data.length ≤ m.dc := by
      obtain ⟨A', c', e, r⟩ := hRB5
      injection e with e1 e2 e3
      subst e3
      exact r.cap
    have hP0 : 0 ≤ P ∧ P ≤ 100003 := by omega
    clear a1 a2 a3 p1 p2 p3 q1 q2 q3 q4 hRB5
    by_cases hk0 : k2 = 0
    · subst hk0
      have HD6 := hid (fun W (h : W.heap[B]? = some (.cells ({ m with flags := f3 } : SegM).cells 34 (0, 0))) => dropG_any B 2 o1 { m with flags := f3 } W h hf3l hmm (.inr rfl) (by omega) (by omega))
      have e0 : o1 - ((0 : Nat) : Int) = o1 := by omega
      rw [e0] at HF4
      have HF4' := hid (show dropF ({ m with flags := f3 } : SegM).flags 2 o1 = f4 from HF4.out)
      go_wp2_with fail
      (with_reducible refine Calls.mono (HD6.out _ hx5) ?_)
      rintro e w6 ⟨rfl, hx6, m6⟩
      rw [HF4'.out] at hx6
      have hn6 := m6.keeps hn5 (by simp)
      have HB6 := hid (Mod.below HB5.out m6 (Nat.le_of_eq HB.out.symm) (by simp))
      have hres := HRS.out m.D m.dc
      rw [Nat.sub_zero, List.take_length] at hres
      have hx6' : w6.heap[B]? = some (.cells (res.put m.D m.dc).cells 34 (0, 0)) := by rw [hres]; exact hx6
      have hok' : ∀ W, Below B w W → SegOk W (res.put m.D m.dc) := fun W h => by rw [hres]; exact HSK.out W f4 m.D m.dc m.data h hf4l (HDm.out W h)
      obtain ⟨rm, hrm⟩ : ∃ x, res.put m.D m.dc = x := ⟨_, rfl⟩
      rw [hrm] at hx6' hok'
      have hrmac := (hok' w6 HB6.out).o.mac
      go_wp2_with (first
        | ((with_reducible refine at_slot 73 ?_); refine wpList_load_row rfl 34 (.tmp 3) rfl B rfl _ rm.cells _ _ hx6' Try.underlying34 rfl (info_segX rm hrmac) ?_)
        | ((with_reducible refine at_store 6 73 ?_); refine wpList_rowF rfl 34 (.tmp 6) (.tmp 73) rfl (B + 1) 34 _ rm.cells rfl rfl hn6 (info_segX rm hrmac) (by rw [HSN.out, SegM.size rm hrmac]) (SegM.one rm) ?_; intro w7 h7 m7 s7))
      try simp only [Act.put, List.setIfInBounds_toArray, List.set_cons_zero, List.set_cons_succ]
      refine ret_cell1 (p := 6) rfl rfl h7 Try.underlying34 rfl (info_segX rm hrmac) ⟨m.D, m.dc, by rw [hrm], by rw [hrm]; exact hok' w7 (Mod.below HB6.out m7 (Nat.le_of_eq HB.out.symm) (by simp)), Mod.below HB6.out m7 (Nat.le_of_eq HB.out.symm) (by simp)⟩
    · have hk1 : 0 < k2 := by omega
      obtain ⟨hh, hhe⟩ : ∃ x, m.data.length - k2 = x := ⟨_, rfl⟩
      have hhi : (m.data.length : Int) - (k2 : Int) = (hh : Int) := by omega
      rw [hhe] at HRS
      obtain ⟨Bq, kq, hcut, hrc⟩ := cutG_hm (A := m.D) (c := m.dc) hcapm hh (by omega)
      have HRC := hid hrc
      have hdl : (m.data.take hh).length = hh := by rw [List.length_take]; omega
      have HDL := hid hdl
      have z31 := frozRow hx5 31
      clear hrc hdl hhe
      go_upto_region 14 with fail
      have hx6 := rowSetCell hx5 31 (.slice Bq hh kq)
      rw [SegM.set_data ({ m with flags := f3 } : SegM) Bq kq (m.data.take hh) hh HDL.out hmm5] at hx6
      have m6 : Mod [B] w5 (w5.setCell ⟨B, 31, none⟩ (.slice Bq hh kq)) := Mod.setCell _ _ _ (by simp)
      have hn6 := m6.keeps hn5 (by simp)
      have HB6' := hid (Mod.below HB5.out m6 (Nat.le_of_eq HB.out.symm) (by simp))
      clear m6 z31 c31 hx5 hn5
      have HB5' := HB5
      generalize w5.setCell _ _ = w6' at hx6 hn6 HB6' ⊢
      have HD6 := hid (fun W (h : W.heap[B]? = some (.cells ({ m with flags := f3, D := Bq, dc := kq, data := m.data.take hh } : SegM).cells 34 (0, 0))) => dropG_any B 2 (o1 - (k2 : Int)) { m with flags := f3, D := Bq, dc := kq, data := m.data.take hh } W h hf3l hmm (.inr rfl) (by omega) (by omega))
      have HF4' := hid (show dropF ({ m with flags := f3, D := Bq, dc := kq, data := m.data.take hh } : SegM).flags 2 (o1 - (k2 : Int)) = f4 from HF4.out)
      go_wp2_with fail
      (with_reducible refine Calls.mono (HD6.out _ hx6) ?_)
      rintro e w6 ⟨rfl, hx7, m6⟩
      rw [HF4'.out] at hx7
      have hn6 := m6.keeps hn6 (by simp)
      have HB6 := hid (Mod.below HB6'.out m6 (Nat.le_of_eq HB.out.symm) (by simp))
      have hres := HRS.out Bq kq
      have hx6' : w6.heap[B]? = some (.cells (res.put Bq kq).cells 34 (0, 0)) := by rw [hres]; exact hx7
      have hok' : ∀ W, Below B w W → SegOk W (res.put Bq kq) := fun W h => by rw [hres]; exact HSK.out W f4 Bq kq (m.data.take hh) h hf4l (by rw [HDL.out]; exact HRC.out W (HDm.out W h))
      obtain ⟨rm, hrm⟩ : ∃ x, res.put Bq kq = x := ⟨_, rfl⟩
      rw [hrm] at hx6' hok'
      have hrmac := (hok' w6 HB6.out).o.mac
      go_wp2_with (first
        | ((with_reducible refine at_slot 73 ?_); refine wpList_load_row rfl 34 (.tmp 3) rfl B rfl _ rm.cells _ _ hx6' Try.underlying34 rfl (info_segX rm hrmac) ?_)
        | ((with_reducible refine at_store 6 73 ?_); refine wpList_rowF rfl 34 (.tmp 6) (.tmp 73) rfl (B + 1) 34 _ rm.cells rfl rfl hn6 (info_segX rm hrmac) (by rw [HSN.out, SegM.size rm hrmac]) (SegM.one rm) ?_; intro w7 h7 m7 s7))
      try simp only [Act.put, List.setIfInBounds_toArray, List.set_cons_zero, List.set_cons_succ]
      refine ret_cell1 (p := 6) rfl rfl h7 Try.underlying34 rfl (info_segX rm hrmac) ⟨Bq, kq, by rw [hrm], by rw [hrm]; exact hok' w7 (Mod.below HB6.out m7 (Nat.le_of_eq HB.out.symm) (by simp)), Mod.below HB6.out m7 (Nat.le_of_eq HB.out.symm) (by simp)⟩
  · have hp0 : 0 < ah := of_decide_eq_true ht
    have HTG2 := HTG.out
    rw [if_pos hp0, if_pos hp0] at HTG2
    have hfl := HSS.out.2.2.2.2.1
    have HDa := hid (dropG_any B 2 ah s w2 hs2 hfl hmac (.inr rfl) (by omega) (by omega))
    have hor0 := dropL_range s.flags 2 ah
    obtain ⟨f1, hf1⟩ : ∃ x, dropF s.flags 2 ah = x := ⟨_, rfl⟩
    obtain ⟨n1, hn1⟩ : ∃ x, dropL s.flags 2 ah = x := ⟨_, rfl⟩
    rw [hf1, hn1] at HDa
    rw [hn1] at hor0
    have hf1l : f1 < 256 := by rw [← hf1]; exact dropF_lt _ _ _ hfl
    obtain ⟨k, hk⟩ : ∃ x, headK s.flags s.data.length ah = x := ⟨_, rfl⟩
    have hke : min n1.toNat s.data.length = k := by rw [← hk]; unfold headK; rw [hn1]
    obtain ⟨f2, hf2⟩ : ∃ x, dropF f1 1 (n1 - (k : Int)) = x := ⟨_, rfl⟩
    have hf2l : f2 < 256 := by rw [← hf2]; exact dropF_lt _ _ _ hf1l
    have hhf : headF s.flags s.data.length ah = f2 := by unfold headF; rw [hf1, hn1, hk, hf2]
    rw [hhf, hk] at HTG2
    have b1 : min n1 (s.data.length : Int) = (k : Int) := by omega
    have b2 : (if (s.data.length : Int) < n1 then (s.data.length : Int) else n1) = (k : Int) := by split <;> omega
    have b3 : (if n1 < (s.data.length : Int) then n1 else (s.data.length : Int)) = (k : Int) := by split <;> omega
    have b4 : (if n1 ≤ (s.data.length : Int) then n1 else (s.data.length : Int)) = (k : Int) := by split <;> omega
    have hkl : k ≤ s.data.length := by omega
    have HF2 := hid hf2
    clear hf1 hn1 hk hke hf2 hhf ht
    go_wp2_with fail
    (with_reducible refine Calls.mono HDa.out ?_)
    rintro e w3 ⟨rfl, hx3, m3⟩
    have hn3 := m3.keeps hx2 (by simp)
    have HB3 := hid (Mod.below HB2.out m3 (Nat.le_of_eq HB.out.symm) (by simp))
    have hz3 : B + 1 < w3.heap.size := by have := m3.size; omega
    clear m3 hs2 hx2 HB2 hb2 HDa
    have hmm3 : ({ s with flags := f1 } : SegM).o.mac.length = 12 := hmac
    obtain ⟨_, _, _, _, _, _, _, c31⟩ := seg_cells hx3 hmm3
    dsimp only at c31
    have hRB3 := HDT.out w3 HB3.out
    go_upto_region 5 with fail
    try simp only [b1, b2, b3, b4]
    obtain ⟨Bh, kh, hcut0, hrc0⟩ := cutG_l (A := s.D) (c := s.dc) (b := s.data) k (k : Int) rfl hkl
    obtain ⟨ld, hld⟩ : ∃ x, s.data.length - k = x := ⟨_, rfl⟩
    rw [hld] at hcut0 hrc0
    have HRC0 := hid hrc0
    have hdl0 : (s.data.drop k).length = ld := by rw [List.length_drop]; exact hld
    have HDL0 := hid hdl0
    have z31 := frozRow hx3 31
    clear hrc0 hdl0 hld b1 b2 b3 b4
    go_upto_region 6 with fail
    have hx4 := rowSetCell hx3 31 (.slice Bh ld kh)
    rw [SegM.set_data ({ s with flags := f1 } : SegM) Bh kh (s.data.drop k) ld HDL0.out hmm3] at hx4
    have m4 : Mod [B] w3 (w3.setCell ⟨B, 31, none⟩ (.slice Bh ld kh)) := Mod.setCell _ _ _ (by simp)
    have hn4 := m4.keeps hn3 (by simp)
    have HB4 := hid (Mod.below HB3.out m4 (Nat.le_of_eq HB.out.symm) (by simp))
    have hz4 : B + 1 < (w3.setCell ⟨B, 31, none⟩ (.slice Bh ld kh)).heap.size := by rw [size_setCell]; exact hz3
    clear m4 z31 c31 hx3 hn3 HB3 hz3 hRB3
    generalize w3.setCell _ _ = w4 at hx4 hn4 HB4 hz4 ⊢
    have HDb := hid (fun W (h : W.heap[B]? = some (.cells ({ s with flags := f1, D := Bh, dc := kh, data := s.data.drop k } : SegM).cells 34 (0, 0))) => dropG_any B 1 (n1 - (k : Int)) { s with flags := f1, D := Bh, dc := kh, data := s.data.drop k } W h hf1l hmac (.inl rfl) (by omega) (by omega))
    have HF2' := hid (show dropF ({ s with flags := f1, D := Bh, dc := kh, data := s.data.drop k } : SegM).flags 1 (n1 - (k : Int)) = f2 from HF2.out)
    go_wp2_with fail
    (with_reducible refine Calls.mono (HDb.out _ hx4) ?_)
    rintro e w5 ⟨rfl, hx5, m5⟩
    rw [HF2'.out] at hx5
    have hn5 := m5.keeps hn4 (by simp)
    have HB5 := hid (Mod.below HB4.out m5 (Nat.le_of_eq HB.out.symm) (by simp))
    have hz5 : B + 1 < w5.heap.size := Nat.lt_of_lt_of_le hz4 m5.size
    clear m5 hx4 hn4 HB4 hz4 HDb HF2'
    have hmm5 : ({ s with flags := f2, D := Bh, dc := kh, data := s.data.drop k } : SegM).o.mac.length = 12 := hmac
    obtain ⟨_, _, c2, _⟩ := seg_cells hx5 hmm5
    have z2 := frozRow hx5 2
    go_upto_region 8 with fail
    have hx6 := rowSetCell hx5 2 (.int .u32 (b : Int))
    rw [SegM.set_seq] at hx6
    have m6 : Mod [B] w5 (w5.setCell ⟨B, 2, none⟩ (.int .u32 (b : Int))) := Mod.setCell _ _ _ (by simp)
    have hn6 := m6.keeps hn5 (by simp)
    have HB6 := hid (Mod.below HB5.out m6 (Nat.le_of_eq HB.out.symm) (by simp))
    have hzm : B + 1 < (w5.setCell ⟨B, 2, none⟩ (.int .u32 (b : Int))).heap.size := by rw [size_setCell]; exact hz5
    clear m6 z2 c2 hx5 hn5 HB5 hz5
    generalize w5.setCell _ _ = wm at hx6 hn6 HB6 hzm ⊢
    have HXm := hid hx6
    have HNm := hid hn6
    have HBm := HB6
    have hmm : ({ s with seq := b, flags := f2, D := Bh, dc := kh, data := s.data.drop k } : SegM).o.mac.length = 12 := hmac
    have hfm : ({ s with seq := b, flags := f2, D := Bh, dc := kh, data := s.data.drop k } : SegM).flags < 256 := hf2l
    have hlm : ({ s with seq := b, flags := f2, D := Bh, dc := kh, data := s.data.drop k } : SegM).data.length ≤ 100000 := by show (s.data.drop k).length ≤ 100000; rw [List.length_drop]; omega
    have HDm : Hid (∀ W, Below B w W → RB W (.slice ({ s with seq := b, flags := f2, D := Bh, dc := kh, data := s.data.drop k } : SegM).D ({ s with seq := b, flags := f2, D := Bh, dc := kh, data := s.data.drop k } : SegM).data.length ({ s with seq := b, flags := f2, D := Bh, dc := kh, data := s.data.drop k } : SegM).dc) ({ s with seq := b, flags := f2, D := Bh, dc := kh, data := s.data.drop k } : SegM).data) := hid (fun W h => by
      show RB W (.slice Bh (s.data.drop k).length kh) (s.data.drop k)
      rw [HDL0.out]
      exact HRC0.out W (HDT.out W h))
    have HSK := hid (fun (W : World) (f : Nat) (D : Option Addr) (dc : Nat) (d : List UInt8) (h : Below B w W) (h1 : f < 256) (h2 : RB W (.slice D d.length dc) d) => (⟨HSS.out.1, HSS.out.2.1, hb, HSS.out.2.2.2.1, h1, HSS.out.2.2.2.2.2.1, HSS.out.2.2.2.2.2.2, HOK.out W h, h2⟩ : SegOk W ({ ({ s with seq := b, flags := f2, D := Bh, dc := kh, data := s.data.drop k } : SegM) with flags := f, D := D, dc := dc, data := d } : SegM)))
    have HRS := hid (fun (D : Option Addr) (dc : Nat) => show res.put D dc = ({ ({ s with seq := b, flags := f2, D := Bh, dc := kh, data := s.data.drop k } : SegM) with flags := tailF f2 (s.data.drop k).length ((z : Int) + 0), D := D, dc := dc, data := (s.data.drop k).take ((s.data.drop k).length - tailK f2 (s.data.drop k).length ((z : Int) + 0)) } : SegM) by rw [HTG2]; rfl)
    rw [Int.add_zero] at HRS
    have HRS' : Hid (∀ (D : Option Addr) (dc : Nat), res.put D dc = ({ ({ s with seq := b, flags := f2, D := Bh, dc := kh, data := s.data.drop k } : SegM) with flags := tailF ({ s with seq := b, flags := f2, D := Bh, dc := kh, data := s.data.drop k } : SegM).flags ({ s with seq := b, flags := f2, D := Bh, dc := kh, data := s.data.drop k } : SegM).data.length (z : Int), D := D, dc := dc, data := ({ s with seq := b, flags := f2, D := Bh, dc := kh, data := s.data.drop k } : SegM).data.take (({ s with seq := b, flags := f2, D := Bh, dc := kh, data := s.data.drop k } : SegM).data.length - tailK ({ s with seq := b, flags := f2, D := Bh, dc := kh, data := s.data.drop k } : SegM).flags ({ s with seq := b, flags := f2, D := Bh, dc := kh, data := s.data.drop k } : SegM).data.length (z : Int)) } : SegM)) := HRS
    clear HTG HTG2 hdr hmac hl HDT HOK HSS HRS hx6 hn6 HB6 HRC0 HDL0 hp0 HF2 hor0
    have HRS := HRS'
    clear HRS'
    generalize ({ s with seq := b, flags := f2, D := Bh, dc := kh, data := s.data.drop k } : SegM) = m at HXm hmm hfm hlm HDm HSK HRS
    go_wp2_with (first
      | ((with_reducible refine at_slot 38 ?_); refine wpList_load_row rfl 34 (.tmp 3) rfl B rfl _ m.cells _ _ HXm.out Try.underlying34 rfl (info_segX m hmm) ?_))
    (with_reducible refine Calls.mono (lenG_any m _ hfm hmm (by omega)) ?_)
    rintro e w4 ⟨rfl, hb4⟩
    have hx4 := (hb4.block B (by omega)).trans HXm.out
    have hn4 := (hb4.block (B + 1) (by omega)).trans HNm.out
    have HB4 := hid (HBm.out.trans (hb4.mono (by omega)))
    have hz4 : B + 1 < w4.heap.size := Nat.lt_of_lt_of_le hzm hb4.size
    clear hb4 HXm HNm HBm hzm
    have hlg : lenG m = lenF m.flags m.data.length := rfl
    have hlb : lenF m.flags m.data.length ≤ 100002 := by unfold lenF; have := bitN_le (hasG m.flags 1); have := bitN_le (hasG m.flags 2); omega
    rw [hlg]
    obtain ⟨lim, hlim⟩ : ∃ x : Int, (z : Int) = x := ⟨_, rfl⟩
    rw [hlim] at HRS
    have hlr : -2147483648 ≤ lim ∧ lim ≤ 4294967296 := by omega
    obtain ⟨M, hM⟩ : ∃ x : Int, max lim 0 = x := ⟨_, rfl⟩
    have hMr : 0 ≤ M ∧ M ≤ 4294967296 := by omega
    have a1 : (if lim < 0 then 0 else lim) = M := by split <;> omega
    have a2 : (if 0 < lim then lim else 0) = M := by split <;> omega
    have a3 : (if lim ≤ 0 then 0 else lim) = M := by split <;> omega
    obtain ⟨ov, hov⟩ : ∃ x, overT m.flags m.data.length lim = x := ⟨_, rfl⟩
    have hov2 : (lenF m.flags m.data.length : Int) - M = ov := by rw [← hov, ← hM]; rfl
    have hor : -4294967296 ≤ ov ∧ ov ≤ 100002 := by omega
    obtain ⟨f3, hf3⟩ : ∃ x, dropF m.flags 1 ov = x := ⟨_, rfl⟩
    obtain ⟨o1, ho1⟩ : ∃ x, dropL m.flags 1 ov = x := ⟨_, rfl⟩
    have hf3l : f3 < 256 := by rw [← hf3]; exact dropF_lt _ _ _ hfm
    have hor1 := dropL_range m.flags 1 ov
    rw [ho1] at hor1
    obtain ⟨k2, hk2⟩ : ∃ x, tailK m.flags m.data.length lim = x := ⟨_, rfl⟩
    have hk2e : min (max o1 0).toNat m.data.length = k2 := by rw [← hk2]; unfold tailK; rw [hov, ho1]
    have hk2l : k2 ≤ m.data.length := by omega
    obtain ⟨f4, hf4⟩ : ∃ x, dropF f3 2 (o1 - (k2 : Int)) = x := ⟨_, rfl⟩
    have htf : tailF m.flags m.data.length lim = f4 := by unfold tailF; rw [hov, ho1, hf3, hk2, hf4]
    have hf4l : f4 < 256 := by rw [← hf4]; exact dropF_lt _ _ _ hf3l
    rw [htf, hk2] at HRS
    obtain ⟨P, hP⟩ : ∃ x : Int, max o1 0 = x := ⟨_, rfl⟩
    have p1 : (if o1 < 0 then 0 else o1) = P := by split <;> omega
    have p2 : (if 0 < o1 then o1 else 0) = P := by split <;> omega
    have p3 : (if o1 ≤ 0 then 0 else o1) = P := by split <;> omega
    have q1 : min P (m.data.length : Int) = (k2 : Int) := by omega
    have q2 : (if (m.data.length : Int) < P then (m.data.length : Int) else P) = (k2 : Int) := by split <;> omega
    have q3 : (if P < (m.data.length : Int) then P else (m.data.length : Int)) = (k2 : Int) := by split <;> omega
    have q4 : (if P ≤ (m.data.length : Int) then P else (m.data.length : Int)) = (k2 : Int) := by split <;> omega
    have HD3 := hid (dropG_any B 1 ov m w4 hx4 hfm hmm (.inl rfl) (by omega) (by omega))
    rw [ho1, hf3] at HD3
    have HF4 := hid hf4
    have HSD := hid hlim
    have HOV := hid hov2
    have HML := hid (show 0 ≤ lim → (lenF m.flags m.data.length : Int) - lim = ov from fun h => by omega)
    clear hlg hM hov ho1 hf3 hk2 hk2e hf4 htf hP hx4 hlim hov2
    generalize lenF m.flags m.data.length = ln at *
    go_upto_region 9 with fail
    try simp only [HSD.out]
    try simp only [a1, a2, a3]
    try simp only [HOV.out]
    have hml := HML.out (by have := HSD.out; omega)
    try simp only [hml]
    go_wp2_with fail
    (with_reducible refine Calls.mono HD3.out ?_)
    rintro e w5 ⟨rfl, hx5, m5⟩
    have hn5 := m5.keeps hn4 (by simp)
    have HB5 := hid (Mod.below HB4.out m5 (Nat.le_of_eq HB.out.symm) (by simp))
    have hz5 : B + 1 < w5.heap.size := Nat.lt_of_lt_of_le hz4 m5.size
    clear m5 hn4 HB4 hz4 HD3
    have hmm5 : ({ m with flags := f3 } : SegM).o.mac.length = 12 := hmm
    obtain ⟨_, _, _, _, _, _, _, c31⟩ := seg_cells hx5 hmm5
    dsimp only at c31
    go_upto_region 11 with fail
    try simp only [p1, p2, p3, q1, q2, q3, q4]
    have hRB5 := HDm.out w5 HB5.out
    have hcapm : m.data.length ≤ m.dc := by
      obtain ⟨A', c', e, r⟩ := hRB5
      injection e with e1 e2 e3
      subst e3
      exact r.cap
    have hP0 : 0 ≤ P ∧ P ≤ 100003 := by omega
    clear a1 a2 a3 p1 p2 p3 q1 q2 q3 q4 hRB5
    by_cases hk0 : k2 = 0
    · subst hk0
      have HD6 := hid (fun W (h : W.heap[B]? = some (.cells ({ m with flags := f3 } : SegM).cells 34 (0, 0))) => dropG_any B 2 o1 { m with flags := f3 } W h hf3l hmm (.inr rfl) (by omega) (by omega))
      have e0 : o1 - ((0 : Nat) : Int) = o1 := by omega
      rw [e0] at HF4
      have HF4' := hid (show dropF ({ m with flags := f3 } : SegM).flags 2 o1 = f4 from HF4.out)
      go_wp2_with fail
      (with_reducible refine Calls.mono (HD6.out _ hx5) ?_)
      rintro e w6 ⟨rfl, hx6, m6⟩
      rw [HF4'.out] at hx6
      have hn6 := m6.keeps hn5 (by simp)
      have HB6 := hid (Mod.below HB5.out m6 (Nat.le_of_eq HB.out.symm) (by simp))
      have hres := HRS.out m.D m.dc
      rw [Nat.sub_zero, List.take_length] at hres
      have hx6' : w6.heap[B]? = some (.cells (res.put m.D m.dc).cells 34 (0, 0)) := by rw [hres]; exact hx6
      have hok' : ∀ W, Below B w W → SegOk W (res.put m.D m.dc) := fun W h => by rw [hres]; exact HSK.out W f4 m.D m.dc m.data h hf4l (HDm.out W h)
      obtain ⟨rm, hrm⟩ : ∃ x, res.put m.D m.dc = x := ⟨_, rfl⟩
      rw [hrm] at hx6' hok'
      have hrmac := (hok' w6 HB6.out).o.mac
      go_wp2_with (first
        | ((with_reducible refine at_slot 73 ?_); refine wpList_load_row rfl 34 (.tmp 3) rfl B rfl _ rm.cells _ _ hx6' Try.underlying34 rfl (info_segX rm hrmac) ?_)
        | ((with_reducible refine at_store 6 73 ?_); refine wpList_rowF rfl 34 (.tmp 6) (.tmp 73) rfl (B + 1) 34 _ rm.cells rfl rfl hn6 (info_segX rm hrmac) (by rw [HSN.out, SegM.size rm hrmac]) (SegM.one rm) ?_; intro w7 h7 m7 s7))
      try simp only [Act.put, List.setIfInBounds_toArray, List.set_cons_zero, List.set_cons_succ]
      refine ret_cell1 (p := 6) rfl rfl h7 Try.underlying34 rfl (info_segX rm hrmac) ⟨m.D, m.dc, by rw [hrm], by rw [hrm]; exact hok' w7 (Mod.below HB6.out m7 (Nat.le_of_eq HB.out.symm) (by simp)), Mod.below HB6.out m7 (Nat.le_of_eq HB.out.symm) (by simp)⟩
    · have hk1 : 0 < k2 := by omega
      obtain ⟨hh, hhe⟩ : ∃ x, m.data.length - k2 = x := ⟨_, rfl⟩
      have hhi : (m.data.length : Int) - (k2 : Int) = (hh : Int) := by omega
      rw [hhe] at HRS
      obtain ⟨Bq, kq, hcut, hrc⟩ := cutG_hm (A := m.D) (c := m.dc) hcapm hh (by omega)
      have HRC := hid hrc
      have hdl : (m.data.take hh).length = hh := by rw [List.length_take]; omega
      have HDL := hid hdl
      have z31 := frozRow hx5 31
      clear hrc hdl hhe
      go_upto_region 14 with fail
      have hx6 := rowSetCell hx5 31 (.slice Bq hh kq)
      rw [SegM.set_data ({ m with flags := f3 } : SegM) Bq kq (m.data.take hh) hh HDL.out hmm5] at hx6
      have m6 : Mod [B] w5 (w5.setCell ⟨B, 31, none⟩ (.slice Bq hh kq)) := Mod.setCell _ _ _ (by simp)
      have hn6 := m6.keeps hn5 (by simp)
      have HB6' := hid (Mod.below HB5.out m6 (Nat.le_of_eq HB.out.symm) (by simp))
      clear m6 z31 c31 hx5 hn5
      have HB5' := HB5
      generalize w5.setCell _ _ = w6' at hx6 hn6 HB6' ⊢
      have HD6 := hid (fun W (h : W.heap[B]? = some (.cells ({ m with flags := f3, D := Bq, dc := kq, data := m.data.take hh } : SegM).cells 34 (0, 0))) => dropG_any B 2 (o1 - (k2 : Int)) { m with flags := f3, D := Bq, dc := kq, data := m.data.take hh } W h hf3l hmm (.inr rfl) (by omega) (by omega))
      have HF4' := hid (show dropF ({ m with flags := f3, D := Bq, dc := kq, data := m.data.take hh } : SegM).flags 2 (o1 - (k2 : Int)) = f4 from HF4.out)
      go_wp2_with fail
      (with_reducible refine Calls.mono (HD6.out _ hx6) ?_)
      rintro e w6 ⟨rfl, hx7, m6⟩
      rw [HF4'.out] at hx7
      have hn6 := m6.keeps hn6 (by simp)
      have HB6 := hid (Mod.below HB6'.out m6 (Nat.le_of_eq HB.out.symm) (by simp))
      have hres := HRS.out Bq kq
      have hx6' : w6.heap[B]? = some (.cells (res.put Bq kq).cells 34 (0, 0)) := by rw [hres]; exact hx7
      have hok' : ∀ W, Below B w W → SegOk W (res.put Bq kq) := fun W h => by rw [hres]; exact HSK.out W f4 Bq kq (m.data.take hh) h hf4l (by rw [HDL.out]; exact HRC.out W (HDm.out W h))
      obtain ⟨rm, hrm⟩ : ∃ x, res.put Bq kq = x := ⟨_, rfl⟩
      rw [hrm] at hx6' hok'
      have hrmac := (hok' w6 HB6.out).o.mac
      go_wp2_with (first
        | ((with_reducible refine at_slot 73 ?_); refine wpList_load_row rfl 34 (.tmp 3) rfl B rfl _ rm.cells _ _ hx6' Try.underlying34 rfl (info_segX rm hrmac) ?_)
        | ((with_reducible refine at_store 6 73 ?_); refine wpList_rowF rfl 34 (.tmp 6) (.tmp 73) rfl (B + 1) 34 _ rm.cells rfl rfl hn6 (info_segX rm hrmac) (by rw [HSN.out, SegM.size rm hrmac]) (SegM.one rm) ?_; intro w7 h7 m7 s7))
      try simp only [Act.put, List.setIfInBounds_toArray, List.set_cons_zero, List.set_cons_succ]
      refine ret_cell1 (p := 6) rfl rfl h7 Try.underlying34 rfl (info_segX rm hrmac) ⟨Bq, kq, by rw [hrm], by rw [hrm]; exact hok' w7 (Mod.below HB6.out m7 (Nat.le_of_eq HB.out.symm) (by simp)), Mod.below HB6.out m7 (Nat.le_of_eq HB.out.symm) (by simp)⟩
end Go.Proofs.Ythnidgiogjehkaa
namespace Go.Proofs.Ythnidgiogjehkaa
set_option linter.unusedVariables false
set_option linter.unusedSimpArgs false
set_option maxRecDepth 20000
open Go.RowKit

def hb1 (f : Nat) : Nat := bitN (hasG f 1)
def hb2 (f : Nat) : Nat := bitN (hasG f 2)
/-- Flags of which some of Syn and Fin were let go. -/
def subF (f' f : Nat) : Prop := f' = f ∨ (hasG f 1 = true ∧ f' = f - 1) ∨ (hasG f 2 = true ∧ f' = f - 2) ∨ (hasG f 1 = true ∧ hasG f 2 = true ∧ f' = f - 3)
instance (f' f : Nat) : Decidable (subF f' f) := by unfold subF; infer_instance
theorem bits256 : ∀ m : Fin 256, (hasG m.val 1 = true → hasG (m.val - 1) 1 = false ∧ hasG (m.val - 1) 2 = hasG m.val 2) ∧ (hasG m.val 2 = true → hasG (m.val - 2) 2 = false ∧ hasG (m.val - 2) 1 = hasG m.val 1) := by decide +kernel
theorem has_one {f : Nat} (hf : f < 256) (h : hasG f 1 = true) : hasG (f - 1) 1 = false ∧ hasG (f - 1) 2 = hasG f 2 := (bits256 ⟨f, hf⟩).1 h
theorem has_two {f : Nat} (hf : f < 256) (h : hasG f 2 = true) : hasG (f - 2) 2 = false ∧ hasG (f - 2) 1 = hasG f 1 := (bits256 ⟨f, hf⟩).2 h
/-- What one drop does to the number of numbers. -/
theorem drop_one {f : Nat} (n : Int) (hf : f < 256) : (0 < n ∧ hasG f 1 = true ∧ dropF f 1 n = f - 1 ∧ dropL f 1 n = n - 1 ∧ hasG (dropF f 1 n) 1 = false ∧ hasG (dropF f 1 n) 2 = hasG f 2) ∨ ((¬ 0 < n ∨ hasG f 1 = false) ∧ dropF f 1 n = f ∧ dropL f 1 n = n) := by
  unfold dropF dropL dropB
  by_cases h0 : 0 < n
  · cases h1 : hasG f 1
    · right
      rw [if_neg (by simp), if_neg (by simp)]
      exact ⟨.inr rfl, rfl, rfl⟩
    · left
      rw [decide_eq_true h0]
      exact ⟨h0, rfl, rfl, rfl, has_one hf h1⟩
  · right
    rw [decide_eq_false h0, if_neg (by simp), if_neg (by simp)]
    exact ⟨.inl h0, rfl, rfl⟩
theorem drop_two {f : Nat} (n : Int) (hf : f < 256) : (0 < n ∧ hasG f 2 = true ∧ dropF f 2 n = f - 2 ∧ dropL f 2 n = n - 1 ∧ hasG (dropF f 2 n) 2 = false ∧ hasG (dropF f 2 n) 1 = hasG f 1) ∨ ((¬ 0 < n ∨ hasG f 2 = false) ∧ dropF f 2 n = f ∧ dropL f 2 n = n) := by
  unfold dropF dropL dropB
  by_cases h0 : 0 < n
  · cases h1 : hasG f 2
    · right
      rw [if_neg (by simp), if_neg (by simp)]
      exact ⟨.inr rfl, rfl, rfl⟩
    · left
      rw [decide_eq_true h0]
      exact ⟨h0, rfl, rfl, rfl, has_two hf h1⟩
  · right
    rw [decide_eq_false h0, if_neg (by simp), if_neg (by simp)]
    exact ⟨.inl h0, rfl, rfl⟩
theorem lenG_F (s : SegM) : lenG s = lenF s.flags s.data.length := rfl
theorem bitN_true : bitN true = 1 := rfl
theorem bitN_false : bitN false = 0 := rfl
/-- How many numbers the tail leaves. -/
theorem trimT_len (s : SegM) (lim : Int) (hf : s.flags < 256) : (lenG (trimT s lim) : Int) = min (lenG s : Int) (max lim 0) := by
  have hlen : (trimT s lim).data.length = s.data.length - tailK s.flags s.data.length lim := by
    show (s.data.take (s.data.length - tailK s.flags s.data.length lim)).length = _
    rw [List.length_take]
    omega
  rw [lenG_F, lenG_F, hlen]
  show ((lenF (tailF s.flags s.data.length lim) (s.data.length - tailK s.flags s.data.length lim) : Nat) : Int) = _
  generalize s.data.length = n
  generalize s.flags = f at hf ⊢
  obtain ⟨ov, hov⟩ : ∃ x, overT f n lim = x := ⟨_, rfl⟩
  have hov2 : ov = (lenF f n : Int) - max lim 0 := by rw [← hov]; rfl
  unfold tailF tailK
  rw [hov]
  have hM : 0 ≤ max lim 0 := by omega
  generalize max lim 0 = M at hov2 hM ⊢
  have r1 := bitN_le (hasG f 1)
  have r2 := bitN_le (hasG f 2)
  rcases drop_one ov hf with ⟨h0, h1, e1, e2, e3, e4⟩ | ⟨h0, e1, e2⟩
  · have hf3 : dropF f 1 ov < 256 := dropF_lt _ _ _ hf
    rw [e2]
    obtain ⟨k, hk⟩ : ∃ k, min (max (ov - 1) 0).toNat n = k := ⟨_, rfl⟩
    rw [hk]
    have hl1 : lenF f n = n + bitN (hasG f 2) + 1 := by unfold lenF; rw [h1]; rfl
    rcases drop_two (ov - 1 - (k : Int)) hf3 with ⟨g0, g1, d1, d2, d3, d4⟩ | ⟨g0, d1, d2⟩
    · have hl2 : lenF (dropF (dropF f 1 ov) 2 (ov - 1 - (k : Int))) (n - k) = n - k := by unfold lenF; rw [d3, d4, e3]; rfl
      have hl3 : bitN (hasG f 2) = 1 := by rw [← e4, g1]; rfl
      rw [hl2]
      omega
    · rw [d1]
      have hl2 : lenF (dropF f 1 ov) (n - k) = n - k + bitN (hasG f 2) := by unfold lenF; rw [e3, e4]; rfl
      rw [hl2]
      rcases g0 with g0 | g0
      · omega
      · have hl3 : bitN (hasG f 2) = 0 := by rw [← e4, g0]; rfl
        omega
  · rw [e1, e2]
    obtain ⟨k, hk⟩ : ∃ k, min (max ov 0).toNat n = k := ⟨_, rfl⟩
    rw [hk]
    have hl1 : lenF f n = n + bitN (hasG f 2) + bitN (hasG f 1) := rfl
    have hb0 : ¬ 0 < ov ∨ bitN (hasG f 1) = 0 := by
      rcases h0 with h0 | h0
      · exact .inl h0
      · exact .inr (by rw [h0]; rfl)
    rcases drop_two (ov - (k : Int)) hf with ⟨g0, g1, d1, d2, d3, d4⟩ | ⟨g0, d1, d2⟩
    · have hl2 : lenF (dropF f 2 (ov - (k : Int))) (n - k) = n - k + bitN (hasG f 1) := by unfold lenF; rw [d3, d4]; rfl
      have hl3 : bitN (hasG f 2) = 1 := by rw [g1]; rfl
      rw [hl2]
      omega
    · rw [d1]
      have hl2 : lenF f (n - k) = n - k + bitN (hasG f 2) + bitN (hasG f 1) := rfl
      rw [hl2]
      rcases g0 with g0 | g0
      · omega
      · have hl3 : bitN (hasG f 2) = 0 := by rw [g0]; rfl
        omega
/-- Where there are no more than may be, nothing goes. -/
theorem trimT_same (s : SegM) (lim : Int) (h : (lenG s : Int) ≤ max lim 0) : trimT s lim = s := by
  have hov : overT s.flags s.data.length lim ≤ 0 := by
    unfold overT
    rw [lenG_F] at h
    omega
  unfold trimT tailF tailK
  generalize overT s.flags s.data.length lim = ov at hov ⊢
  have d0 : ∀ (f a : Nat) (n : Int), n ≤ 0 → dropF f a n = f ∧ dropL f a n = n := by
    intro f a n hn
    unfold dropF dropL dropB
    rw [decide_eq_false (by omega), if_neg (by simp), if_neg (by simp)]
    exact ⟨rfl, rfl⟩
  rw [(d0 _ 1 ov hov).1, (d0 _ 1 ov hov).2]
  have hk : min (max ov 0).toNat s.data.length = 0 := by omega
  rw [hk, (d0 _ 2 _ (by omega)).1, Nat.sub_zero, List.take_length]
/-- The head leaves no more than there was. -/
theorem trimH_len (s : SegM) (b : Nat) (hf : s.flags < 256) : lenG (trimH s b) ≤ lenG s := by
  unfold trimH
  split
  · rename_i hp
    rw [lenG_F, lenG_F]
    show lenF (headF s.flags s.data.length (diffG s.seq b)) (s.data.drop (headK s.flags s.data.length (diffG s.seq b))).length ≤ _
    rw [List.length_drop]
    unfold headF
    generalize headK s.flags s.data.length (diffG s.seq b) = k
    generalize diffG s.seq b = ah
    generalize s.data.length = n
    generalize s.flags = f at hf ⊢
    generalize dropL f 2 ah - (k : Int) = q
    have hf1 : dropF f 2 ah < 256 := dropF_lt _ _ _ hf
    have a1 : bitN (hasG (dropF f 2 ah) 1) = bitN (hasG f 1) ∧ bitN (hasG (dropF f 2 ah) 2) ≤ bitN (hasG f 2) := by
      rcases drop_two ah hf with ⟨_, _, _, _, d3, d4⟩ | ⟨_, d1, _⟩
      · rw [d3, d4]; exact ⟨rfl, Nat.zero_le _⟩
      · rw [d1]; exact ⟨rfl, Nat.le_refl _⟩
    have a2 : bitN (hasG (dropF (dropF f 2 ah) 1 q) 2) = bitN (hasG (dropF f 2 ah) 2) ∧ bitN (hasG (dropF (dropF f 2 ah) 1 q) 1) ≤ bitN (hasG (dropF f 2 ah) 1) := by
      rcases drop_one q hf1 with ⟨_, _, _, _, d3, d4⟩ | ⟨_, d1, _⟩
      · rw [d3, d4]; exact ⟨rfl, Nat.zero_le _⟩
      · rw [d1]; exact ⟨rfl, Nat.le_refl _⟩
    unfold lenF
    omega
  · exact Nat.le_refl _
end Go.Proofs.Ythnidgiogjehkaa
namespace Go.Proofs.Ythnidgiogjehkaa
set_option linter.unusedVariables false
set_option linter.unusedSimpArgs false
set_option maxRecDepth 20000
open Go.RowKit

theorem sub256 : ∀ m : Fin 256, ∀ x ∈ [m.val, m.val - 1, m.val - 2, m.val - 3], subF x m.val → (hasG x 1 = true → subF (x - 1) m.val) ∧ (hasG x 2 = true → subF (x - 2) m.val) ∧ bits .andNot .u8 (x : Int) (m.val : Int) = 0 := by decide +kernel
theorem subF_in {f' f : Nat} (h : subF f' f) : f' ∈ [f, f - 1, f - 2, f - 3] := by
  rcases h with rfl | ⟨_, rfl⟩ | ⟨_, rfl⟩ | ⟨_, _, rfl⟩ <;> simp
theorem subF_one {f' f : Nat} (n : Int) (hf : f < 256) (h : subF f' f) : subF (dropF f' 1 n) f := by
  unfold dropF dropB
  split
  · rename_i h1
    simp only [Bool.and_eq_true] at h1
    exact (sub256 ⟨f, hf⟩ f' (subF_in h) h).1 h1.2
  · exact h
theorem subF_two {f' f : Nat} (n : Int) (hf : f < 256) (h : subF f' f) : subF (dropF f' 2 n) f := by
  unfold dropF dropB
  split
  · rename_i h1
    simp only [Bool.and_eq_true] at h1
    exact (sub256 ⟨f, hf⟩ f' (subF_in h) h).2.1 h1.2
  · exact h
theorem subF_not {f' f : Nat} (hf : f < 256) (h : subF f' f) : bits .andNot .u8 (f' : Int) (f : Int) = 0 := (sub256 ⟨f, hf⟩ f' (subF_in h) h).2.2
theorem subF_le {f' f : Nat} (h : subF f' f) : f' ≤ f := by rcases h with rfl | ⟨_, rfl⟩ | ⟨_, rfl⟩ | ⟨_, _, rfl⟩ <;> omega
theorem trimG_flags (s : SegM) (b z : Nat) (hf : s.flags < 256) : subF (trimG s b z).flags s.flags := by
  have h0 : subF (trimH s b).flags s.flags := by
    unfold trimH
    split
    · exact subF_one _ hf (subF_two _ hf (.inl rfl))
    · exact .inl rfl
  exact subF_two _ hf (subF_one _ hf h0)
theorem trimH_flags (s : SegM) (b : Nat) (hf : s.flags < 256) : (trimH s b).flags < 256 := by
  unfold trimH
  split
  · exact dropF_lt _ _ _ (dropF_lt _ _ _ hf)
  · exact hf
theorem trimG_len (s : SegM) (b z : Nat) (hf : s.flags < 256) : (lenG (trimG s b z) : Int) = min (lenG (trimH s b) : Int) (max ((z : Int) + trimA s b) 0) := trimT_len _ _ (trimH_flags s b hf)
theorem trimG_le (s : SegM) (b z : Nat) (hf : s.flags < 256) : lenG (trimG s b z) ≤ lenG s := by
  have h1 := trimG_len s b z hf
  have h2 := trimH_len s b hf
  omega
theorem trimG_data (s : SegM) (b z : Nat) : ∃ k m, k ≤ s.data.length ∧ (trimG s b z).data = (s.data.drop k).take m := by
  show ∃ k m, k ≤ s.data.length ∧ (trimH s b).data.take _ = _
  unfold trimH
  split
  · exact ⟨headK s.flags s.data.length (diffG s.seq b), _, by unfold headK; omega, rfl⟩
  · exact ⟨0, _, Nat.zero_le _, rfl⟩
theorem trimG_found (s : SegM) (b z : Nat) : ∃ k, k + (trimG s b z).data.length ≤ s.data.length ∧ (s.data.drop k).take (trimG s b z).data.length = (trimG s b z).data := by
  obtain ⟨k, m, hk, e⟩ := trimG_data s b z
  refine ⟨k, ?_, ?_⟩
  · rw [e, List.length_take, List.length_drop]; omega
  · rw [e, List.length_take, List.length_drop]
    rw [List.take_eq_take_iff, List.length_drop]
    omega
theorem trimT_seq (t : SegM) (lim : Int) : (trimT t lim).seq = t.seq := by
  unfold trimT
  exact rfl
theorem trimH_seq (s : SegM) (b : Nat) : (trimH s b).seq = if 0 < diffG s.seq b then b else s.seq := by
  unfold trimH
  generalize diffG s.seq b = d
  by_cases hp : 0 < d
  · rw [if_pos hp, if_pos hp]
  · rw [if_neg hp, if_neg hp]
theorem trimG_seq (s : SegM) (b z : Nat) : (trimG s b z).seq = if 0 < diffG s.seq b then b else s.seq := by
  unfold trimG
  rw [trimT_seq, trimH_seq]
theorem diffG_self (b : Nat) (hb : b < 4294967296) : diffG b b = 0 := by
  have : aheadG b b = 0 := by unfold aheadG; omega
  unfold diffG
  rw [this, if_pos (by omega)]
  simp
/-- What is trimmed is trimmed once. -/
theorem trimG_once (s : SegM) (b z : Nat) (hb : b < 4294967296) (hf : s.flags < 256) : trimG (trimG s b z) b z = trimG s b z := by
  have hlen := trimG_len s b z hf
  have hsq := trimG_seq s b z
  unfold trimG at hlen hsq ⊢
  by_cases hp : 0 < diffG s.seq b
  · have ha : trimA s b = 0 := by unfold trimA; rw [if_pos hp]
    rw [ha] at hlen hsq ⊢
    rw [if_pos hp] at hsq
    generalize trimT (trimH s b) ((z : Int) + 0) = t at hlen hsq ⊢
    have hd : diffG t.seq b = 0 := by rw [hsq]; exact diffG_self b hb
    have h1 : trimH t b = t := by unfold trimH; rw [hd, if_neg (by omega)]
    have h2 : trimA t b = 0 := by unfold trimA; rw [hd, if_neg (by omega)]
    rw [h1, h2]
    exact trimT_same t _ (by omega)
  · have ha : trimA s b = diffG s.seq b := by unfold trimA; rw [if_neg hp]
    rw [ha] at hlen hsq ⊢
    rw [if_neg hp] at hsq
    generalize trimT (trimH s b) ((z : Int) + diffG s.seq b) = t at hlen hsq ⊢
    have h1 : trimH t b = t := by unfold trimH; rw [hsq, if_neg hp]
    have h2 : trimA t b = diffG s.seq b := by unfold trimA; rw [hsq, if_neg hp]
    rw [h1, h2]
    exact trimT_same t _ (by omega)
theorem diffG_back (a b : Nat) (ha : a < 4294967296) (hb : b < 4294967296) (h1 : -1073741824 ≤ diffG a b) (h2 : diffG a b ≤ 1073741824) : diffG b a = -diffG a b ∧ (¬ 0 < diffG b a → (aheadG a b : Int) = -diffG b a) := by
  unfold diffG aheadG at *
  split at h1 <;> split at h2 <;> (try omega) <;> split <;> omega
/-- Its numbers lie within the window. -/
theorem trimG_in (s : SegM) (b z : Nat) (hs : s.seq < 4294967296) (hb : b < 4294967296) (hf : s.flags < 256) (h1 : -1073741824 ≤ diffG b s.seq) (h2 : diffG b s.seq ≤ 1073741824) (hz : z ≤ 1073741824) (hn : 0 < lenG (trimG s b z)) :
    aheadG b (trimG s b z).seq < z ∧ aheadG b (((trimG s b z).seq + lenG (trimG s b z) + 4294967295) % 4294967296) < z := by
  have hlen := trimG_len s b z hf
  have hsq := trimG_seq s b z
  obtain ⟨e1, e2⟩ := diffG_back b s.seq hb hs h1 h2
  generalize lenG (trimG s b z) = n at hlen hn ⊢
  generalize lenG (trimH s b) = n0 at hlen
  by_cases hp : 0 < diffG s.seq b
  · have ha : trimA s b = 0 := by unfold trimA; rw [if_pos hp]
    rw [ha] at hlen
    rw [if_pos hp] at hsq
    rw [hsq]
    unfold aheadG
    omega
  · have ha : trimA s b = diffG s.seq b := by unfold trimA; rw [if_neg hp]
    rw [ha] at hlen
    rw [if_neg hp] at hsq
    rw [hsq]
    have e3 := e2 hp
    generalize diffG s.seq b = d at *
    have hx : aheadG b s.seq < z := by omega
    refine ⟨hx, ?_⟩
    unfold aheadG at *
    omega
theorem trimG_put (s : SegM) (b z : Nat) (D : Option Addr) (dc : Nat) : trimG (s.put D dc) b z = (trimG s b z).put D dc := by
  unfold trimG trimH trimA
  have e : (s.put D dc).seq = s.seq := rfl
  rw [e]
  by_cases hp : 0 < diffG s.seq b
  · simp only [if_pos hp]
    rfl
  · simp only [if_neg hp]
    rfl
theorem sameS_put (s : SegM) (D D' : Option Addr) (dc dc' : Nat) : sameS (s.put D dc) (s.put D' dc') = true :=
  (sameS_iff _ _).2 ⟨rfl, rfl, rfl, rfl, rfl, rfl, rfl, (sameO_iff _ _).2 ⟨rfl, rfl, rfl, rfl, rfl, rfl, rfl, rfl, rfl, rfl, rfl, rfl, rfl⟩, rfl⟩
end Go.Proofs.Ythnidgiogjehkaa
namespace Go.Proofs.Ythnidgiogjehkaa
set_option linter.unusedVariables false
set_option linter.unusedSimpArgs false
set_option maxRecDepth 20000
open Go.RowKit

theorem rahead_any (a b : Nat) (ha : a < 4294967296) (hb : b < 4294967296) (w : World) : Calls Try.prog 52 #[.int .u32 (a : Int), .int .u32 (b : Int)] w fun e w' => e = .returned (.int .i64 (aheadG a b : Int)) ∧ w = w' := by
  have h1 : Int.tmod ((b : Int) - (a : Int)) 4294967296 = (b : Int) - (a : Int) := by
    rcases Nat.le_total a b with h | h
    · rw [Int.tmod_eq_emod_of_nonneg (by omega)]; omega
    · have e : (b : Int) - (a : Int) = -((a : Int) - (b : Int)) := by omega
      rw [e, Int.neg_tmod, Int.tmod_eq_emod_of_nonneg (by omega)]
      omega
  obtain ⟨q, hq⟩ : ∃ q : Int, (b : Int) - (a : Int) = q := ⟨_, rfl⟩
  have hqr : -4294967296 < q ∧ q < 4294967296 := by omega
  have hag : (aheadG a b : Int) = if q < 0 then q + 4294967296 else q := by unfold aheadG; split <;> omega
  rw [hq] at h1
  have HQ := hid hq
  obtain ⟨r, hr⟩ : ∃ r : Int, (aheadG a b : Int) = r := ⟨_, rfl⟩
  rw [hr] at hag ⊢
  clear hq hr
  by_cases hn : q < 0
  · have t1 : decide (q < 0) = true := decide_eq_true hn
    rw [if_pos hn] at hag
    have HAG := hid hag
    clear hag
    go_enter Try.func52, Try.ntmps52
    go_upto_region 2 with fail
    try simp only [HQ.out, h1]
    go_wp2_with fail
    go_ret
    exact ⟨by rw [HAG.out]; rfl, rfl⟩
  · have t1 : decide (q < 0) = false := decide_eq_false hn
    rw [if_neg hn] at hag
    have HAG := hid hag
    clear hag
    go_enter Try.func52, Try.ntmps52
    go_upto_region 2 with fail
    try simp only [HQ.out, h1]
    go_wp2_with fail
    go_ret
    exact ⟨by rw [HAG.out]; rfl, rfl⟩
theorem rdiff_any (a b : Nat) (ha : a < 4294967296) (hb : b < 4294967296) (w : World) : Calls Try.prog 27 #[.int .u32 (a : Int), .int .u32 (b : Int)] w fun e w' => e = .returned (.int .i32 (diffG a b)) ∧ w = w' := by
  have HA := hid (rahead_any a b ha hb w)
  have hxl : aheadG a b < 4294967296 := Nat.mod_lt _ (by decide)
  have hd : diffG a b = if aheadG a b < 2147483648 then (aheadG a b : Int) else (aheadG a b : Int) - 4294967296 := rfl
  generalize aheadG a b = x at HA hxl hd
  obtain ⟨y, hy⟩ : ∃ y, diffG a b = y := ⟨_, rfl⟩
  rw [hy] at hd ⊢
  have hyr : -2147483648 ≤ y ∧ y < 2147483648 := by rw [← hy]; exact diffG_range a b
  clear hy
  by_cases hn : x < 2147483648
  · rw [if_pos hn] at hd
    have t1 : decide ((2147483648 : Int) ≤ (x : Int)) = false := by rw [decide_eq_false_iff_not]; omega
    have HDD := hid hd
    clear hd
    go_enter Try.func27, Try.ntmps27
    go_wp2_with fail
    (with_reducible refine Calls.mono HA.out ?_)
    rintro e w' ⟨rfl, rfl⟩
    go_wp2_with fail
    go_ret
    exact ⟨by rw [HDD.out]; rfl, rfl⟩
  · rw [if_neg hn] at hd
    have t1 : decide ((2147483648 : Int) ≤ (x : Int)) = true := by rw [decide_eq_true_eq]; omega
    have HDD := hid hd
    clear hd
    go_enter Try.func27, Try.ntmps27
    go_wp2_with fail
    (with_reducible refine Calls.mono HA.out ?_)
    rintro e w' ⟨rfl, rfl⟩
    go_wp2_with fail
    go_ret
    exact ⟨by rw [HDD.out]; rfl, rfl⟩
theorem rbefore_any (a b : Nat) (ha : a < 4294967296) (hb : b < 4294967296) (w : World) : Calls Try.prog 49 #[.int .u32 (a : Int), .int .u32 (b : Int)] w fun e w' => e = .returned (.bool (decide (0 < diffG a b))) ∧ w = w' := by
  have HA := hid (rdiff_any a b ha hb w)
  have hyr := diffG_range a b
  generalize diffG a b = y at HA hyr ⊢
  obtain ⟨t, ht⟩ : ∃ t, decide (0 < y) = t := ⟨_, rfl⟩
  rw [ht]
  go_enter Try.func49, Try.ntmps49
  go_wp2_with fail
  (with_reducible refine Calls.mono HA.out ?_)
  rintro e w' ⟨rfl, rfl⟩
  go_wp2_with fail
  go_ret
  exact ⟨rfl, rfl⟩
theorem rin_any (n f z : Nat) (hn : n < 4294967296) (hf : f < 4294967296) (hz : z < 4294967296) (w : World) : Calls Try.prog 28 #[.int .u32 (n : Int), .int .u32 (f : Int), .int .u32 (z : Int)] w fun e w' => e = .returned (.bool (decide (aheadG f n < z))) ∧ w = w' := by
  have HA := hid (rahead_any f n hf hn w)
  generalize aheadG f n = x at HA ⊢
  obtain ⟨t, ht⟩ : ∃ t, decide (x < z) = t := ⟨_, rfl⟩
  have ht2 : decide ((x : Int) < (z : Int)) = t := by rw [← ht, decide_eq_decide]; omega
  rw [ht]
  have HTT := hid ht
  clear ht
  go_enter Try.func28, Try.ntmps28
  go_wp2_with fail
  (with_reducible refine Calls.mono HA.out ?_)
  rintro e w' ⟨rfl, rfl⟩
  go_wp2_with fail
  go_ret
  exact ⟨by rw [← HTT.out]; rfl, rfl⟩
end Go.Proofs.Ythnidgiogjehkaa
namespace Go.Proofs.Ythnidgiogjehkaa
set_option linter.unusedVariables false
set_option linter.unusedSimpArgs false
set_option maxRecDepth 100000
open Go.RowKit

theorem SegM.put_flags (s : SegM) (D : Option Addr) (dc : Nat) : (s.put D dc).flags = s.flags := rfl
theorem SegM.put_data (s : SegM) (D : Option Addr) (dc : Nat) : (s.put D dc).data = s.data := rfl
theorem SegM.put_seq (s : SegM) (D : Option Addr) (dc : Nat) : (s.put D dc).seq = s.seq := rfl
theorem lenG_put (s : SegM) (D : Option Addr) (dc : Nat) : lenG (s.put D dc) = lenG s := rfl
set_option maxHeartbeats 8000000 in
theorem lawTrimG_any (s : SegM) (b z : Nat) (w : World) (hs : SegOk w s) (hb : b < 4294967296) (hz : z < 4294967296) :
    Calls Try.prog 8 #[.agg s.cells, .int .u32 (b : Int), .int .u32 (z : Int)] w fun e w' => e = .returned (.bool true) ∧ Below w.heap.size w w' := by
  have HFR := hid (fun W (h : Below w.heap.size w W) => far13_any s W (hs.below h))
  have HDF := hid (fun W => rdiff_any b s.seq hb hs.seq W)
  have hdr := diffG_range b s.seq
  have HTR := hid (fun (h : s.data.length ≤ 1500) W (hb' : Below w.heap.size w W) => trimG_any s b z W (hs.below hb') hb hz (by omega))
  have HLS := hid (fun (h : s.data.length ≤ 1500) W => lenG_any s W hs.flags hs.o.mac (by omega))
  have HIS := hid (info_segX s hs.o.mac)
  have HCS := hid (fun (W : World) (g : Nat) (h : W.heap[g]? = some (.cells s.cells 34 (0, 0))) => seg_cells h hs.o.mac)
  have HDS := hid (fun W (h : Below w.heap.size w W) => hs.data.below h)
  have HAL := hid alloc_noSegG
  have HSN := hid (SegM.size noSegG rfl)
  have HP1 := hid (fun (h1 : -1073741824 ≤ diffG b s.seq) (h2 : diffG b s.seq ≤ 1073741824) (hz : z ≤ 1073741824) (hn : 0 < lenG (trimG s b z)) => trimG_in s b z hs.seq hb hs.flags h1 h2 hz hn)
  have HP2 := hid (trimG_le s b z hs.flags)
  have HP3 := hid (trimG_found s b z)
  have HP4 := hid (trimG_once s b z hb hs.flags)
  have HP5 := hid (subF_not hs.flags (trimG_flags s b z hs.flags))
  have hsd := hs.data
  have hsf := hs.flags
  generalize noSegG.cells = nc at HAL HSN
  generalize hcs : s.cells = cs at HFR HTR HLS HIS HCS ⊢
  obtain ⟨B, hB⟩ : ∃ B, w.heap.size = B := ⟨_, rfl⟩
  rw [hB] at HFR HTR HDS ⊢
  have HB := hid hB
  obtain ⟨dd, hdd⟩ : ∃ x, diffG b s.seq = x := ⟨_, rfl⟩
  rw [hdd] at HDF hdr HP1
  clear hB hcs hdd hs
  go_enter Try.func8, Try.ntmps8
  go_upto_region 1 with ((with_reducible refine at_slot 3 ?_); refine wpList_boxF rfl 34 (.tmp 0) rfl cs rfl ?_; intro w1 h1 hb1 hz1; rw [HB.out] at h1 hb1 hz1 ⊢)
  obtain ⟨_, _, c2, _⟩ := HCS.out _ _ h1
  go_wp2_with fail
  (with_reducible refine Calls.mono (HDF.out _) ?_)
  rintro e w1' ⟨rfl, rfl⟩
  clear c2
  go_wp2_with (first
    | ((with_reducible refine at_slot 16 ?_); refine wpList_load_row rfl 34 (.tmp 3) rfl B rfl _ cs _ _ h1 Try.underlying34 rfl HIS.out ?_))
  (with_reducible refine Calls.mono (HFR.out _ hb1) ?_)
  rintro e w2 ⟨rfl, hb2⟩
  have h2 := keepS h1 hb2
  have HB2 := hid (hb1.trans (hb2.mono (by omega)))
  have hz2 : B < w2.heap.size := (Array.getElem?_eq_some_iff.1 h2).1
  clear h1 hb1 hb2 hz1 HFR HDF
  obtain ⟨_, _, _, _, _, _, _, c31⟩ := HCS.out _ _ h2
  obtain ⟨t1, ht1⟩ : ∃ t, farG s = t := ⟨_, rfl⟩
  obtain ⟨t2, ht2⟩ : ∃ t, decide (1500 < s.data.length) = t := ⟨_, rfl⟩
  have i2 : decide ((1500 : Int) < (s.data.length : Int)) = t2 := by rw [← ht2, decide_eq_decide]; omega
  obtain ⟨t3, ht3⟩ : ∃ t, decide ((1073741824 : Int) < dd) = t := ⟨_, rfl⟩
  obtain ⟨t4, ht4⟩ : ∃ t, decide (dd < (-1073741824 : Int)) = t := ⟨_, rfl⟩
  obtain ⟨t5, ht5⟩ : ∃ t, decide (1073741824 < z) = t := ⟨_, rfl⟩
  have i5 : decide ((1073741824 : Int) < (z : Int)) = t5 := by rw [← ht5, decide_eq_decide]; omega
  rw [ht1]
  have T2 := hid ht2
  have T3 := hid ht3
  have T4 := hid ht4
  have T5 := hid ht5
  clear ht1 ht2 ht5
  cases t1
  rotate_left 1
  · go_wp2_with fail
    (with_reducible refine Calls.mono (alive13_any _) ?_)
    rintro e w5 ⟨rfl, hb5⟩
    go_wp2_with fail
    go_ret
    exact ⟨rfl, HB2.out.trans (hb5.mono (by omega))⟩
  cases t2
  rotate_left 1
  · go_wp2_with fail
    (with_reducible refine Calls.mono (alive13_any _) ?_)
    rintro e w5 ⟨rfl, hb5⟩
    go_wp2_with fail
    go_ret
    exact ⟨rfl, HB2.out.trans (hb5.mono (by omega))⟩
  cases t3
  rotate_left 1
  · go_wp2_with fail
    (with_reducible refine Calls.mono (alive13_any _) ?_)
    rintro e w5 ⟨rfl, hb5⟩
    go_wp2_with fail
    go_ret
    exact ⟨rfl, HB2.out.trans (hb5.mono (by omega))⟩
  cases t4
  rotate_left 1
  · go_wp2_with fail
    (with_reducible refine Calls.mono (alive13_any _) ?_)
    rintro e w5 ⟨rfl, hb5⟩
    go_wp2_with fail
    go_ret
    exact ⟨rfl, HB2.out.trans (hb5.mono (by omega))⟩
  cases t5
  rotate_left 1
  · go_wp2_with fail
    (with_reducible refine Calls.mono (alive13_any _) ?_)
    rintro e w5 ⟨rfl, hb5⟩
    go_wp2_with fail
    go_ret
    exact ⟨rfl, HB2.out.trans (hb5.mono (by omega))⟩
  have hdl : s.data.length ≤ 1500 := by have := of_decide_eq_false T2.out; omega
  have hd1 : dd ≤ 1073741824 := by have := of_decide_eq_false T3.out; omega
  have hd2 : -1073741824 ≤ dd := by have := of_decide_eq_false T4.out; omega
  have hzl : z ≤ 1073741824 := by have := of_decide_eq_false T5.out; omega
  have HIN := hid (HP1.out hd2 hd1 hzl)
  have HLN := hid (HLS.out hdl)
  have HTT := hid (HTR.out hdl)
  clear HP1 HLS HTR hd1 hd2
  go_wp2_with (first
    | ((with_reducible refine at_slot 37 ?_); refine wpList_load_row rfl 34 (.tmp 3) rfl B rfl _ cs _ _ h2 Try.underlying34 rfl HIS.out ?_))
  (with_reducible refine Calls.mono (HTT.out _ HB2.out) ?_)
  rintro e w3 ⟨D3, d3, rfl, ok3, hb3⟩
  obtain ⟨k, hk1, hk2⟩ := HP3.out
  obtain ⟨t, ht⟩ : ∃ x, (trimG s b z).put D3 d3 = x := ⟨_, rfl⟩
  have q1 : lenG (trimG s b z) = lenG t := by rw [← ht, lenG_put]
  have q2 : (trimG s b z).seq = t.seq := by rw [← ht, SegM.put_seq]
  have q3 : (trimG s b z).data = t.data := by rw [← ht, SegM.put_data]
  have q4 : (trimG s b z).flags = t.flags := by rw [← ht, SegM.put_flags]
  have HONCE := hid (show trimG t b z = t by rw [← ht, trimG_put, HP4.out])
  have HNOT := hid HP5.out
  have hle := HP2.out
  rw [q1, q2] at HIN
  rw [q1] at hle
  rw [q3] at hk1 hk2
  rw [q4] at HNOT
  rw [ht] at ok3 ⊢
  clear ht q1 q2 q3 q4 HP2 HP3 HP4 HP5
  have hls : lenG s ≤ 1000000 := by unfold lenG bitN; split <;> split <;> omega
  have htm := ok3.o.mac
  have htf := ok3.flags
  have hts := ok3.seq
  have htl : t.data.length ≤ 1500 := by omega
  have HIT := hid (info_segX t htm)
  have HOT := hid (SegM.one t)
  have HST := hid (show nc.size = t.cells.size by rw [HSN.out, SegM.size t htm])
  have HLT := hid (fun W => lenG_any t W htf htm (by omega))
  have HCT := hid (fun (W : World) (g : Nat) (h : W.heap[g]? = some (.cells t.cells 34 (0, 0))) => seg_cells h htm)
  have HK := hid hk2
  have h3 := keepS h2 hb3
  have HB3 := hid (HB2.out.trans (hb3.mono (by omega)))
  have OK3 := hid ok3
  clear h2 hb3 HB2 hz2 ok3 hk2
  generalize htc : t.cells = tc at HIT HOT HST HLT HCT ⊢
  have HTC := hid htc
  clear htc
  go_upto_region 5 with (first
    | ((with_reducible refine at_slot 8 ?_); refine wpList_allocF rfl 34 rfl _ HAL.out ?_; intro w4 h4 hb4 s4)
    | ((with_reducible refine at_store 8 40 ?_); refine wpList_rowF rfl 34 (.tmp 8) (.tmp 40) rfl w3.heap.size 34 _ tc rfl rfl h4 HIT.out HST.out HOT.out ?_; intro w5 h5 m5 s5; (have hb5 : Below w3.heap.size w3 w5 := m5.below hb4 (Nat.le_refl _) (by simp))))
  have hs5 := keepS h3 hb5
  have hzz := (Array.getElem?_eq_some_iff.1 h3).1
  have HB5 := hid (HB3.out.trans (hb5.mono (by omega)))
  have OK5 := hid (OK3.out.below hb5)
  obtain ⟨g, hg⟩ : ∃ x, w3.heap.size = x := ⟨_, rfl⟩
  simp only [hg] at h5 ⊢
  clear h4 hb4 s4 m5 s5 hb5 hg h3 HB3 OK3
  go_wp2_with (first
    | ((with_reducible refine at_slot 41 ?_); refine wpList_load_row rfl 34 (.tmp 8) rfl g rfl _ tc _ _ h5 Try.underlying34 rfl HIT.out ?_))
  (with_reducible refine Calls.mono (HLT.out _) ?_)
  rintro e w6 ⟨rfl, hb6⟩
  have hs6 := keepS hs5 hb6
  have h6 := keepS h5 hb6
  have HB6 := hid (HB5.out.trans (hb6.mono (by have := (Array.getElem?_eq_some_iff.1 hs5).1; omega)))
  have OK6 := hid (OK5.out.below hb6)
  clear hb6 hs5 h5 HB5 OK5 HLT
  obtain ⟨n, hn⟩ : ∃ x, lenG t = x := ⟨_, rfl⟩
  rw [hn] at HIN hle ⊢
  obtain ⟨_, _, r2, _⟩ := HCT.out _ _ h6
  obtain ⟨ls, hls2⟩ : ∃ x, lenG s = x := ⟨_, rfl⟩
  rw [hls2] at hle hls HLN
  have t6 : decide ((ls : Int) < (n : Int)) = false := by rw [decide_eq_false_iff_not]; omega
  clear hn hls2
  by_cases hn0 : n = 0
  · subst hn0
    clear HIN r2
    go_wp2_with (first
      | ((with_reducible refine at_slot 66 ?_); refine wpList_rowG (by rfl) 34 (.tmp 3) rfl B rfl _ cs _ hs6 Try.underlying34 rfl HIS.out ?_))
    (with_reducible refine Calls.mono (HLN.out _) ?_)
    rintro e w7 ⟨rfl, hb7⟩
    have hs7 := keepS hs6 hb7
    have h7 := keepS h6 hb7
    have HB7 := hid (HB6.out.trans (hb7.mono (by have := (Array.getElem?_eq_some_iff.1 hs6).1; omega)))
    have OK7 := hid (OK6.out.below hb7)
    clear hb7 hs6 h6 HB6 OK6
    obtain ⟨_, _, _, _, _, _, _, d31⟩ := HCT.out _ _ h7
    obtain ⟨f0, hf0⟩ : ∃ x, decide (t.data.length = 0) = x := ⟨_, rfl⟩
    have i0 : ((t.data.length : Int) == 0) = f0 := by rw [← hf0, Bool.eq_iff_iff, beq_iff_eq, decide_eq_true_eq]; omega
    have HF0 := hid hf0
    clear hf0
    go_wp2_with fail
    have hcapS : s.data.length ≤ s.dc := by
      obtain ⟨A', c', e, r⟩ := hsd
      injection e with e1 e2 e3
      subst e3
      exact r.cap
    go_loopw [10, 11] (fun v10 v11 wr => ∃ (i : Nat) (fd : Bool), v10 = .bool fd ∧ v11 = .int .i64 i ∧ (fd = false → i ≤ k) ∧ i ≤ k + 1 ∧ wr.heap[B]? = some (.cells cs 34 (0, 0)) ∧ wr.heap[g]? = some (.cells tc 34 (0, 0)) ∧ Below B w wr ∧ SegOk wr t) (fun _ v11 _ => k + 1 - (intOf v11).toNat)
    case atStart => exact ⟨0, f0, rfl, rfl, fun _ => Nat.zero_le _, by omega, hs7, h7, HB7.out, OK7.out⟩
    case round =>
      obtain ⟨i, fd, rfl, rfl, hif, hik, hs, ht, hb', ok⟩ := hrel
      clear hs7 h7 HB7 OK7 d31 i0 HF0
      have HS := hid hs
      have HT' := hid ht
      have HBB := hid hb'
      have OK := hid ok
      obtain ⟨_, _, _, _, g4, _, _, g31⟩ := HCT.out _ _ ht
      obtain ⟨_, _, _, _, b4, _, _, b31⟩ := HCS.out _ _ hs
      clear hs ht hb' ok
      cases fd
      · have hi := hif (by trivial)
        have t8 : decide ((i : Int) + (t.data.length : Int) ≤ (s.data.length : Int)) = true := by rw [decide_eq_true_eq]; omega
        have w9 : IntKind.i64.wrap ((i : Int) + (t.data.length : Int)) = (i : Int) + (t.data.length : Int) := by rw [IntKind.wrap_i64]; omega
        have HI := hid hi
        have HIK := hid hik
        obtain ⟨Bs, ks, hcut, hrc⟩ := cutG_lh (A := s.D) (c := s.dc) (b := s.data) hcapS i (i + t.data.length) (i : Int) ((i : Int) + (t.data.length : Int)) rfl (by omega) (by omega) (by omega)
        rw [Nat.add_sub_cancel_left] at hcut hrc
        obtain ⟨fb, hfb⟩ : ∃ x, decide ((s.data.drop i).take t.data.length = t.data) = x := ⟨_, rfl⟩
        have hfb2 : ((strOf ((s.data.drop i).take t.data.length)).toList == (strOf t.data).toList) = fb := by rw [strOf_beq]; exact hfb
        have HFB := hid (show fb = false → i ≠ k from fun h hik2 => by rw [← hfb, hik2] at h; exact absurd HK.out (of_decide_eq_false h))
        have HRC := hid hrc
        have hlb : B < wr.heap.size := (Array.getElem?_eq_some_iff.1 HS.out).1
        have hlg : g < wr.heap.size := (Array.getElem?_eq_some_iff.1 HT'.out).1
        have hib : i ≤ 1501 := by omega
        clear hfb hrc hi hif hik
        go_upto_region 12 with fail
        refine wp_region_later wr.heap.size (Nat.le_refl _) (by kernel_rfl) (by kernel_rfl) ?_
        have z1 := fun x : Later wr.heap.size wr => keep_cell x.ok g31 hlg
        have z2 := fun x : Later wr.heap.size wr => keep_cell x.ok b31 hlb
        have z3 := fun x : Later wr.heap.size wr => conv_str (HRC.out _ ((HDS.out _ HBB.out).below x.ok))
        have z4 := fun x : Later wr.heap.size wr => conv_str ((OK.out.below x.ok).data)
        clear g4 g31 b4 b31
        repeat (first
          | go_big_quiet_step (first | fail))
        refine wpQuiet_nil ?_
        rintro _ ⟨lx, rfl⟩
        have hbl := hid lx.ok
        clear z1 z2 z3 z4
        generalize lx.wd = wz at hbl ⊢
        go_wp2_with fail
        go_roundw
        case rel => exact ⟨i + 1, fb, rfl, by have := HI.out; go_num, (fun h => by have := HFB.out h; have := HI.out; omega), by have := HI.out; omega, keepS HS.out hbl.out, keepS HT'.out hbl.out, below_after (HB.out.symm ▸ HBB.out) hbl.out (Nat.le_refl _) |> (HB.out ▸ ·), OK.out.below hbl.out⟩
        case measure => have := HI.out; simp [intOf]; omega
      · obtain ⟨y, hy⟩ : ∃ y, decide ((i : Int) + (t.data.length : Int) ≤ (s.data.length : Int)) = y := ⟨_, rfl⟩
        cases y
        all_goals
          go_upto_region 13 with fail
          have hlb : B < wr.heap.size := (Array.getElem?_eq_some_iff.1 HS.out).1
          have hlg : g < wr.heap.size := (Array.getElem?_eq_some_iff.1 HT'.out).1
          have hnot := HNOT.out
          have HF13 := hid (fun (W : World) (h : Below wr.heap.size wr W) => (⟨keepS HS.out h, keepS HT'.out h⟩ : _ ∧ _))
          have HT13 := hid (fun (W : World) (h : Below wr.heap.size wr W) => trimG_any t b z W (OK.out.below h) hb hz (by omega))
          have HG13 := hid (fun (W : World) (h : Below wr.heap.size wr W) => keep_cell h g4 hlg)
          have HB13 := hid (fun (W : World) (h : Below wr.heap.size wr W) => keep_cell h b4 hlb)
          rw [HONCE.out, HTC.out] at HT13
          clear g4 b4 g31 b31
          refine wp_region_hand (fun W => Below wr.heap.size wr W) (by kernel_rfl) (below_drewN (Below.refl _ _) 1) ?_
          intro hS
          generalize ({ wr with drawn := wr.drawn + 1 } : World) = u at hS ⊢
          refine wpAnyH_take (i := 0) (oi := ⟨some 103, _, _, _, _, _⟩) (v := ?_) rfl (by kernel_rfl) (by kernel_rfl) (by kernel_rfl) (fun _ _ _ h => h) (Or.inl ⟨by rfl, ?_⟩) hS ?_
          rotate_left 1
          focus ((intro W' hS'; go_simp) <;> with_reducible rfl)
          try simp only [Act.put, List.setIfInBounds_toArray, List.set_cons_zero, List.set_cons_succ]
          refine wpAnyH_take (i := 1) (oi := ⟨some 104, _, _, _, _, _⟩) (v := ?_) rfl (by kernel_rfl) (by kernel_rfl) (by kernel_rfl) (fun _ _ _ h => h) (Or.inl ⟨by rfl, ?_⟩) hS ?_
          rotate_left 1
          focus ((intro W' hS'; go_simp) <;> with_reducible rfl)
          try simp only [Act.put, List.setIfInBounds_toArray, List.set_cons_zero, List.set_cons_succ]
          refine wpAnyH_take (i := 2) (oi := ⟨some 105, _, _, _, _, _⟩) rfl (by kernel_rfl) (by kernel_rfl) (by kernel_rfl) (fun _ _ _ h => h) (yields_row 34 (.tmp 8) rfl (by rfl) ⟨g, 0, none⟩ rfl tc _ (fun W' hS' => cells_part (o := 0) ((HF13.out _ hS').2) (fun j u h => by rw [Nat.zero_add]; exact h)) Try.underlying34 rfl HIT.out) hS ?_
          try simp only [Act.put, List.setIfInBounds_toArray, List.set_cons_zero, List.set_cons_succ]
          refine wpAnyH_take (i := 3) (oi := ⟨some 106, _, _, _, _, _⟩) (v := ?_) rfl (by kernel_rfl) (by kernel_rfl) (by kernel_rfl) (fun _ _ _ h => h) (Or.inl ⟨by rfl, ?_⟩) hS ?_
          rotate_left 1
          focus ((intro W' hS'; go_simp) <;> with_reducible rfl)
          try simp only [Act.put, List.setIfInBounds_toArray, List.set_cons_zero, List.set_cons_succ]
          refine wpAnyH_take (i := 4) (oi := ⟨some 107, _, _, _, _, _⟩) (v := ?_) rfl (by kernel_rfl) (by kernel_rfl) (by kernel_rfl) (fun _ _ _ h => h) (Or.inl ⟨by rfl, ?_⟩) hS ?_
          rotate_left 1
          focus ((intro W' hS'; go_simp) <;> with_reducible rfl)
          try simp only [Act.put, List.setIfInBounds_toArray, List.set_cons_zero, List.set_cons_succ]
          refine wpAnyH_take (i := 6) (oi := ⟨some 109, _, _, _, _, _⟩) rfl (by kernel_rfl) (by kernel_rfl) (by kernel_rfl) (fun _ _ _ h => h) (yields_row 34 (.tmp 8) rfl (by rfl) ⟨g, 0, none⟩ rfl tc _ (fun W' hS' => cells_part (o := 0) ((HF13.out _ hS').2) (fun j u h => by rw [Nat.zero_add]; exact h)) Try.underlying34 rfl HIT.out) hS ?_
          try simp only [Act.put, List.setIfInBounds_toArray, List.set_cons_zero, List.set_cons_succ]
          refine anyH_one (i := 5) (by kernel_rfl) ⟨some 108, _, _, _, _, _⟩ rfl (by rfl) ?_
          go_simp
          with_reducible refine Calls.mono (HT13.out _ hS) ?_
          rintro e u2 ⟨D5, d5, rfl, ok5, hb5⟩
          have hS5 := below_after hS hb5 (Nat.le_refl _)
          have hsm := sameG_any (t.put D5 d5) t u2 ok5 (OK.out.below hS5)
          rw [show sameS (t.put D5 d5) t = true from sameS_put t D5 t.D d5 t.dc, HTC.out] at hsm
          have HSM5 := hid hsm
          clear hb5 hS ok5 hsm
          have hS := hS5
          clear hS5
          refine ⟨hS, ?_⟩
          try simp only [Act.put, List.setIfInBounds_toArray, List.set_cons_zero, List.set_cons_succ]
          refine anyH_one (i := 7) (by kernel_rfl) ⟨some 110, _, _, _, _, _⟩ rfl (by rfl) ?_
          go_simp
          with_reducible refine Calls.mono HSM5.out ?_
          rintro e u3 ⟨rfl, hb6⟩
          have hS6 := below_after hS hb6 (Nat.le_refl _)
          clear hb6 hS
          have hS := hS6
          clear hS6
          refine ⟨hS, ?_⟩
          try simp only [Act.put, List.setIfInBounds_toArray, List.set_cons_zero, List.set_cons_succ]
          refine wpAnyH_take (i := 8) (oi := ⟨some 111, _, _, _, _, _⟩) (v := ?_) rfl (by kernel_rfl) (by kernel_rfl) (by kernel_rfl) (fun _ _ _ h => h) (Or.inl ⟨by rfl, ?_⟩) hS ?_
          rotate_left 1
          focus ((intro W' hS'; go_simp) <;> with_reducible rfl)
          try simp only [Act.put, List.setIfInBounds_toArray, List.set_cons_zero, List.set_cons_succ]
          refine wpAnyH_take (i := 9) (oi := ⟨some 112, _, _, _, _, _⟩) (v := ?_) rfl (by kernel_rfl) (by kernel_rfl) (by kernel_rfl) (fun _ _ _ h => h) (Or.inl ⟨by rfl, ?_⟩) hS ?_
          rotate_left 1
          focus ((intro W' hS'; go_simp) <;> with_reducible rfl)
          try simp only [Act.put, List.setIfInBounds_toArray, List.set_cons_zero, List.set_cons_succ]
          refine wpAnyH_take (i := 10) (oi := ⟨some 113, _, _, _, _, _⟩) (v := ?_) rfl (by kernel_rfl) (by kernel_rfl) (by kernel_rfl) (fun _ _ _ h => h) (Or.inl ⟨by rfl, ?_⟩) hS ?_
          rotate_left 1
          focus ((intro W' hS'; go_simp) <;> with_reducible rfl)
          try simp only [Act.put, List.setIfInBounds_toArray, List.set_cons_zero, List.set_cons_succ]
          refine wpAnyH_take (i := 11) (oi := ⟨some 114, _, _, _, _, _⟩) (v := ?_) rfl (by kernel_rfl) (by kernel_rfl) (by kernel_rfl) (fun _ _ _ h => h) (Or.inl ⟨by rfl, ?_⟩) hS ?_
          rotate_left 1
          focus ((intro W' hS'; have x4 := HG13.out _ hS'; go_simp) <;> with_reducible rfl)
          try simp only [Act.put, List.setIfInBounds_toArray, List.set_cons_zero, List.set_cons_succ]
          refine wpAnyH_take (i := 12) (oi := ⟨some 115, _, _, _, _, _⟩) (v := ?_) rfl (by kernel_rfl) (by kernel_rfl) (by kernel_rfl) (fun _ _ _ h => h) (Or.inl ⟨by rfl, ?_⟩) hS ?_
          rotate_left 1
          focus ((intro W' hS'; go_simp) <;> with_reducible rfl)
          try simp only [Act.put, List.setIfInBounds_toArray, List.set_cons_zero, List.set_cons_succ]
          refine wpAnyH_take (i := 13) (oi := ⟨some 116, _, _, _, _, _⟩) (v := ?_) rfl (by kernel_rfl) (by kernel_rfl) (by kernel_rfl) (fun _ _ _ h => h) (Or.inl ⟨by rfl, ?_⟩) hS ?_
          rotate_left 1
          focus ((intro W' hS'; have x4 := HB13.out _ hS'; go_simp) <;> with_reducible rfl)
          try simp only [Act.put, List.setIfInBounds_toArray, List.set_cons_zero, List.set_cons_succ]
          refine wpAnyH_take (i := 14) (oi := ⟨some 117, _, _, _, _, _⟩) (v := ?_) rfl (by kernel_rfl) (by kernel_rfl) (by kernel_rfl) (fun _ _ _ h => h) (Or.inl ⟨by rfl, ?_⟩) hS ?_
          rotate_left 1
          focus ((intro W' hS'; have x5 := hnot; go_simp) <;> with_reducible rfl)
          try simp only [Act.put, List.setIfInBounds_toArray, List.set_cons_zero, List.set_cons_succ]
          refine wpAnyH_take (i := 15) (oi := ⟨some 118, _, _, _, _, _⟩) (v := ?_) rfl (by kernel_rfl) (by kernel_rfl) (by kernel_rfl) (fun _ _ _ h => h) (Or.inl ⟨by rfl, ?_⟩) hS ?_
          rotate_left 1
          focus ((intro W' hS'; go_simp) <;> with_reducible rfl)
          try simp only [Act.put, List.setIfInBounds_toArray, List.set_cons_zero, List.set_cons_succ]
          refine wpAnyH_take (i := 16) (oi := ⟨some 119, _, _, _, _, _⟩) (v := ?_) rfl (by kernel_rfl) (by kernel_rfl) (by kernel_rfl) (fun _ _ _ h => h) (Or.inl ⟨by rfl, ?_⟩) hS ?_
          rotate_left 1
          focus ((intro W' hS'; go_simp) <;> with_reducible rfl)
          try simp only [Act.put, List.setIfInBounds_toArray, List.set_cons_zero, List.set_cons_succ]
          refine wpAnyH_take (i := 17) (oi := ⟨some 120, _, _, _, _, _⟩) (v := ?_) rfl (by kernel_rfl) (by kernel_rfl) (by kernel_rfl) (fun _ _ _ h => h) (Or.inl ⟨by rfl, ?_⟩) hS ?_
          rotate_left 1
          focus ((intro W' hS'; go_simp) <;> with_reducible rfl)
          try simp only [Act.put, List.setIfInBounds_toArray, List.set_cons_zero, List.set_cons_succ]
          refine anyH_one (i := 18) (by kernel_rfl) ⟨some 121, _, _, _, _, _⟩ rfl (by rfl) ?_
          go_simp
          with_reducible refine Calls.mono (alive13_any _) ?_
          rintro e u4 ⟨rfl, hb7⟩
          have hS7 := below_after hS hb7 (Nat.le_refl _)
          clear hb7 hS
          have hS := hS7
          clear hS7
          refine ⟨hS, ?_⟩
          try simp only [Act.put, List.setIfInBounds_toArray, List.set_cons_zero, List.set_cons_succ]
          refine wpAnyH_take (i := 19) (oi := ⟨some 122, _, _, _, _, _⟩) (v := ?_) rfl (by kernel_rfl) (by kernel_rfl) (by kernel_rfl) (fun _ _ _ h => h) (Or.inl ⟨by rfl, ?_⟩) hS ?_
          rotate_left 1
          focus ((intro W' hS'; go_simp) <;> with_reducible rfl)
          try simp only [Act.put, List.setIfInBounds_toArray, List.set_cons_zero, List.set_cons_succ]
          refine wpAnyH_take (i := 20) (oi := ⟨some 6, _, _, _, _, _⟩) (v := ?_) rfl (by kernel_rfl) (by kernel_rfl) (by kernel_rfl) (fun _ _ _ h => h) (Or.inl ⟨by rfl, ?_⟩) hS ?_
          rotate_left 1
          focus ((intro W' hS'; go_simp) <;> with_reducible rfl)
          try simp only [Act.put, List.setIfInBounds_toArray, List.set_cons_zero, List.set_cons_succ]
          refine wpAnyH_done (by kernel_rfl) ?_ _
          go_wp2_with fail
          go_ret
          exact ⟨rfl, HBB.out.trans (hS.mono (by have := HBB.out.size; have := HB.out; omega))⟩
  · obtain ⟨i1, i2⟩ := HIN.out (by omega)
    obtain ⟨lq, hlq⟩ : ∃ x, (t.seq + n + 4294967295) % 4294967296 = x := ⟨_, rfl⟩
    rw [hlq] at i2
    have hlql : lq < 4294967296 := by omega
    have e1 : ((((t.seq : Int) + (n : Int)) % 4294967296 - 1) % 4294967296) = (lq : Int) := by omega
    have HI1 := hid (fun W => rin_any t.seq b z hts hb hz W)
    have HI2 := hid (fun W => rin_any lq b z hlql hb hz W)
    rw [decide_eq_true i1] at HI1
    rw [decide_eq_true i2] at HI2
    have t7 : decide ((0 : Int) < (n : Int)) = true := by rw [decide_eq_true_eq]; omega
    clear HIN i1 i2 hlq
    go_wp2_with fail
    (with_reducible refine Calls.mono (HI1.out _) ?_)
    rintro e w6' ⟨rfl, rfl⟩
    go_wp2_with fail
    try simp only [e1]
    (with_reducible refine Calls.mono (HI2.out _) ?_)
    rintro e w6' ⟨rfl, rfl⟩
    clear HI1 HI2 r2 hlql
    go_wp2_with (first
      | ((with_reducible refine at_slot 66 ?_); refine wpList_rowG (by rfl) 34 (.tmp 3) rfl B rfl _ cs _ hs6 Try.underlying34 rfl HIS.out ?_))
    (with_reducible refine Calls.mono (HLN.out _) ?_)
    rintro e w7 ⟨rfl, hb7⟩
    have hs7 := keepS hs6 hb7
    have h7 := keepS h6 hb7
    have HB7 := hid (HB6.out.trans (hb7.mono (by have := (Array.getElem?_eq_some_iff.1 hs6).1; omega)))
    have OK7 := hid (OK6.out.below hb7)
    clear hb7 hs6 h6 HB6 OK6
    obtain ⟨_, _, _, _, _, _, _, d31⟩ := HCT.out _ _ h7
    obtain ⟨f0, hf0⟩ : ∃ x, decide (t.data.length = 0) = x := ⟨_, rfl⟩
    have i0 : ((t.data.length : Int) == 0) = f0 := by rw [← hf0, Bool.eq_iff_iff, beq_iff_eq, decide_eq_true_eq]; omega
    have HF0 := hid hf0
    clear hf0
    go_wp2_with fail
    have hcapS : s.data.length ≤ s.dc := by
      obtain ⟨A', c', e, r⟩ := hsd
      injection e with e1 e2 e3
      subst e3
      exact r.cap
    go_loopw [10, 11] (fun v10 v11 wr => ∃ (i : Nat) (fd : Bool), v10 = .bool fd ∧ v11 = .int .i64 i ∧ (fd = false → i ≤ k) ∧ i ≤ k + 1 ∧ wr.heap[B]? = some (.cells cs 34 (0, 0)) ∧ wr.heap[g]? = some (.cells tc 34 (0, 0)) ∧ Below B w wr ∧ SegOk wr t) (fun _ v11 _ => k + 1 - (intOf v11).toNat)
    case atStart => exact ⟨0, f0, rfl, rfl, fun _ => Nat.zero_le _, by omega, hs7, h7, HB7.out, OK7.out⟩
    case round =>
      obtain ⟨i, fd, rfl, rfl, hif, hik, hs, ht, hb', ok⟩ := hrel
      clear hs7 h7 HB7 OK7 d31 i0 HF0
      have HS := hid hs
      have HT' := hid ht
      have HBB := hid hb'
      have OK := hid ok
      obtain ⟨_, _, _, _, g4, _, _, g31⟩ := HCT.out _ _ ht
      obtain ⟨_, _, _, _, b4, _, _, b31⟩ := HCS.out _ _ hs
      clear hs ht hb' ok
      cases fd
      · have hi := hif (by trivial)
        have t8 : decide ((i : Int) + (t.data.length : Int) ≤ (s.data.length : Int)) = true := by rw [decide_eq_true_eq]; omega
        have w9 : IntKind.i64.wrap ((i : Int) + (t.data.length : Int)) = (i : Int) + (t.data.length : Int) := by rw [IntKind.wrap_i64]; omega
        have HI := hid hi
        have HIK := hid hik
        obtain ⟨Bs, ks, hcut, hrc⟩ := cutG_lh (A := s.D) (c := s.dc) (b := s.data) hcapS i (i + t.data.length) (i : Int) ((i : Int) + (t.data.length : Int)) rfl (by omega) (by omega) (by omega)
        rw [Nat.add_sub_cancel_left] at hcut hrc
        obtain ⟨fb, hfb⟩ : ∃ x, decide ((s.data.drop i).take t.data.length = t.data) = x := ⟨_, rfl⟩
        have hfb2 : ((strOf ((s.data.drop i).take t.data.length)).toList == (strOf t.data).toList) = fb := by rw [strOf_beq]; exact hfb
        have HFB := hid (show fb = false → i ≠ k from fun h hik2 => by rw [← hfb, hik2] at h; exact absurd HK.out (of_decide_eq_false h))
        have HRC := hid hrc
        have hlb : B < wr.heap.size := (Array.getElem?_eq_some_iff.1 HS.out).1
        have hlg : g < wr.heap.size := (Array.getElem?_eq_some_iff.1 HT'.out).1
        have hib : i ≤ 1501 := by omega
        clear hfb hrc hi hif hik
        go_upto_region 12 with fail
        refine wp_region_later wr.heap.size (Nat.le_refl _) (by kernel_rfl) (by kernel_rfl) ?_
        have z1 := fun x : Later wr.heap.size wr => keep_cell x.ok g31 hlg
        have z2 := fun x : Later wr.heap.size wr => keep_cell x.ok b31 hlb
        have z3 := fun x : Later wr.heap.size wr => conv_str (HRC.out _ ((HDS.out _ HBB.out).below x.ok))
        have z4 := fun x : Later wr.heap.size wr => conv_str ((OK.out.below x.ok).data)
        clear g4 g31 b4 b31
        repeat (first
          | go_big_quiet_step (first | fail))
        refine wpQuiet_nil ?_
        rintro _ ⟨lx, rfl⟩
        have hbl := hid lx.ok
        clear z1 z2 z3 z4
        generalize lx.wd = wz at hbl ⊢
        go_wp2_with fail
        go_roundw
        case rel => exact ⟨i + 1, fb, rfl, by have := HI.out; go_num, (fun h => by have := HFB.out h; have := HI.out; omega), by have := HI.out; omega, keepS HS.out hbl.out, keepS HT'.out hbl.out, below_after (HB.out.symm ▸ HBB.out) hbl.out (Nat.le_refl _) |> (HB.out ▸ ·), OK.out.below hbl.out⟩
        case measure => have := HI.out; simp [intOf]; omega
      · obtain ⟨y, hy⟩ : ∃ y, decide ((i : Int) + (t.data.length : Int) ≤ (s.data.length : Int)) = y := ⟨_, rfl⟩
        cases y
        all_goals
          go_upto_region 13 with fail
          have hlb : B < wr.heap.size := (Array.getElem?_eq_some_iff.1 HS.out).1
          have hlg : g < wr.heap.size := (Array.getElem?_eq_some_iff.1 HT'.out).1
          have hnot := HNOT.out
          have HF13 := hid (fun (W : World) (h : Below wr.heap.size wr W) => (⟨keepS HS.out h, keepS HT'.out h⟩ : _ ∧ _))
          have HT13 := hid (fun (W : World) (h : Below wr.heap.size wr W) => trimG_any t b z W (OK.out.below h) hb hz (by omega))
          have HG13 := hid (fun (W : World) (h : Below wr.heap.size wr W) => keep_cell h g4 hlg)
          have HB13 := hid (fun (W : World) (h : Below wr.heap.size wr W) => keep_cell h b4 hlb)
          rw [HONCE.out, HTC.out] at HT13
          clear g4 b4 g31 b31
          refine wp_region_hand (fun W => Below wr.heap.size wr W) (by kernel_rfl) (below_drewN (Below.refl _ _) 1) ?_
          intro hS
          generalize ({ wr with drawn := wr.drawn + 1 } : World) = u at hS ⊢
          refine wpAnyH_take (i := 0) (oi := ⟨some 103, _, _, _, _, _⟩) (v := ?_) rfl (by kernel_rfl) (by kernel_rfl) (by kernel_rfl) (fun _ _ _ h => h) (Or.inl ⟨by rfl, ?_⟩) hS ?_
          rotate_left 1
          focus ((intro W' hS'; go_simp) <;> with_reducible rfl)
          try simp only [Act.put, List.setIfInBounds_toArray, List.set_cons_zero, List.set_cons_succ]
          refine wpAnyH_take (i := 1) (oi := ⟨some 104, _, _, _, _, _⟩) (v := ?_) rfl (by kernel_rfl) (by kernel_rfl) (by kernel_rfl) (fun _ _ _ h => h) (Or.inl ⟨by rfl, ?_⟩) hS ?_
          rotate_left 1
          focus ((intro W' hS'; go_simp) <;> with_reducible rfl)
          try simp only [Act.put, List.setIfInBounds_toArray, List.set_cons_zero, List.set_cons_succ]
          refine wpAnyH_take (i := 2) (oi := ⟨some 105, _, _, _, _, _⟩) rfl (by kernel_rfl) (by kernel_rfl) (by kernel_rfl) (fun _ _ _ h => h) (yields_row 34 (.tmp 8) rfl (by rfl) ⟨g, 0, none⟩ rfl tc _ (fun W' hS' => cells_part (o := 0) ((HF13.out _ hS').2) (fun j u h => by rw [Nat.zero_add]; exact h)) Try.underlying34 rfl HIT.out) hS ?_
          try simp only [Act.put, List.setIfInBounds_toArray, List.set_cons_zero, List.set_cons_succ]
          refine wpAnyH_take (i := 3) (oi := ⟨some 106, _, _, _, _, _⟩) (v := ?_) rfl (by kernel_rfl) (by kernel_rfl) (by kernel_rfl) (fun _ _ _ h => h) (Or.inl ⟨by rfl, ?_⟩) hS ?_
          rotate_left 1
          focus ((intro W' hS'; go_simp) <;> with_reducible rfl)
          try simp only [Act.put, List.setIfInBounds_toArray, List.set_cons_zero, List.set_cons_succ]
          refine wpAnyH_take (i := 4) (oi := ⟨some 107, _, _, _, _, _⟩) (v := ?_) rfl (by kernel_rfl) (by kernel_rfl) (by kernel_rfl) (fun _ _ _ h => h) (Or.inl ⟨by rfl, ?_⟩) hS ?_
          rotate_left 1
          focus ((intro W' hS'; go_simp) <;> with_reducible rfl)
          try simp only [Act.put, List.setIfInBounds_toArray, List.set_cons_zero, List.set_cons_succ]
          refine wpAnyH_take (i := 6) (oi := ⟨some 109, _, _, _, _, _⟩) rfl (by kernel_rfl) (by kernel_rfl) (by kernel_rfl) (fun _ _ _ h => h) (yields_row 34 (.tmp 8) rfl (by rfl) ⟨g, 0, none⟩ rfl tc _ (fun W' hS' => cells_part (o := 0) ((HF13.out _ hS').2) (fun j u h => by rw [Nat.zero_add]; exact h)) Try.underlying34 rfl HIT.out) hS ?_
          try simp only [Act.put, List.setIfInBounds_toArray, List.set_cons_zero, List.set_cons_succ]
          refine anyH_one (i := 5) (by kernel_rfl) ⟨some 108, _, _, _, _, _⟩ rfl (by rfl) ?_
          go_simp
          with_reducible refine Calls.mono (HT13.out _ hS) ?_
          rintro e u2 ⟨D5, d5, rfl, ok5, hb5⟩
          have hS5 := below_after hS hb5 (Nat.le_refl _)
          have hsm := sameG_any (t.put D5 d5) t u2 ok5 (OK.out.below hS5)
          rw [show sameS (t.put D5 d5) t = true from sameS_put t D5 t.D d5 t.dc, HTC.out] at hsm
          have HSM5 := hid hsm
          clear hb5 hS ok5 hsm
          have hS := hS5
          clear hS5
          refine ⟨hS, ?_⟩
          try simp only [Act.put, List.setIfInBounds_toArray, List.set_cons_zero, List.set_cons_succ]
          refine anyH_one (i := 7) (by kernel_rfl) ⟨some 110, _, _, _, _, _⟩ rfl (by rfl) ?_
          go_simp
          with_reducible refine Calls.mono HSM5.out ?_
          rintro e u3 ⟨rfl, hb6⟩
          have hS6 := below_after hS hb6 (Nat.le_refl _)
          clear hb6 hS
          have hS := hS6
          clear hS6
          refine ⟨hS, ?_⟩
          try simp only [Act.put, List.setIfInBounds_toArray, List.set_cons_zero, List.set_cons_succ]
          refine wpAnyH_take (i := 8) (oi := ⟨some 111, _, _, _, _, _⟩) (v := ?_) rfl (by kernel_rfl) (by kernel_rfl) (by kernel_rfl) (fun _ _ _ h => h) (Or.inl ⟨by rfl, ?_⟩) hS ?_
          rotate_left 1
          focus ((intro W' hS'; go_simp) <;> with_reducible rfl)
          try simp only [Act.put, List.setIfInBounds_toArray, List.set_cons_zero, List.set_cons_succ]
          refine wpAnyH_take (i := 9) (oi := ⟨some 112, _, _, _, _, _⟩) (v := ?_) rfl (by kernel_rfl) (by kernel_rfl) (by kernel_rfl) (fun _ _ _ h => h) (Or.inl ⟨by rfl, ?_⟩) hS ?_
          rotate_left 1
          focus ((intro W' hS'; go_simp) <;> with_reducible rfl)
          try simp only [Act.put, List.setIfInBounds_toArray, List.set_cons_zero, List.set_cons_succ]
          refine wpAnyH_take (i := 10) (oi := ⟨some 113, _, _, _, _, _⟩) (v := ?_) rfl (by kernel_rfl) (by kernel_rfl) (by kernel_rfl) (fun _ _ _ h => h) (Or.inl ⟨by rfl, ?_⟩) hS ?_
          rotate_left 1
          focus ((intro W' hS'; go_simp) <;> with_reducible rfl)
          try simp only [Act.put, List.setIfInBounds_toArray, List.set_cons_zero, List.set_cons_succ]
          refine wpAnyH_take (i := 11) (oi := ⟨some 114, _, _, _, _, _⟩) (v := ?_) rfl (by kernel_rfl) (by kernel_rfl) (by kernel_rfl) (fun _ _ _ h => h) (Or.inl ⟨by rfl, ?_⟩) hS ?_
          rotate_left 1
          focus ((intro W' hS'; have x4 := HG13.out _ hS'; go_simp) <;> with_reducible rfl)
          try simp only [Act.put, List.setIfInBounds_toArray, List.set_cons_zero, List.set_cons_succ]
          refine wpAnyH_take (i := 12) (oi := ⟨some 115, _, _, _, _, _⟩) (v := ?_) rfl (by kernel_rfl) (by kernel_rfl) (by kernel_rfl) (fun _ _ _ h => h) (Or.inl ⟨by rfl, ?_⟩) hS ?_
          rotate_left 1
          focus ((intro W' hS'; go_simp) <;> with_reducible rfl)
          try simp only [Act.put, List.setIfInBounds_toArray, List.set_cons_zero, List.set_cons_succ]
          refine wpAnyH_take (i := 13) (oi := ⟨some 116, _, _, _, _, _⟩) (v := ?_) rfl (by kernel_rfl) (by kernel_rfl) (by kernel_rfl) (fun _ _ _ h => h) (Or.inl ⟨by rfl, ?_⟩) hS ?_
          rotate_left 1
          focus ((intro W' hS'; have x4 := HB13.out _ hS'; go_simp) <;> with_reducible rfl)
          try simp only [Act.put, List.setIfInBounds_toArray, List.set_cons_zero, List.set_cons_succ]
          refine wpAnyH_take (i := 14) (oi := ⟨some 117, _, _, _, _, _⟩) (v := ?_) rfl (by kernel_rfl) (by kernel_rfl) (by kernel_rfl) (fun _ _ _ h => h) (Or.inl ⟨by rfl, ?_⟩) hS ?_
          rotate_left 1
          focus ((intro W' hS'; have x5 := hnot; go_simp) <;> with_reducible rfl)
          try simp only [Act.put, List.setIfInBounds_toArray, List.set_cons_zero, List.set_cons_succ]
          refine wpAnyH_take (i := 15) (oi := ⟨some 118, _, _, _, _, _⟩) (v := ?_) rfl (by kernel_rfl) (by kernel_rfl) (by kernel_rfl) (fun _ _ _ h => h) (Or.inl ⟨by rfl, ?_⟩) hS ?_
          rotate_left 1
          focus ((intro W' hS'; go_simp) <;> with_reducible rfl)
          try simp only [Act.put, List.setIfInBounds_toArray, List.set_cons_zero, List.set_cons_succ]
          refine wpAnyH_take (i := 16) (oi := ⟨some 119, _, _, _, _, _⟩) (v := ?_) rfl (by kernel_rfl) (by kernel_rfl) (by kernel_rfl) (fun _ _ _ h => h) (Or.inl ⟨by rfl, ?_⟩) hS ?_
          rotate_left 1
          focus ((intro W' hS'; go_simp) <;> with_reducible rfl)
          try simp only [Act.put, List.setIfInBounds_toArray, List.set_cons_zero, List.set_cons_succ]
          refine wpAnyH_take (i := 17) (oi := ⟨some 120, _, _, _, _, _⟩) (v := ?_) rfl (by kernel_rfl) (by kernel_rfl) (by kernel_rfl) (fun _ _ _ h => h) (Or.inl ⟨by rfl, ?_⟩) hS ?_
          rotate_left 1
          focus ((intro W' hS'; go_simp) <;> with_reducible rfl)
          try simp only [Act.put, List.setIfInBounds_toArray, List.set_cons_zero, List.set_cons_succ]
          refine anyH_one (i := 18) (by kernel_rfl) ⟨some 121, _, _, _, _, _⟩ rfl (by rfl) ?_
          go_simp
          with_reducible refine Calls.mono (alive13_any _) ?_
          rintro e u4 ⟨rfl, hb7⟩
          have hS7 := below_after hS hb7 (Nat.le_refl _)
          clear hb7 hS
          have hS := hS7
          clear hS7
          refine ⟨hS, ?_⟩
          try simp only [Act.put, List.setIfInBounds_toArray, List.set_cons_zero, List.set_cons_succ]
          refine wpAnyH_take (i := 19) (oi := ⟨some 122, _, _, _, _, _⟩) (v := ?_) rfl (by kernel_rfl) (by kernel_rfl) (by kernel_rfl) (fun _ _ _ h => h) (Or.inl ⟨by rfl, ?_⟩) hS ?_
          rotate_left 1
          focus ((intro W' hS'; go_simp) <;> with_reducible rfl)
          try simp only [Act.put, List.setIfInBounds_toArray, List.set_cons_zero, List.set_cons_succ]
          refine wpAnyH_take (i := 20) (oi := ⟨some 6, _, _, _, _, _⟩) (v := ?_) rfl (by kernel_rfl) (by kernel_rfl) (by kernel_rfl) (fun _ _ _ h => h) (Or.inl ⟨by rfl, ?_⟩) hS ?_
          rotate_left 1
          focus ((intro W' hS'; go_simp) <;> with_reducible rfl)
          try simp only [Act.put, List.setIfInBounds_toArray, List.set_cons_zero, List.set_cons_succ]
          refine wpAnyH_done (by kernel_rfl) ?_ _
          go_wp2_with fail
          go_ret
          exact ⟨rfl, HBB.out.trans (hS.mono (by have := HBB.out.size; have := HB.out; omega))⟩
end Go.Proofs.Ythnidgiogjehkaa
