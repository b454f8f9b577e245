/- Walks: a packet with one hop less. -/
import Derived.Test.YtlijgcmcpehplaaRPar6
namespace Go.Proofs.Ytlijgcmcpehplaa
set_option linter.unusedVariables false
set_option linter.unusedSimpArgs false
open Go.RowKit

def hop6 (b : List UInt8) : List UInt8 × Int :=
  if (parse6 b).2 ≠ 0 then ([], (parse6 b).2) else if (parse6 b).1.hops.toNat < 2 then ([], 1) else (b.set 7 (UInt8.ofNat ((b.getD 7 0).toNat - 1)), 0)
theorem parse6_len (b : List UInt8) (h : (parse6 b).2 = 0) : 40 ≤ b.length ∧ (parse6 b).1.hops = b.getD 7 0 := by
  unfold parse6 at h ⊢
  split at h
  · cases h
  · rename_i h40
    refine ⟨by omega, ?_⟩
    rw [if_neg h40]
    split at h
    · cases h
    · rename_i hk
      rw [if_neg hk]
      split at h
      · cases h
      · rename_i hs
        rw [if_neg hs]
        split at h
        · rename_i e he
          exact absurd he (by simp only at h; subst h; exact heads6_err_ne _ _ _ _)
        · rename_i k f r hr
          split at h
          · rename_i hm
            simp only [hm, if_true]
            rfl
          · cases h
def BytesPost (r : List UInt8 × Int) (w : World) (e : Ending) (w' : World) : Prop :=
  ∃ A c, e = .returned (.tuple #[.slice A r.1.length c, .int .i64 r.2]) ∧ OB w' w.heap.size (.slice A r.1.length c) r.1 ∧ Below w.heap.size w w'
theorem BytesPost.nil {r : List UInt8 × Int} {n : Int} {w w' : World} (hr : r = ([], n)) (hb : Below w.heap.size w w') : BytesPost r w (.returned (.tuple #[.slice none 0 0, .int .i64 n])) w' := by
  subst hr
  exact ⟨none, 0, rfl, OB.nil _ _, hb⟩
theorem BytesPost.of {r : List UInt8 × Int} {xs : List UInt8} {n : Int} {A : Option Addr} {m c base : Nat} {w w' : World} (hr : r = (xs, n)) (hm : m = xs.length) (hbase : w.heap.size ≤ base) (ho : OB w' base (.slice A m c) xs) (hb : Below w.heap.size w w') : BytesPost r w (.returned (.tuple #[.slice A m c, .int .i64 n])) w' := by
  subst hr hm
  exact ⟨A, c, rfl, ho.lower hbase, hb⟩
theorem RB.one {w : World} {v : Value} {xs : List UInt8} (h : RB w v xs) : v.oneCell' = true := by obtain ⟨A, c, rfl, _⟩ := h; rfl
set_option maxHeartbeats 1000000 in
theorem hop6_any (v : Value) (b : List UInt8) (w : World) (hx : RB w v b) (hl : b.length ≤ 70368744177664) :
    Calls Try.prog 20 #[v] w (BytesPost (hop6 b) w) := by
  have HP := hid (parse6_any v b w hx hl)
  have HX := hid hx
  have hlen := parse6_len b
  clear hx
  have hh : hop6 b = if (parse6 b).2 ≠ 0 then ([], (parse6 b).2) else if (parse6 b).1.hops.toNat < 2 then ([], 1) else (b.set 7 (UInt8.ofNat ((b.getD 7 0).toNat - 1)), 0) := rfl
  unfold ParPost at HP
  generalize parse6 b = r at HP hlen hh
  obtain ⟨p, n⟩ := r
  simp only at hlen hh
  have HH := hid hh
  have HL := hid hlen
  clear hh hlen
  have hph := p.hops.toNat_lt
  go_enter Try.func20, Try.ntmps20
  go_wp2_with fail
  refine Calls.mono HP.out ?_
  rintro e w1 ⟨dv, rfl, hr1, hb1⟩
  by_cases hn : n = 0
  · subst hn
    obtain ⟨h40, hhb⟩ := HL.out rfl
    have HHB := hid hhb
    clear hhb
    by_cases h2 : p.hops.toNat < 2
    · have HR : Hid (hop6 b = ([], 1)) := by rw [HH.out, if_neg (by simp), if_pos h2]; exact rfl
      have e2 : decide ((p.hops.toNat : Int) < 2) = true := by simp; omega
      clear h2
      go_wp2_with (first
        | ((with_reducible refine at_slot 4 ?_); refine wpList_allocF rfl 28 rfl (noPkt.cells nilS) alloc_noPkt ?_; intro w2 h2 hb2 s2)
        | ((with_reducible refine at_store 4 10 ?_); refine wpList_rowF rfl 28 (.tmp 4) (.tmp 10) rfl w1.heap.size 28 _ (p.cells dv) rfl rfl h2 (info_pkt _ _) rfl (Pkt.one _ _ hr1.one) ?_; intro w3 h3 m3 s3; obtain ⟨c0, c1, c2, c3, c4, c5, c6, c7, c8⟩ := pkt_cells h3; have hB3 := m3.below (hb1.trans (hb2.mono hb1.size)) (Nat.le_refl _) (by simp; exact hb1.size); clear c0 c1 c2 c4 c5 c6 c7 c8 h3 m3))
      go_ret2
      exact BytesPost.nil HR.out hB3
    · have HR : Hid (hop6 b = (b.set 7 (UInt8.ofNat ((b.getD 7 0).toNat - 1)), 0)) := by rw [HH.out, if_neg (by simp), if_neg h2]; exact rfl
      have e2 : decide ((p.hops.toNat : Int) < 2) = false := by simp; omega
      have hge : 2 ≤ p.hops.toNat := by omega
      clear h2
      go_wp2_with (first
        | ((with_reducible refine at_slot 4 ?_); refine wpList_allocF rfl 28 rfl (noPkt.cells nilS) alloc_noPkt ?_; intro w2 h2 hb2 s2)
        | ((with_reducible refine at_store 4 10 ?_); refine wpList_rowF rfl 28 (.tmp 4) (.tmp 10) rfl w1.heap.size 28 _ (p.cells dv) rfl rfl h2 (info_pkt _ _) rfl (Pkt.one _ _ hr1.one) ?_; intro w3 h3 m3 s3; obtain ⟨c0, c1, c2, c3, c4, c5, c6, c7, c8⟩ := pkt_cells h3; have hB3 := m3.below (hb1.trans (hb2.mono hb1.size)) (Nat.le_refl _) (by simp; exact hb1.size); clear c0 c1 c2 c4 c5 c6 c7 c8 h3 m3))
      with_reducible refine Calls.mono (clone_any v b w3 (HX.out.below hB3) hl) ?_
      rintro e w4 ⟨A4, c4, rfl, ho4, hb4⟩
      obtain ⟨g, rfl, hg1, hg2, _⟩ := ho4.blk (by omega)
      obtain ⟨k1, k2, k3⟩ := ho4.store 7 (by omega)
      rw [← HHB.out] at k1
      have k4 := k3 (UInt8.ofNat ((b.getD 7 0).toNat - 1)) ((p.hops.toNat : Int) - 1) (by rw [HHB.out] at hge ⊢; rw [UInt8.toNat_ofNat']; have := (b.getD 7 0).toNat_lt; omega)
      have hl7 : 7 < b.length := by omega
      have hB4 := below_after hB3 hb4 (Nat.le_refl _)
      have hbz := hB3.size
      have K4 := hid k4
      have HB4 := hid (hB4.setCell (p := ⟨g, 7, none⟩) (by show w.heap.size ≤ g; omega) (.int .u8 ((p.hops.toNat : Int) - 1)))
      clear k3 k4 ho4 hb4 hB4
      go_wp2_with fail
      go_ret2
      exact BytesPost.of HR.out (by rw [List.length_set]) hbz K4.out HB4.out
  · have HR : Hid (hop6 b = ([], n)) := by rw [HH.out, if_pos hn]; exact rfl
    have e1 : ((n : Int) != 0) = true := by simpa using hn
    clear hn
    go_wp2_with (first
        | ((with_reducible refine at_slot 4 ?_); refine wpList_allocF rfl 28 rfl (noPkt.cells nilS) alloc_noPkt ?_; intro w2 h2 hb2 s2)
        | ((with_reducible refine at_store 4 10 ?_); refine wpList_rowF rfl 28 (.tmp 4) (.tmp 10) rfl w1.heap.size 28 _ (p.cells dv) rfl rfl h2 (info_pkt _ _) rfl (Pkt.one _ _ hr1.one) ?_; intro w3 h3 m3 s3; obtain ⟨c0, c1, c2, c3, c4, c5, c6, c7, c8⟩ := pkt_cells h3; have hB3 := m3.below (hb1.trans (hb2.mono hb1.size)) (Nat.le_refl _) (by simp; exact hb1.size); clear c0 c1 c2 c4 c5 c6 c7 c8 h3 m3))
    go_ret2
    exact BytesPost.nil HR.out hB3
set_option maxHeartbeats 1000000 in
theorem rhop6_any (v : Value) (b : List UInt8) (w : World) (hx : RB w v b) (hl : b.length ≤ 70368744177664) :
    Calls Try.prog 21 #[v] w (BytesPost (hop6 b) w) := by
  have HP := hid (rparse6_any v b w hx hl)
  have HX := hid hx
  have hlen := parse6_len b
  clear hx
  have hh : hop6 b = if (parse6 b).2 ≠ 0 then ([], (parse6 b).2) else if (parse6 b).1.hops.toNat < 2 then ([], 1) else (b.set 7 (UInt8.ofNat ((b.getD 7 0).toNat - 1)), 0) := rfl
  unfold ParPost at HP
  generalize parse6 b = r at HP hlen hh
  obtain ⟨p, n⟩ := r
  simp only at hlen hh
  have HH := hid hh
  have HL := hid hlen
  clear hh hlen
  have hph := p.hops.toNat_lt
  go_enter Try.func21, Try.ntmps21
  go_wp2_with fail
  refine Calls.mono HP.out ?_
  rintro e w1 ⟨dv, rfl, hr1, hb1⟩
  by_cases hn : n = 0
  · subst hn
    obtain ⟨h40, hhb⟩ := HL.out rfl
    have HHB := hid hhb
    clear hhb
    by_cases h2 : p.hops.toNat < 2
    · have HR : Hid (hop6 b = ([], 1)) := by rw [HH.out, if_neg (by simp), if_pos h2]; exact rfl
      have e2 : decide ((p.hops.toNat : Int) < 2) = true := by simp; omega
      clear h2
      go_wp2_with (first
        | ((with_reducible refine at_slot 19 ?_); refine append_u8 (.const (.slice none 0 0)) (.tmp 18) w3.heap.size [] b b rfl rfl rfl rfl rfl (OB.nil _ _) (HX.out.below hB3) (by show 0 + b.length ≤ _; omega) (Nat.le_refl _) ?_; intro A4 c4 w4 ho4 hb4 _ _)
        | ((with_reducible refine at_slot 4 ?_); refine wpList_allocF rfl 28 rfl (noPkt.cells nilS) alloc_noPkt ?_; intro w2 h2 hb2 s2)
        | ((with_reducible refine at_store 4 10 ?_); refine wpList_rowF rfl 28 (.tmp 4) (.tmp 10) rfl w1.heap.size 28 _ (p.cells dv) rfl rfl h2 (info_pkt _ _) rfl (Pkt.one _ _ hr1.one) ?_; intro w3 h3 m3 s3; obtain ⟨c0, c1, c2, c3, c4, c5, c6, c7, c8⟩ := pkt_cells h3; have hB3 := m3.below (hb1.trans (hb2.mono hb1.size)) (Nat.le_refl _) (by simp; exact hb1.size); clear c0 c1 c2 c4 c5 c6 c7 c8 h3 m3))
      go_ret2
      exact BytesPost.nil HR.out hB3
    · have HR : Hid (hop6 b = (b.set 7 (UInt8.ofNat ((b.getD 7 0).toNat - 1)), 0)) := by rw [HH.out, if_neg (by simp), if_neg h2]; exact rfl
      have e2 : decide ((p.hops.toNat : Int) < 2) = false := by simp; omega
      have hge : 2 ≤ p.hops.toNat := by omega
      clear h2
      go_wp2_with (first
        | ((with_reducible refine at_slot 19 ?_); refine append_u8 (.const (.slice none 0 0)) (.tmp 18) w3.heap.size [] b b rfl rfl rfl rfl rfl (OB.nil _ _) (HX.out.below hB3) (by show 0 + b.length ≤ _; omega) (Nat.le_refl _) ?_; intro A4 c4 w4 ho4 hb4 _ _)
        | ((with_reducible refine at_slot 4 ?_); refine wpList_allocF rfl 28 rfl (noPkt.cells nilS) alloc_noPkt ?_; intro w2 h2 hb2 s2)
        | ((with_reducible refine at_store 4 10 ?_); refine wpList_rowF rfl 28 (.tmp 4) (.tmp 10) rfl w1.heap.size 28 _ (p.cells dv) rfl rfl h2 (info_pkt _ _) rfl (Pkt.one _ _ hr1.one) ?_; intro w3 h3 m3 s3; obtain ⟨c0, c1, c2, c3, c4, c5, c6, c7, c8⟩ := pkt_cells h3; have hB3 := m3.below (hb1.trans (hb2.mono hb1.size)) (Nat.le_refl _) (by simp; exact hb1.size); clear c0 c1 c2 c4 c5 c6 c7 c8 h3 m3))
      obtain ⟨g, rfl, hg1, hg2, _⟩ := ho4.blk (by omega)
      obtain ⟨k1, k2, k3⟩ := ho4.store 7 (by omega)
      rw [← HHB.out] at k1
      have k4 := k3 (UInt8.ofNat ((b.getD 7 0).toNat - 1)) ((p.hops.toNat : Int) - 1) (by rw [HHB.out] at hge ⊢; rw [UInt8.toNat_ofNat']; have := (b.getD 7 0).toNat_lt; omega)
      have hl7 : 7 < b.length := by omega
      have hB4 := below_after hB3 hb4 (Nat.le_refl _)
      have hbz := hB3.size
      have K4 := hid k4
      have HB4 := hid (hB4.setCell (p := ⟨g, 7, none⟩) (by show w.heap.size ≤ g; omega) (.int .u8 ((p.hops.toNat : Int) - 1)))
      clear k3 k4 ho4 hb4 hB4
      go_wp2_with fail
      go_ret2
      exact BytesPost.of HR.out (by rw [List.length_set]) hbz K4.out HB4.out
  · have HR : Hid (hop6 b = ([], n)) := by rw [HH.out, if_pos hn]; exact rfl
    have e1 : ((n : Int) != 0) = true := by simpa using hn
    clear hn
    go_wp2_with (first
        | ((with_reducible refine at_slot 4 ?_); refine wpList_allocF rfl 28 rfl (noPkt.cells nilS) alloc_noPkt ?_; intro w2 h2 hb2 s2)
        | ((with_reducible refine at_store 4 10 ?_); refine wpList_rowF rfl 28 (.tmp 4) (.tmp 10) rfl w1.heap.size 28 _ (p.cells dv) rfl rfl h2 (info_pkt _ _) rfl (Pkt.one _ _ hr1.one) ?_; intro w3 h3 m3 s3; obtain ⟨c0, c1, c2, c3, c4, c5, c6, c7, c8⟩ := pkt_cells h3; have hB3 := m3.below (hb1.trans (hb2.mono hb1.size)) (Nat.le_refl _) (by simp; exact hb1.size); clear c0 c1 c2 c4 c5 c6 c7 c8 h3 m3))
    go_ret2
    exact BytesPost.nil HR.out hB3
end Go.Proofs.Ytlijgcmcpehplaa
