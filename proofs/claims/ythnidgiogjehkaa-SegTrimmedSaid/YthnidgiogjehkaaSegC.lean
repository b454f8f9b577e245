/- What a parsed segment is made of. Walk: what bytes are parsed as. Walk: what answers a segment where no connection is. -/
import Derived.Test.YthnidgiogjehkaaSegB
import Derived.Test.YthnidgiogjehkaaSlc
namespace Go.Proofs.Ythnidgiogjehkaa
set_option linter.unusedVariables false
set_option linter.unusedSimpArgs false
set_option maxRecDepth 20000
open Go.RowKit

def SegM.at (s : SegM) (A : Option Addr) (c : Nat) (D : Option Addr) (dc : Nat) : SegM := { s with o := { s.o with A := A, c := c }, D := D, dc := dc }
def ParseGRes (B : Nat) (w : World) (a b : Adr) (xs : List UInt8) (e : Ending) (w' : World) : Prop :=
  ∃ A c D dc, e = .returned (.tuple #[.agg ((parseG a b xs).2.at A c D dc).cells, .int .i64 ((parseG a b xs).1 : Int)]) ∧ SegOk w' ((parseG a b xs).2.at A c D dc) ∧ Below B w w'
theorem noSegG_ok (w : World) : SegOk w noSegG := by
  refine ⟨by decide, by decide, by decide, by decide, by decide, by decide, by decide, ⟨by decide, by decide, by decide, by decide, by decide, by decide, by decide, ⟨rfl, Nat.le_refl _, by decide, fun k v h => by simp [bcs, noSegG, noOpt] at h⟩, fun b h => by simp [noSegG, noOpt] at h⟩, ?_⟩
  exact RB.nil w
theorem parseG_res {B er : Nat} {w w' : World} {a b : Adr} {xs : List UInt8} (h : parseG a b xs = (er, noSegG)) (hb : Below B w w') : ParseGRes B w a b xs (.returned (.tuple #[.agg noSegG.cells, .int .i64 (er : Int)])) w' := by
  unfold ParseGRes
  rw [h]
  exact ⟨none, 0, none, 0, rfl, noSegG_ok w', hb⟩
theorem parseG_yes {B : Nat} {w w' : World} {a b : Adr} {xs : List UInt8} {s m : SegM} {A D : Option Addr} {c dc : Nat} (h : parseG a b xs = (0, s)) (hm : s.at A c D dc = m) (ho : SegOk w' m) (hb : Below B w w') : ParseGRes B w a b xs (.returned (.tuple #[.agg m.cells, .int .i64 0])) w' := by
  unfold ParseGRes
  rw [h]
  exact ⟨A, c, D, dc, by rw [hm]; rfl, by rw [hm]; exact ho, hb⟩
theorem SegM.put_opt (s : SegM) (o : OptM) (hs : s.o.mac.length = 12) (ho : o.mac.length = 12) : s.cells.toList.take 7 ++ o.cells.toList ++ s.cells.toList.drop (7 + 24) = ({ s with o := o } : SegM).cells.toList := by
  have h1 : s.o.cells.toList.length = 24 := by rw [Array.length_toList]; exact s.o.size hs
  rw [SegM.cons s, SegM.cons { s with o := o }]
  simp only [List.take_succ_cons, List.take_zero, List.drop_succ_cons, Nat.reduceAdd, List.cons_append, List.nil_append]
  rw [List.drop_append, h1]
  simp [List.drop_of_length_le (Nat.le_of_eq h1)]
theorem SegM.set_data (s : SegM) (D : Option Addr) (dc : Nat) (xs : List UInt8) (n : Nat) (hn : xs.length = n) (hs : s.o.mac.length = 12) : s.cells.setIfInBounds 31 (.slice D n dc) = ({ s with D := D, dc := dc, data := xs } : SegM).cells := by
  subst hn
  have h1 : s.o.cells.toList.length = 24 := by rw [Array.length_toList]; exact s.o.size hs
  rw [SegM.cons, SegM.cons, List.setIfInBounds_toArray]
  simp only [List.set_cons_succ]
  simp [List.set_append, h1]
theorem mayO_addr (o : OptM) (A : Option Addr) (c : Nat) : mayO { o with A := A, c := c } = mayO o := by
  unfold mayO
  rw [keptO_eq, keptO_eq]
  rfl
theorem mayG_at (s : SegM) (A D : Option Addr) (c dc : Nat) : mayG (s.at A c D dc) = mayG s := by
  unfold mayG SegM.at
  rw [mayO_addr]
/-- b[l:h], in every world in which b can be read. -/
theorem cutG_lh {A : Option Addr} {c : Nat} {b : List UInt8} (hc : b.length ≤ c) (l h : Nat) (L H : Int) (hL : L = (l : Int)) (hH : H = (h : Int)) (h1 : l ≤ h) (h2 : h ≤ b.length) :
    ∃ B k, (∀ W, (Instr.slice 32 (.slice A b.length c) (some (.int .i64 L)) (some (.int .i64 H)) none).run Try.prog W = .ok (.slice B (h - l) k) W) ∧ (∀ W, RB W (.slice A b.length c) b → RB W (.slice B (h - l) k) ((b.drop l).take (h - l))) := by
  subst hL hH
  obtain ⟨i0, hi0, hz0, hz1, hz2⟩ := info_parts info_u8
  have h3 := slice_lh (P := Try.prog) 32 5 .i64 .i64 Try.underlying32 hi0 1 hz1 A b.length c (l : Int) (h : Int) (by omega) (by omega) (by omega)
  simp only [Int.toNat_natCast] at h3
  exact ⟨_, _, h3, fun W hw => hw.part l (h - l) (by omega)⟩
/-- b[l:]. -/
theorem cutG_l {A : Option Addr} {c : Nat} {b : List UInt8} (l : Nat) (L : Int) (hL : L = (l : Int)) (h1 : l ≤ b.length) :
    ∃ B k, (∀ W, (Instr.slice 32 (.slice A b.length c) (some (.int .i64 L)) none none).run Try.prog W = .ok (.slice B (b.length - l) k) W) ∧ (∀ W, RB W (.slice A b.length c) b → RB W (.slice B (b.length - l) k) (b.drop l)) := by
  subst hL
  obtain ⟨i0, hi0, hz0, hz1, hz2⟩ := info_parts info_u8
  have h3 := slice_from (P := Try.prog) 32 5 .i64 Try.underlying32 hi0 1 hz1 A b.length c l h1
  have h4 := fun W (hw : RB W (.slice A b.length c) b) => hw.part l (b.length - l) (by omega)
  simp only [List.take_of_length_le (show (b.drop l).length ≤ b.length - l by rw [List.length_drop]; omega)] at h4
  exact ⟨_, _, h3, h4⟩
theorem SegOk.mod {w w' : World} {s : SegM} {M : List Nat} {d1 d2 : Nat} (h : SegOk w s) (hm : Mod M w w') (i1 : InB s.o.A d1) (n1 : d1 ∉ M) (i2 : InB s.D d2) (n2 : d2 ∉ M) : SegOk w' s :=
  ⟨h.src, h.dst, h.seq, h.ack, h.flags, h.win, h.urg, ⟨h.o.mss, h.o.scale, h.o.val, h.o.echo, h.o.key, h.o.next, h.o.mac, h.o.row.mod hm i1 n1, h.o.ok⟩, h.data.mod hm i2 n2⟩
theorem segF_ok {w : World} (xs : List UInt8) (o : OptM) (D : Option Addr) (dc n : Nat) (ho : OptOk w o) (hd : RB w (.slice D (xs.drop n).length dc) (xs.drop n)) : SegOk w { fldG xs with o := o, D := D, dc := dc, data := xs.drop n } :=
  ⟨be_tk _ 2, be_tk _ 2, be_tk _ 4, be_tk _ 4, (by show (xs.getD 13 0).toNat % 64 < 256; omega), be_tk _ 2, be_tk _ 2, ho, hd⟩
end Go.Proofs.Ythnidgiogjehkaa
namespace Go.Proofs.Ythnidgiogjehkaa
set_option linter.unusedVariables false
set_option linter.unusedSimpArgs false
set_option maxRecDepth 20000
open Go.RowKit

theorem parseG_short {a b : Adr} {xs : List UInt8} (h : xs.length < 20) : parseG a b xs = (4, noSegG) := by unfold parseG; rw [if_pos h]
theorem parseG_form {a b : Adr} {xs : List UInt8} (h : ¬ xs.length < 20) (h1 : offG xs < 20) : parseG a b xs = (3, noSegG) := by unfold parseG; rw [if_neg h, if_pos h1]
theorem parseG_end {a b : Adr} {xs : List UInt8} (h : ¬ xs.length < 20) (h1 : ¬ offG xs < 20) (h2 : xs.length < offG xs) : parseG a b xs = (4, noSegG) := by unfold parseG; rw [if_neg h, if_neg h1, if_pos h2]
theorem parseG_sum {a b : Adr} {xs : List UInt8} (h : ¬ xs.length < 20) (h1 : ¬ offG xs < 20) (h2 : ¬ xs.length < offG xs) (h3 : (sumG a b xs == 65535) = false) : parseG a b xs = (8, noSegG) := by
  have h3' : sumG a b xs ≠ 65535 := by simpa using h3
  unfold parseG; rw [if_neg h, if_neg h1, if_neg h2, if_pos h3']
theorem parseG_good {a b : Adr} {xs : List UInt8} (h : ¬ xs.length < 20) (h1 : ¬ offG xs < 20) (h2 : ¬ xs.length < offG xs) (h3 : (sumG a b xs == 65535) = true) : parseG a b xs = if (optG xs).1 ≠ 0 then ((optG xs).1, noSegG) else if mayG (segF xs (optG xs).2 (offG xs)) then (0, segF xs (optG xs).2 (offG xs)) else (3, noSegG) := by
  have h3' : ¬ sumG a b xs ≠ 65535 := by simpa using h3
  unfold parseG; rw [if_neg h, if_neg h1, if_neg h2, if_neg h3']
set_option maxHeartbeats 8000000 in
theorem parseG_any (a b : Adr) (v : Value) (xs : List UInt8) (w : World) (hx : RB w v xs) (hl : xs.length ≤ 900000) :
    Calls Try.prog 21 #[.agg a.cells, .agg b.cells, v] w (ParseGRes w.heap.size w a b xs) := by
  obtain ⟨A0, c0, rfl, hrow⟩ := hx
  have HBR := hid (show RB w (.slice A0 xs.length c0) xs from ⟨A0, c0, rfl, hrow⟩)
  have hcap := hrow.cap
  have htop := hrow.top
  clear hrow
  have HAL := hid alloc_noSegG
  have HBN := hid build_noSegG
  have HIN := hid (info_segX noSegG rfl)
  have HON := hid (SegM.one noSegG)
  have HSN := hid (SegM.size noSegG rfl)
  have HNO := hid (fun (er : Nat) (W : World) (h : parseG a b xs = (er, noSegG)) (hb : Below w.heap.size w W) => parseG_res h hb)
  have HYES := hid (fun (s m : SegM) (A D : Option Addr) (c dc : Nat) (W : World) (h : parseG a b xs = (0, s)) (hm : s.at A c D dc = m) (ho : SegOk W m) (hb : Below w.heap.size w W) => parseG_yes h hm ho hb)
  have HGD := hid (fun W (h : Below w.heap.size w W) => good_any a b 6 (.slice A0 xs.length c0) xs W (HBR.out.below h) hl)
  have HOP := hid (fun v W (h : RB W v ((xs.drop 20).take (offG xs - 20))) => parse12I_any v ((xs.drop 20).take (offG xs - 20)) W h)
  have HPO := hid (parseO_ok ((xs.drop 20).take (offG xs - 20)))
  have HFI := hid (fun W (h : Below w.heap.size w W) (h20 : 20 ≤ xs.length) => fields_any (.slice A0 xs.length c0) xs W (HBR.out.below h) h20 (by omega))
  generalize hnc : noSegG.cells = nc at HAL HBN HIN HON HSN HNO
  have HNC := hid hnc
  obtain ⟨B, hB⟩ : ∃ B, w.heap.size = B := ⟨_, rfl⟩
  rw [hB] at HNO HYES HGD HFI ⊢
  have HB := hid hB
  clear hB hnc
  obtain ⟨t1, h1⟩ : ∃ t, decide (xs.length < 20) = t := ⟨_, rfl⟩
  have i1 : decide ((xs.length : Int) < 20) = t1 := by rw [← h1, decide_eq_decide]; omega
  go_enter Try.func21, Try.ntmps21
  go_upto_region 1 with (first
    | ((with_reducible refine at_slot 3 ?_); refine wpList_boxF rfl 24 (.tmp 0) rfl a.cells rfl ?_; intro w1 ha1 hb1 hz1; rw [HB.out] at ha1 hb1 hz1 ⊢)
    | ((with_reducible refine at_slot 4 ?_); refine wpList_boxF rfl 24 (.tmp 1) rfl b.cells rfl ?_; intro w2 ha2 hb2 hz2; rw [hz1] at ha2 hb2 hz2 ⊢)
    | ((with_reducible refine at_slot 6 ?_); refine wpList_allocF rfl 34 rfl _ HAL.out ?_; intro w3 hx3 hb3 hz3; rw [hz2] at hx3 hb3 hz3 ⊢; (have hA3 := (hb3.block B (by omega)).trans ((hb2.block B (by omega)).trans ha1)); (have hC3 := (hb3.block (B + 1) (by omega)).trans ha2); (have HB3 := hid (hb1.trans ((hb2.mono (by omega)).trans (hb3.mono (by omega))))); clear ha1 ha2 hb1 hb2 hb3 hz1 hz2))
  cases t1
  rotate_left 1
  · go_wp2_with (first
      | ((with_reducible refine at_build 34 ?_); refine wpList_buildF rfl 34 _ rfl #[] (by simp) _ HBN.out ?_)
      | ((with_reducible refine at_store 6 15 ?_); refine wpList_rowF rfl 34 (.tmp 6) (.tmp 15) rfl (B + 1 + 1) 34 _ nc rfl rfl hx3 HIN.out rfl HON.out ?_; intro wz hz mz sz))
    try simp only [Act.put, List.setIfInBounds_toArray, List.set_cons_zero, List.set_cons_succ]
    exact ret_cell_tmp (p := 6) (q := 7) rfl rfl rfl hz Try.underlying34 rfl HIN.out (HNO.out 4 _ (parseG_short (of_decide_eq_true h1)) (Mod.below HB3.out mz (Nat.le_of_eq HB.out.symm) (by simp; omega)))
  have hl20 : ¬ xs.length < 20 := of_decide_eq_false h1
  have HL20 := hid hl20
  clear h1
  obtain ⟨n, hn⟩ : ∃ n, offG xs = n := ⟨_, rfl⟩
  rw [hn] at HOP HPO
  have HN := hid hn
  obtain ⟨b12, hb12⟩ : ∃ x, xs.getD 12 0 = x := ⟨_, rfl⟩
  have hn2 : b12.toNat / 16 * 4 = n := by rw [← hn, ← hb12]; rfl
  have hbl : b12.toNat < 256 := b12.toNat_lt
  have r12 := by8_get xs 12 (by omega)
  rw [hb12] at r12
  obtain ⟨Aq, cq, eq, rq⟩ := HBR.out.below (by rw [HB.out]; exact HB3.out)
  injection eq with e1' e2' e3'
  subst e1' e3'
  obtain ⟨aq, rfl⟩ := rq.addr (by rw [by8_length]; omega)
  have r0 := rq.lit 12 _ (by omega) r12
  have i12 : (12 : Int) < (xs.length : Int) := by omega
  have k1 : (b12.toNat : Int) / 16 * 4 = (n : Int) := by omega
  have hn60 : n ≤ 60 := by omega
  clear rq r12 hb12 e2' hl20 hn hn2 hbl
  go_upto_region 4 with fail
  try simp only [k1]
  clear r0 k1
  obtain ⟨t2, h2⟩ : ∃ t, decide (n < 20) = t := ⟨_, rfl⟩
  have i2 : decide ((n : Int) < 20) = t2 := by rw [← h2, decide_eq_decide]; omega
  cases t2
  rotate_left 1
  · go_wp2_with (first
      | ((with_reducible refine at_build 34 ?_); refine wpList_buildF rfl 34 _ rfl #[] (by simp) _ HBN.out ?_)
      | ((with_reducible refine at_store 6 25 ?_); refine wpList_rowF rfl 34 (.tmp 6) (.tmp 25) rfl (B + 1 + 1) 34 _ nc rfl rfl hx3 HIN.out rfl HON.out ?_; intro wz hz mz sz))
    try simp only [Act.put, List.setIfInBounds_toArray, List.set_cons_zero, List.set_cons_succ]
    exact ret_cell_tmp (p := 6) (q := 7) rfl rfl rfl hz Try.underlying34 rfl HIN.out (HNO.out 3 _ (parseG_form HL20.out (by rw [HN.out]; exact of_decide_eq_true h2)) (Mod.below HB3.out mz (Nat.le_of_eq HB.out.symm) (by simp; omega)))
  have hn20 : ¬ n < 20 := of_decide_eq_false h2
  clear h2
  obtain ⟨t3, h3⟩ : ∃ t, decide (xs.length < n) = t := ⟨_, rfl⟩
  have i3 : decide ((xs.length : Int) < (n : Int)) = t3 := by rw [← h3, decide_eq_decide]; omega
  cases t3
  rotate_left 1
  · go_wp2_with (first
      | ((with_reducible refine at_build 34 ?_); refine wpList_buildF rfl 34 _ rfl #[] (by simp) _ HBN.out ?_)
      | ((with_reducible refine at_store 6 31 ?_); refine wpList_rowF rfl 34 (.tmp 6) (.tmp 31) rfl (B + 1 + 1) 34 _ nc rfl rfl hx3 HIN.out rfl HON.out ?_; intro wz hz mz sz))
    try simp only [Act.put, List.setIfInBounds_toArray, List.set_cons_zero, List.set_cons_succ]
    exact ret_cell_tmp (p := 6) (q := 7) rfl rfl rfl hz Try.underlying34 rfl HIN.out (HNO.out 4 _ (parseG_end HL20.out (by rw [HN.out]; exact hn20) (by rw [HN.out]; exact of_decide_eq_true h3)) (Mod.below HB3.out mz (Nat.le_of_eq HB.out.symm) (by simp; omega)))
  have hln : ¬ xs.length < n := of_decide_eq_false h3
  have HN20 := hid hn20
  have HLN := hid hln
  have HD4 := hid (HGD.out w3 HB3.out)
  obtain ⟨t4, h4⟩ : ∃ t, (sumG a b xs == 65535) = t := ⟨_, rfl⟩
  rw [show (foldS (wtot [pseudoS a b 6 xs.length, xs]) == 65535) = t4 from h4, show (((6 : UInt8).toNat : Nat) : Int) = 6 from rfl] at HD4
  have HX3 := hid hx3
  clear hn20 hln h3 hx3
  go_wp2_with (first
    | ((with_reducible refine at_slot 33 ?_); refine wpList_load_row rfl 24 (.tmp 3) rfl B rfl 24 a.cells (0, 0) _ hA3 Try.underlying24 rfl (info_addr a) ?_)
    | ((with_reducible refine at_slot 34 ?_); refine wpList_load_row rfl 24 (.tmp 4) rfl (B + 1) rfl 24 b.cells (0, 0) _ hC3 Try.underlying24 rfl (info_addr b) ?_))
  (with_reducible refine Calls.mono HD4.out ?_)
  rintro e w4 ⟨rfl, hb4⟩
  have hx4 := (hb4.block _ (by omega)).trans HX3.out
  have HB4 := hid (HB3.out.trans (hb4.mono (by omega)))
  have hz4 : B + 1 + 1 + 1 ≤ w4.heap.size := by have := hb4.size; omega
  clear hb4 HB3 HX3 HD4 hA3 hC3 i2 i3 hz3
  cases t4
  · go_wp2_with (first
      | ((with_reducible refine at_build 34 ?_); refine wpList_buildF rfl 34 _ rfl #[] (by simp) _ HBN.out ?_)
      | ((with_reducible refine at_store 6 38 ?_); refine wpList_rowF rfl 34 (.tmp 6) (.tmp 38) rfl (B + 1 + 1) 34 _ nc rfl rfl hx4 HIN.out rfl HON.out ?_; intro wz hz mz sz))
    try simp only [Act.put, List.setIfInBounds_toArray, List.set_cons_zero, List.set_cons_succ]
    exact ret_cell_tmp (p := 6) (q := 7) rfl rfl rfl hz Try.underlying34 rfl HIN.out (HNO.out 8 _ (parseG_sum HL20.out (by rw [HN.out]; exact HN20.out) (by rw [HN.out]; exact HLN.out) h4) (Mod.below HB4.out mz (Nat.le_of_eq HB.out.symm) (by simp; omega)))
  have HPG := hid (parseG_good (a := a) (b := b) HL20.out (by rw [HN.out]; exact HN20.out) (by rw [HN.out]; exact HLN.out) h4)
  have hn20 := HN20.out
  have hln := HLN.out
  obtain ⟨Bc, kc, hcut, hrc⟩ := cutG_lh (A := some aq) (c := c0) (b := xs) hcap 20 n 20 (n : Int) rfl rfl (by omega) (by omega)
  have HRC := hid hrc
  clear hrc h4
  go_wp2_with fail
  (with_reducible refine Calls.mono (HOP.out _ w4 (HRC.out _ (HBR.out.below (HB.out.symm ▸ HB4.out)))) ?_)
  rintro e w5 ⟨A5, c5, rfl, ho5, hb5, d5, hin5, hd5⟩
  unfold optG at HPG
  rw [HN.out] at HPG
  generalize parseO ((xs.drop 20).take (n - 20)) = po at HPO ho5 HPG ⊢
  obtain ⟨er, o0⟩ := po
  dsimp only at HPO ho5 HPG ⊢
  have hmac : o0.mac.length = 12 := HPO.out.mac
  have hsl4 : o0.sacks.length ≤ 4 := HPO.out.sl
  obtain ⟨q, hq⟩ : ∃ q : OptM, ({ o0 with A := A5, c := c5 } : OptM) = q := ⟨_, rfl⟩
  rw [hq] at ho5 ⊢
  have hqm : q.mac.length = 12 := by rw [← hq]; exact hmac
  have hqi : InB q.A d5 := by rw [← hq]; exact hin5
  have HQI := hid hqi
  have hqs : q.sacks.length ≤ 4 := by rw [← hq]; exact hsl4
  have HQ := hid hq
  have HQM := hid hqm
  have HIQ := hid (info_optsX q hqm)
  have HQO := hid q.one
  have HSQ := hid (show noOpt.cells.size = q.cells.size by rw [OptM.size q hqm]; rfl)
  have HNOA := hid alloc_noOpt
  have HOK5 := hid ho5
  have hx5 := (hb5.block _ (by omega)).trans hx4
  have HB5 := hid (HB4.out.trans (hb5.mono (by omega)))
  have hz5 : B + 1 + 1 + 1 ≤ w5.heap.size := Nat.le_trans hz4 hb5.size
  have hd5' : B + 1 + 1 + 1 ≤ d5 := by omega
  clear hq hqm hb5 hx4 hz4 HB4 ho5 hqi hin5 hd5 hmac hsl4 HRC hcut HOP HPO
  generalize noOpt.cells = oc0 at HSQ HNOA
  generalize hqc : q.cells = qc at *
  have HQC := hid hqc
  clear hqc
  go_upto_region 11 with (first
    | ((with_reducible refine at_slot 9 ?_); refine wpList_allocF rfl 31 rfl _ HNOA.out ?_; intro w6 h6 hb6 s6)
    | ((with_reducible refine at_store 9 44 ?_); refine wpList_rowF rfl 31 (.tmp 9) (.tmp 44) rfl w5.heap.size 31 _ qc rfl rfl h6 HIQ.out HSQ.out HQO.out ?_; intro w7 h7 m7 s7; (have hb7 : Below w5.heap.size w5 w7 := m7.below hb6 (Nat.le_refl _) (by simp)); clear m7 hb6 h6 s6))
  have hx7 := (hb7.block _ (by omega)).trans hx5
  have HOK7 := hid (HOK5.out.below hb7)
  have HB7 := hid (HB5.out.trans (hb7.mono (by omega)))
  obtain ⟨so, hso⟩ : ∃ x, w5.heap.size = x := ⟨_, rfl⟩
  have hz7 : so < w7.heap.size := by rw [← hso]; exact (Array.getElem?_eq_some_iff.1 h7).1
  simp only [hso] at h7 hz5 ⊢
  clear hso hb7 s7 hx5 HOK5 HB5 HNOA HSQ
  obtain ⟨t5, h5⟩ : ∃ t, decide (er ≠ 0) = t := ⟨_, rfl⟩
  have i5 : ((er : Int) == 0) = !t5 := by
    rw [← h5, Bool.eq_iff_iff]
    simp
  have i5' : ((er : Int) != 0) = t5 := by rw [← h5, Bool.eq_iff_iff]; simp
  cases t5
  rotate_left 1
  · go_wp2_with (first
      | ((with_reducible refine at_build 34 ?_); refine wpList_buildF rfl 34 _ rfl #[] (by simp) _ HBN.out ?_)
      | ((with_reducible refine at_store 6 48 ?_); refine wpList_rowF rfl 34 (.tmp 6) (.tmp 48) rfl (B + 1 + 1) 34 _ nc rfl rfl hx7 HIN.out rfl HON.out ?_; intro wz hz mz sz))
    try simp only [Act.put, List.setIfInBounds_toArray, List.set_cons_zero, List.set_cons_succ]
    exact ret_cell_tmp (p := 6) (q := 7) rfl rfl rfl hz Try.underlying34 rfl HIN.out (HNO.out er _ (by rw [HPG, if_pos (of_decide_eq_true h5)]) (Mod.below HB7.out mz (Nat.le_of_eq HB.out.symm) (by simp; omega)))
  have hz : er = 0 := by simpa using h5
  subst hz
  rw [if_neg (by simp)] at HPG
  have HFA := hid (SegM.size (fldG xs) rfl)
  have HFO := hid (SegM.one (fldG xs))
  have HFN := hid (fldG_info xs)
  have HNA := hid alloc_noSegG
  have HSN2 := hid (show noSegG.cells.size = (fldG xs).cells.size by rw [SegM.size noSegG rfl, HFA.out])
  have h20 : 20 ≤ xs.length := by have := HL20.out; omega
  generalize hfc : (fldG xs).cells = fc at HFA HFO HFN HSN2 HFI
  have HFC := hid hfc
  generalize noSegG.cells = nc2 at HNA HSN2
  clear hfc i5 h5
  go_wp2_with fail
  (with_reducible refine Calls.mono (HFI.out _ HB7.out h20) ?_)
  rintro e w8 ⟨rfl, hb8⟩
  have h8 := (hb8.block _ hz7).trans h7
  have hx8 := (hb8.block _ (by omega)).trans hx7
  have HOK8 := hid (HOK7.out.below hb8)
  have HB8 := hid (HB7.out.trans (hb8.mono (by omega)))
  have hz8 : so < w8.heap.size := Nat.lt_of_lt_of_le hz7 hb8.size
  clear hb8 h7 hx7 HOK7 HB7 hz7 HFI
  go_upto_region 14 with (first
    | ((with_reducible refine at_slot 11 ?_); refine wpList_allocF rfl 34 rfl _ HNA.out ?_; intro w9 h9 hb9 s9)
    | ((with_reducible refine at_store 11 51 ?_); refine wpList_rowF rfl 34 (.tmp 11) (.tmp 51) rfl w8.heap.size 34 _ fc rfl rfl h9 HFN.out HSN2.out HFO.out ?_; intro w10 h10 m10 s10; (have hb10 : Below w8.heap.size w8 w10 := m10.below hb9 (Nat.le_refl _) (by simp)); clear m10 hb9 h9 s9))
  have hq10 := (hb10.block _ hz8).trans h8
  have hx10 := (hb10.block _ (by omega)).trans hx8
  have HB10 := hid (HB8.out.trans (hb10.mono (by omega)))
  obtain ⟨sg, hsg⟩ : ∃ x, w8.heap.size = x := ⟨_, rfl⟩
  have hzs : sg < w10.heap.size := by rw [← hsg]; exact (Array.getElem?_eq_some_iff.1 h10).1
  have hsos : so < sg := by omega
  have HG10 := hid (show Below sg w8 w10 by rw [← hsg]; exact hb10)
  simp only [hsg] at h10 ⊢
  have HSG := hid hsg
  have HOQ := hid (fun (W : World) (h : Below sg w8 W) => HOK8.out.below (hsg.symm ▸ h))
  clear hsg hb10 h8 hx8 HOK8 HB8 hz8 s10 HNA HSN2
  obtain ⟨Bd, kd, hcut, hrc⟩ := cutG_l (A := some aq) (c := c0) (b := xs) n (n : Int) rfl (by have := HLN.out; omega)
  have HRC := hid hrc
  have hdl : (xs.drop n).length = xs.length - n := List.length_drop
  have HDL := hid hdl
  clear hrc hdl
  simp only [Act.put, List.setIfInBounds_toArray, List.set_cons_zero, List.set_cons_succ]
  refine wp_region_hand (fun W => W.heap[so]? = some (.cells qc 31 (0, 0))) (by kernel_rfl) hq10 ?_
  intro hS
  have HBu := hid (below_drewN HB10.out 1)
  have h10u : (w10.drewN 1).heap[sg]? = some (.cells fc 34 (0, 0)) := h10
  have hx10u : (w10.drewN 1).heap[B + 1 + 1]? = some (.cells nc 34 (0, 0)) := hx10
  have HGu := hid (below_drewN HG10.out 1)
  have hzu : sg < (w10.drewN 1).heap.size := hzs
  change (w10.drewN 1).heap[so]? = _ at hS
  change wpAnyH _ _ _ _ _ _ _ _ (w10.drewN 1)
  generalize w10.drewN 1 = u at HBu h10u hx10u HGu hzu hS ⊢
  clear h10 hx10 HG10 HB10 hzs hq10
  refine wpAnyH_take (i := 0) (oi := ⟨some 52, _, _, _, _, _⟩) rfl (by kernel_rfl) (by kernel_rfl) (by kernel_rfl) (fun _ _ _ h => h) (yields_row 31 (.tmp 9) rfl (by rfl) ⟨so, 0, none⟩ rfl qc _ (fun W' hS' => cells_part hS' (o := 0) (fun j u h => by rw [Nat.zero_add]; exact h)) Try.underlying31 rfl HIQ.out) hS ?_
  try simp only [Act.put, List.setIfInBounds_toArray, List.set_cons_zero, List.set_cons_succ]
  refine wpAnyH_take (i := 1) (oi := ⟨some 53, _, _, _, _, _⟩) (v := ?_) rfl (by kernel_rfl) (by kernel_rfl) (by kernel_rfl) (fun _ _ _ h => h) (Or.inl ⟨by rfl, ?_⟩) hS ?_
  rotate_left 1
  focus ((intro W' hS'; go_simp) <;> with_reducible rfl)
  try simp only [Act.put, List.setIfInBounds_toArray, List.set_cons_zero, List.set_cons_succ]
  refine wpAnyH_take (i := 2) (oi := ⟨some 54, _, _, _, _, _⟩) (v := ?_) rfl (by kernel_rfl) (by kernel_rfl) (by kernel_rfl) (fun _ _ _ h => h) (Or.inl ⟨by rfl, ?_⟩) hS ?_
  rotate_left 1
  focus ((intro W' hS'; go_simp) <;> with_reducible rfl)
  try simp only [Act.put, List.setIfInBounds_toArray, List.set_cons_zero, List.set_cons_succ]
  refine wpAnyH_take (i := 3) (oi := ⟨some 55, _, _, _, _, _⟩) (v := ?_) rfl (by kernel_rfl) (by kernel_rfl) (by kernel_rfl) (fun _ _ _ h => h) (Or.inl ⟨by rfl, ?_⟩) hS ?_
  rotate_left 1
  focus ((intro W' hS'; go_simp) <;> with_reducible rfl)
  try simp only [Act.put, List.setIfInBounds_toArray, List.set_cons_zero, List.set_cons_succ]
  refine wpAnyH_take (i := 5) (oi := ⟨some 57, _, _, _, _, _⟩) (v := ?_) rfl (by kernel_rfl) (by kernel_rfl) (by kernel_rfl) (fun _ _ _ h => h) (Or.inl ⟨by rfl, ?_⟩) hS ?_
  rotate_left 1
  focus ((intro W' hS'; go_simp) <;> with_reducible rfl)
  try simp only [Act.put, List.setIfInBounds_toArray, List.set_cons_zero, List.set_cons_succ]
  refine anyH_one (i := 4) (by kernel_rfl) ⟨some 56, _, _, _, _, _⟩ rfl (by rfl) ?_
  go_simp
  with_reducible refine Calls.mono (clone_any _ (xs.drop n) _ (HRC.out _ (HBR.out.below (HB.out.symm ▸ HBu.out))) (by rw [HDL.out]; omega)) ?_
  rintro e u2 ⟨A9, c9, rfl, ho9, hb9⟩
  have HD9 := hid ho9.rb
  have h102 := (hb9.block _ hzu).trans h10u
  have hx102 := (hb9.block _ (by omega)).trans hx10u
  have hS2 := (hb9.block _ (by omega)).trans hS
  have HG2 := hid (HGu.out.trans (hb9.mono (by omega)))
  have HB2 := hid (HBu.out.trans (hb9.mono (by omega)))
  have hz2 : sg < u2.heap.size := Nat.lt_of_lt_of_le hzu hb9.size
  have HOB9 := hid ho9
  have HSZ9 := hid hb9.size
  clear ho9 hb9 h10u hx10u HGu HBu hS
  have hS := hS2
  clear hS2
  refine ⟨hS, ?_⟩
  try simp only [Act.put, List.setIfInBounds_toArray, List.set_cons_zero, List.set_cons_succ]
  refine anyH_one (i := 6) (by kernel_rfl) ⟨none, _, _, _, _, _⟩ rfl (by rfl) ?_
  refine wp_partF 31 (.tmp 57) (.tmp 52) rfl sg 7 34 fc ({ fldG xs with o := q } : SegM).cells qc.toList rfl (by rfl) h102 (by rw [HFA.out, Array.length_toList, ← HQC.out, OptM.size q HQM.out]; decide) (fun x hx => by have := HQO.out; rw [Array.all_eq_true_iff_forall_mem] at this; exact this x (by simpa using hx)) (by rw [Array.length_toList]; exact HIQ.out) (by rw [← HFC.out, ← HQC.out, Array.length_toList, OptM.size q HQM.out]; exact SegM.put_opt _ q rfl HQM.out) ?_
  intro u3 h103 m3 s3
  have hx103 := m3.keeps hx102 (by simp; omega)
  have hS3 := m3.keeps hS (by simp; omega)
  have HG3 := hid (Mod.below HG2.out m3 (Nat.le_of_eq HSG.out.symm) (by simp))
  have HB3' := hid (Mod.below HB2.out m3 (Nat.le_of_eq HB.out.symm) (by simp; omega))
  obtain ⟨dd, hin, hdd, _, _⟩ := HOB9.out.inb' HSZ9.out
  have HD3 := hid (HD9.out.mod m3 hin (by simp; omega))
  have HIN9 := hid hin
  clear hin m3 h102 hx102 HG2 HB2 HD9 HOB9 hS
  have hS := hS3
  clear hS3
  refine ⟨hS, ?_⟩
  try simp only [Act.put, List.setIfInBounds_toArray, List.set_cons_zero, List.set_cons_succ]
  refine wpAnyH_take (i := 7) (oi := ⟨some 58, _, _, _, _, _⟩) (v := ?_) rfl (by kernel_rfl) (by kernel_rfl) (by kernel_rfl) (fun _ _ _ h => h) (Or.inl ⟨by rfl, ?_⟩) hS ?_
  rotate_left 1
  focus ((intro W' hS'; go_simp) <;> with_reducible rfl)
  try simp only [Act.put, List.setIfInBounds_toArray, List.set_cons_zero, List.set_cons_succ]
  refine anyH_one (i := 8) (by kernel_rfl) ⟨none, _, _, _, _, _⟩ rfl (by rfl) ?_
  obtain ⟨_, _, _, _, _, _, _, oc⟩ := seg_cells h103 HQM.out
  have zf := frozRow h103 31
  go_simp
  have h11 := rowSetCell h103 31 (.slice A9 (xs.length - n) c9)
  rw [SegM.set_data _ A9 c9 (xs.drop n) _ HDL.out HQM.out] at h11
  have m4 : Mod [sg] u3 (u3.setCell ⟨sg, 31, none⟩ (.slice A9 (xs.length - n) c9)) := Mod.setCell sg 31 _ (by simp)
  have hx11 := m4.keeps hx103 (by simp; omega)
  have hS4 := m4.keeps hS (by simp; omega)
  have HG4 := hid (Mod.below HG3.out m4 (Nat.le_of_eq HSG.out.symm) (by simp))
  have HB4' := hid (Mod.below HB3'.out m4 (Nat.le_of_eq HB.out.symm) (by simp; omega))
  have HD4 := hid (HD3.out.mod m4 HIN9.out (by simp; omega))
  clear oc zf h103 hx103 HG3 HB3' HD3 hS m4
  have hS := hS4
  clear hS4
  refine ⟨hS, ?_⟩
  try simp only [Act.put, List.setIfInBounds_toArray, List.set_cons_zero, List.set_cons_succ]
  refine wpAnyH_done (by kernel_rfl) ?_ _
  generalize u3.setCell _ _ = u4 at h11 hx11 HG4 HB4' HD4 hS ⊢
  have hok := segF_ok xs q A9 c9 n (HOQ.out u4 HG4.out) HD4.out
  have hmat : (segF xs o0 n).at A5 c5 A9 c9 = { fldG xs with o := q, D := A9, dc := c9, data := xs.drop n } := by rw [← HQ.out]; rfl
  have hmm := mayG_at (segF xs o0 n) A5 A9 c5 c9
  rw [hmat] at hmm
  have h11' : u4.heap[sg]? = some (.cells ({ fldG xs with o := q, D := A9, dc := c9, data := xs.drop n } : SegM).cells 34 (0, 0)) := h11
  have hsk : ({ fldG xs with o := q, D := A9, dc := c9, data := xs.drop n } : SegM).o.sacks.length ≤ 1000 := by show q.sacks.length ≤ 1000; omega
  have i1 : InB ({ fldG xs with o := q, D := A9, dc := c9, data := xs.drop n } : SegM).o.A d5 := HQI.out
  have i2 : InB ({ fldG xs with o := q, D := A9, dc := c9, data := xs.drop n } : SegM).D dd := HIN9.out
  have hmacm : ({ fldG xs with o := q, D := A9, dc := c9, data := xs.drop n } : SegM).o.mac.length = 12 := HQM.out
  clear h11 HOQ HG4 HD4 hS
  generalize ({ fldG xs with o := q, D := A9, dc := c9, data := xs.drop n } : SegM) = m at hok hmat hmm h11' hsk hmacm i1 i2
  have HMY := hid (mayG_any m u4 hok hsk)
  rw [hmm] at HMY
  have HIM := hid (info_segX m hmacm)
  have HOM := hid (SegM.one m)
  have HOKM := hid hok
  have I1 := hid i1
  have I2 := hid i2
  clear i1 i2
  have HMAT := hid hmat
  have HSM := hid (show nc.size = m.cells.size by rw [HSN.out, SegM.size m hmacm])
  clear hok hmat hmm hsk
  have HYM := hid (fun (W : World) (h : mayG (segF xs o0 n) = true) (ho : SegOk W m) (hb : Below B w W) => HYES.out (segF xs o0 n) m A5 A9 c5 c9 W (by rw [HPG, if_pos h]) HMAT.out ho hb)
  have HNM := hid (fun (W : World) (h : mayG (segF xs o0 n) = false) (hb : Below B w W) => HNO.out 3 W (by rw [HPG, if_neg (by rw [h]; simp)]) hb)
  have HMC := hid (fun (W : World) (hm : Mod [B + 1 + 1] u4 W) => show True from trivial)
  generalize ht6 : mayG (segF xs o0 n) = t6 at HMY HYM HNM
  obtain ⟨mc, hmc⟩ : ∃ x, m.cells = x := ⟨_, rfl⟩
  rw [hmc] at h11' HMY HIM HOM HSM
  go_wp2_with (first
    | ((with_reducible refine at_slot 59 ?_); refine wpList_load_row rfl 34 (.tmp 11) rfl sg rfl _ mc _ _ h11' Try.underlying34 rfl HIM.out ?_))
  (with_reducible refine Calls.mono HMY.out ?_)
  rintro e u5 ⟨rfl, hb5⟩
  have hx12 := (hb5.block _ (by have := (Array.getElem?_eq_some_iff.1 hx11).1; exact this)).trans hx11
  have h12 := (hb5.block _ (Array.getElem?_eq_some_iff.1 h11').1).trans h11'
  have HB5' := hid (HB4'.out.trans (hb5.mono (by have := (Array.getElem?_eq_some_iff.1 hx11).1; omega)))
  have HOK5 := hid (HOKM.out.below hb5)
  clear hb5 hx11 h11' HMY HB4'
  cases t6
  · go_wp2_with (first
      | ((with_reducible refine at_build 34 ?_); refine wpList_buildF rfl 34 _ rfl #[] (by simp) _ HBN.out ?_)
      | ((with_reducible refine at_store 6 62 ?_); refine wpList_rowF rfl 34 (.tmp 6) (.tmp 62) rfl (B + 1 + 1) 34 _ nc rfl rfl hx12 HIN.out rfl HON.out ?_; intro wz hz mz sz))
    try simp only [Act.put, List.setIfInBounds_toArray, List.set_cons_zero, List.set_cons_succ]
    exact ret_cell_tmp (p := 6) (q := 7) rfl rfl rfl hz Try.underlying34 rfl HIN.out (HNM.out _ (by trivial) (Mod.below HB5'.out mz (Nat.le_of_eq HB.out.symm) (by simp; omega)))
  · go_wp2_with (first
      | ((with_reducible refine at_slot 63 ?_); refine wpList_load_row rfl 34 (.tmp 11) rfl sg rfl _ mc _ _ h12 Try.underlying34 rfl HIM.out ?_)
      | ((with_reducible refine at_store 6 63 ?_); refine wpList_rowF rfl 34 (.tmp 6) (.tmp 63) rfl (B + 1 + 1) 34 _ mc rfl rfl hx12 HIM.out HSM.out HOM.out ?_; intro wz hz mz sz))
    try simp only [Act.put, List.setIfInBounds_toArray, List.set_cons_zero, List.set_cons_succ]
    refine ret_cell_tmp (p := 6) (q := 7) rfl rfl rfl hz Try.underlying34 rfl HIM.out ?_
    rw [← hmc]
    exact HYM.out wz (by trivial) (HOK5.out.mod mz I1.out (by simp; omega) I2.out (by simp; omega)) (Mod.below HB5'.out mz (Nat.le_of_eq HB.out.symm) (by simp; omega))
end Go.Proofs.Ythnidgiogjehkaa
namespace Go.Proofs.Ythnidgiogjehkaa
set_option linter.unusedVariables false
set_option linter.unusedSimpArgs false
set_option maxRecDepth 20000
open Go.RowKit

def rst0 (s : SegM) : SegM := ⟨s.dst, s.src, 0, 0, 4, 0, 0, noOpt, none, 0, []⟩
def resetG (s : SegM) : SegM × Bool :=
  if hasG s.flags 4 then (noSegG, false) else if hasG s.flags 16 then (⟨s.dst, s.src, s.ack, 0, 4, 0, 0, noOpt, none, 0, []⟩, true)
  else (⟨s.dst, s.src, 0, (s.seq + lenG s) % 4294967296, 20, 0, 0, noOpt, none, 0, []⟩, true)
theorem build_rst0 (x y : Nat) : ∀ w, (Instr.build 34 #[(0, .int .u16 (x : Int)), (1, .int .u16 (y : Int)), (4, .int .u8 4)]).run Try.prog w = .ok (.agg (⟨x, y, 0, 0, 4, 0, 0, noOpt, none, 0, []⟩ : SegM).cells) w := by intro w; kernel_rfl
theorem or_16 : bits .or .u8 4 16 = 20 := by decide +kernel
set_option maxHeartbeats 8000000 in
theorem resetG_any (s : SegM) (w : World) (hs : SegOk w s) (hl : s.data.length ≤ 1000000) :
    Calls Try.prog 23 #[.agg s.cells] w fun e w' => e = .returned (.tuple #[.agg (resetG s).1.cells, .bool (resetG s).2]) ∧ Below w.heap.size w w' := by
  have HH4 : Hid (∀ W, Calls Try.prog 19 #[.agg s.cells, .int .u8 4] W fun e w' => e = .returned (.bool (hasG s.flags 4)) ∧ Below W.heap.size W w') := hid (fun W => hasG_any s 4 W hs.flags hs.o.mac (by decide))
  have HH16 : Hid (∀ W, Calls Try.prog 19 #[.agg s.cells, .int .u8 16] W fun e w' => e = .returned (.bool (hasG s.flags 16)) ∧ Below W.heap.size W w') := hid (fun W => hasG_any s 16 W hs.flags hs.o.mac (by decide))
  have HLN := hid (fun W => lenG_any s W hs.flags hs.o.mac hl)
  have HC := hid (fun (W : World) (g : Nat) (h : W.heap[g]? = some (.cells s.cells 34 (0, 0))) => seg_cells h hs.o.mac)
  have HIS := hid (info_segX s hs.o.mac)
  have HAL := hid alloc_noSegG
  have HBN := hid build_noSegG
  have HIN := hid (info_segX noSegG rfl)
  have HON := hid (SegM.one noSegG)
  have HMAC : Hid (noOpt.mac.length = 12) := hid rfl
  have HBR := hid (build_rst0 s.dst s.src)
  have HSR := hid (fun (m : SegM) (h : m.o = noOpt) => (show noSegG.cells.size = m.cells.size by rw [SegM.size noSegG rfl, SegM.size m (by rw [h]; rfl)]))
  have HIR := hid (fun (m : SegM) (h : m.o = noOpt) => info_segX m (by rw [h]; rfl))
  obtain ⟨rr, hrr⟩ : ∃ x, resetG s = x := ⟨_, rfl⟩
  have HRG := hid hrr.symm
  rw [hrr]
  unfold resetG at HRG
  clear hrr
  have hlen : lenG s ≤ 1000002 := by unfold lenG bitN; split <;> split <;> omega
  generalize hcs : s.cells = cs at HH4 HH16 HLN HC HIS ⊢
  generalize hnc : noSegG.cells = nc at HAL HBN HIN HON HSR
  have HNC := hid hnc
  obtain ⟨B, hB⟩ : ∃ B, w.heap.size = B := ⟨_, rfl⟩
  rw [hB]
  have HB := hid hB
  have hseq := hs.seq
  clear hB hcs hs hnc
  obtain ⟨t4, h4⟩ : ∃ t, hasG s.flags 4 = t := ⟨_, rfl⟩
  obtain ⟨t16, h16⟩ : ∃ t, hasG s.flags 16 = t := ⟨_, rfl⟩
  rw [h4] at HH4 HRG
  rw [h16] at HH16 HRG
  clear h4 h16
  go_enter Try.func23, Try.ntmps23
  go_upto_region 1 with (first
    | ((with_reducible refine at_slot 1 ?_); refine wpList_boxF rfl 34 (.tmp 0) rfl cs rfl ?_; intro w1 hx1 hb1 hz1; rw [HB.out] at hx1 hb1 hz1 ⊢)
    | ((with_reducible refine at_slot 2 ?_); refine wpList_allocF rfl 34 rfl _ HAL.out ?_; intro w2 hx2 hb2 hz2; rw [hz1] at hx2 hb2 hz2 ⊢; (have hs2 := (hb2.block B (by omega)).trans hx1); (have HB2 := hid (hb1.trans (hb2.mono (by omega)))); clear hx1 hb1 hz1))
  obtain ⟨c0, c1, _⟩ := HC.out _ _ hs2
  go_upto_region 4 with (first
    | ((with_reducible refine at_build 34 ?_); refine wpList_buildF rfl 34 _ rfl #[(0, .int .u16 (s.dst : Int)), (1, .int .u16 (s.src : Int)), (4, .int .u8 4)] (by simp [Act.eval, Act.put]) _ HBR.out ?_)
    | ((with_reducible refine at_slot 4 ?_); refine wpList_allocF rfl 34 rfl _ HAL.out ?_; intro w3 hx3 hb3 hz3; rw [hz2] at hx3 hb3 hz3 ⊢)
    | ((with_reducible refine at_store 4 9 ?_); refine wpList_rowF rfl 34 (.tmp 4) (.tmp 9) rfl (B + 1 + 1) 34 _ _ rfl rfl hx3 (HIR.out _ rfl) (HSR.out _ rfl) (SegM.one _) ?_; intro w4 h4 m4 z4))
  have hs4 := m4.keeps ((hb3.block _ (by omega)).trans hs2) (by simp; omega)
  have hx4 := m4.keeps ((hb3.block _ (by omega)).trans hx2) (by simp)
  have HB4 := hid (Mod.below (HB2.out.trans (hb3.mono (by omega))) m4 (Nat.le_of_eq HB.out.symm) (by simp; omega))
  have hz4 : B + 1 + 1 + 1 ≤ w4.heap.size := by omega
  clear hs2 hx2 hb2 hb3 hx3 m4 c0 c1 HB2
  simp only [Act.put, List.setIfInBounds_toArray, List.set_cons_zero, List.set_cons_succ]
  go_wp2_with (first
    | ((with_reducible refine at_slot 21 ?_); refine wpList_load_row rfl 34 (.tmp 1) rfl B rfl _ cs _ _ hs4 Try.underlying34 rfl HIS.out ?_))
  (with_reducible refine Calls.mono (HH4.out _) ?_)
  rintro e w5 ⟨rfl, hb5⟩
  have hs5 := (hb5.block _ (by omega)).trans hs4
  have hx5 := (hb5.block _ (by omega)).trans hx4
  have hr5 := (hb5.block _ (by omega)).trans h4
  have HB5 := hid (HB4.out.trans (hb5.mono (by omega)))
  have hz5 : B + 1 + 1 + 1 ≤ w5.heap.size := Nat.le_trans hz4 hb5.size
  clear hb5 hs4 hx4 h4 HB4 hz4
  cases t4
  rotate_left 1
  · go_wp2_with (first
      | ((with_reducible refine at_build 34 ?_); refine wpList_buildF rfl 34 _ rfl #[] (by simp) _ HBN.out ?_)
      | ((with_reducible refine at_store 2 23 ?_); refine wpList_rowF rfl 34 (.tmp 2) (.tmp 23) rfl (B + 1) 34 _ nc rfl rfl hx5 HIN.out rfl HON.out ?_; intro wz hz mz sz))
    try simp only [Act.put, List.setIfInBounds_toArray, List.set_cons_zero, List.set_cons_succ]
    refine ret_cell_tmp (p := 2) (q := 3) rfl rfl rfl hz Try.underlying34 rfl HIN.out ⟨?_, Mod.below HB5.out mz (Nat.le_of_eq HB.out.symm) (by simp)⟩
    rw [HRG.out, ← HNC.out]
    rfl
  go_wp2_with (first
    | ((with_reducible refine at_slot 25 ?_); refine wpList_load_row rfl 34 (.tmp 1) rfl B rfl _ cs _ _ hs5 Try.underlying34 rfl HIS.out ?_))
  (with_reducible refine Calls.mono (HH16.out _) ?_)
  rintro e w6 ⟨rfl, hb6⟩
  have hs6 := (hb6.block _ (by omega)).trans hs5
  have hx6 := (hb6.block _ (by omega)).trans hx5
  have hr6 := (hb6.block _ (by omega)).trans hr5
  have HB6 := hid (HB5.out.trans (hb6.mono (by omega)))
  have hz6 : B + 1 + 1 + 1 ≤ w6.heap.size := Nat.le_trans hz5 hb6.size
  clear hb6 hs5 hx5 hr5 HB5 hz5
  obtain ⟨c0, c1, c2, c3, _⟩ := HC.out _ _ hs6
  obtain ⟨_, _, r2, r3, r4, _⟩ := seg_cells hr6 HMAC.out
  cases t16
  rotate_left 1
  · have zf := frozRow hr6 2
    go_upto_region 8 with fail
    have hr7 := rowSetCell hr6 2 (.int .u32 (s.ack : Int))
    rw [SegM.set_seq] at hr7
    have m7 : Mod [B + 1 + 1] w6 (w6.setCell ⟨B + 1 + 1, 2, none⟩ (.int .u32 (s.ack : Int))) := Mod.setCell _ _ _ (by simp)
    have hx7 := m7.keeps hx6 (by simp)
    have HB7 := hid (Mod.below HB6.out m7 (Nat.le_of_eq HB.out.symm) (by simp; omega))
    clear m7 zf hs6 c0 c1 c2 c3 r2 r3 r4
    generalize w6.setCell _ _ = w7 at hr7 hx7 HB7 ⊢
    go_wp2_with (first
      | ((with_reducible refine at_slot 30 ?_); refine wpList_load_row rfl 34 (.tmp 4) rfl (B + 1 + 1) rfl _ _ _ _ hr7 Try.underlying34 rfl (HIR.out _ rfl) ?_)
      | ((with_reducible refine at_store 2 30 ?_); refine wpList_rowF rfl 34 (.tmp 2) (.tmp 30) rfl (B + 1) 34 _ _ rfl rfl hx7 (HIR.out _ rfl) (HSR.out _ rfl) (SegM.one _) ?_; intro wz hz mz sz))
    try simp only [Act.put, List.setIfInBounds_toArray, List.set_cons_zero, List.set_cons_succ]
    refine ret_cell_tmp (p := 2) (q := 3) rfl rfl rfl hz Try.underlying34 rfl (HIR.out _ rfl) ⟨?_, Mod.below HB7.out mz (Nat.le_of_eq HB.out.symm) (by simp)⟩
    rw [HRG.out]
    rfl
  · have zf := frozRow hr6 4
    have ho16 := or_16
    go_upto_region 3 with fail
    have hr7 := rowSetCell hr6 4 (.int .u8 ((20 : Nat) : Int))
    rw [SegM.set_flags] at hr7
    have m7 : Mod [B + 1 + 1] w6 (w6.setCell ⟨B + 1 + 1, 4, none⟩ (.int .u8 ((20 : Nat) : Int))) := Mod.setCell _ _ _ (by simp)
    have hx7 := m7.keeps hx6 (by simp)
    have hs7 := m7.keeps hs6 (by simp; omega)
    have HB7 := hid (Mod.below HB6.out m7 (Nat.le_of_eq HB.out.symm) (by simp; omega))
    have hz7 : B + 1 + 1 + 1 ≤ (w6.setCell ⟨B + 1 + 1, 4, none⟩ (.int .u8 ((20 : Nat) : Int))).heap.size := by rw [size_setCell]; exact hz6
    clear m7 zf hs6 c0 c1 c2 c3 r2 r3 r4 hr6 hx6 HB6 ho16
    change Code.wp _ _ _ _ (w6.setCell ⟨B + 1 + 1, 4, none⟩ (.int .u8 ((20 : Nat) : Int)))
    generalize w6.setCell _ _ = w7 at hr7 hx7 HB7 hs7 hz7 ⊢
    obtain ⟨sq, hsq⟩ : ∃ x, (s.seq + lenG s) % 4294967296 = x := ⟨_, rfl⟩
    have v1 : IntKind.u32.wrap ((s.seq : Int) + ((lenG s : Nat) : Int)) = (sq : Int) := by rw [IntKind.wrap_u32]; omega
    rw [hsq] at HRG
    generalize lenG s = ln at HLN v1
    clear hsq
    refine wp_region_hand (fun W => W.heap[B]? = some (.cells cs 34 (0, 0))) (by kernel_rfl) hs7 ?_
    intro hS
    have hr8 : (w7.drewN 1).heap[B + 1 + 1]? = _ := hr7
    have hx8 : (w7.drewN 1).heap[B + 1]? = _ := hx7
    have HB8 := hid (below_drewN HB7.out 1)
    have hz8 : B + 1 + 1 + 1 ≤ (w7.drewN 1).heap.size := hz7
    change (w7.drewN 1).heap[B]? = _ at hS
    change wpAnyH _ _ _ _ _ _ _ _ (w7.drewN 1)
    generalize w7.drewN 1 = u at hr8 hx8 HB8 hz8 hS ⊢
    clear hr7 hx7 HB7 hs7 hz7
    refine wpAnyH_take (i := 0) (oi := ⟨some 14, _, _, _, _, _⟩) (v := ?_) rfl (by kernel_rfl) (by kernel_rfl) (by kernel_rfl) (fun _ _ _ h => h) (Or.inl ⟨by rfl, ?_⟩) hS ?_
    rotate_left 1
    focus ((intro W' hS'; go_simp) <;> with_reducible rfl)
    try simp only [Act.put, List.setIfInBounds_toArray, List.set_cons_zero, List.set_cons_succ]
    refine wpAnyH_take (i := 1) (oi := ⟨some 15, _, _, _, _, _⟩) (v := ?_) rfl (by kernel_rfl) (by kernel_rfl) (by kernel_rfl) (fun _ _ _ h => h) (Or.inl ⟨by rfl, ?_⟩) hS ?_
    rotate_left 1
    focus ((intro W' hS'; have x2 := (HC.out _ _ hS').2.2.1; go_simp) <;> with_reducible rfl)
    try simp only [Act.put, List.setIfInBounds_toArray, List.set_cons_zero, List.set_cons_succ]
    refine wpAnyH_take (i := 2) (oi := ⟨some 16, _, _, _, _, _⟩) rfl (by kernel_rfl) (by kernel_rfl) (by kernel_rfl) (fun _ _ _ h => h) (yields_row 34 (.tmp 1) rfl (by rfl) ⟨B, 0, none⟩ rfl cs _ (fun W' hS' => cells_part hS' (o := 0) (fun j u h => by rw [Nat.zero_add]; exact h)) Try.underlying34 rfl HIS.out) hS ?_
    try simp only [Act.put, List.setIfInBounds_toArray, List.set_cons_zero, List.set_cons_succ]
    refine anyH_one (i := 3) (by kernel_rfl) ⟨some 17, _, _, _, _, _⟩ rfl (by rfl) ?_
    go_simp
    with_reducible refine Calls.mono (HLN.out _) ?_
    rintro e u2 ⟨rfl, hb9⟩
    have hr9 := (hb9.block _ (by omega)).trans hr8
    have hx9 := (hb9.block _ (by omega)).trans hx8
    have hS9 := (hb9.block _ (by omega)).trans hS
    have HB9 := hid (HB8.out.trans (hb9.mono (by omega)))
    clear hb9 hr8 hx8 hS HB8 hz8
    have hS := hS9
    clear hS9
    refine ⟨hS, ?_⟩
    try simp only [Act.put, List.setIfInBounds_toArray, List.set_cons_zero, List.set_cons_succ]
    refine wpAnyH_take (i := 4) (oi := ⟨some 18, _, _, _, _, _⟩) (v := ?_) rfl (by kernel_rfl) (by kernel_rfl) (by kernel_rfl) (fun _ _ _ h => h) (Or.inl ⟨by rfl, ?_⟩) hS ?_
    rotate_left 1
    focus ((intro W' hS'; go_simp) <;> with_reducible rfl)
    try simp only [Act.put, List.setIfInBounds_toArray, List.set_cons_zero, List.set_cons_succ]
    refine wpAnyH_take (i := 5) (oi := ⟨some 19, _, _, _, _, _⟩) (v := ?_) rfl (by kernel_rfl) (by kernel_rfl) (by kernel_rfl) (fun _ _ _ h => h) (Or.inl ⟨by rfl, ?_⟩) hS ?_
    rotate_left 1
    focus ((intro W' hS'; go_simp) <;> with_reducible rfl)
    try simp only [Act.put, List.setIfInBounds_toArray, List.set_cons_zero, List.set_cons_succ]
    refine anyH_one (i := 6) (by kernel_rfl) ⟨none, _, _, _, _, _⟩ rfl (by rfl) ?_
    obtain ⟨_, _, _, oc, _⟩ := seg_cells hr9 HMAC.out
    have zf := frozRow hr9 3
    go_simp
    have hr7 := rowSetCell hr9 3 (.int .u32 (sq : Int))
    rw [SegM.set_ack] at hr7
    have m7 : Mod [B + 1 + 1] u2 (u2.setCell ⟨B + 1 + 1, 3, none⟩ (.int .u32 (sq : Int))) := Mod.setCell _ _ _ (by simp)
    have hx7 := m7.keeps hx9 (by simp)
    have hS7 := m7.keeps hS (by simp; omega)
    have HB7 := hid (Mod.below HB9.out m7 (Nat.le_of_eq HB.out.symm) (by simp; omega))
    clear oc zf m7 hr9 hx9 HB9 hS
    have hS := hS7
    clear hS7
    refine ⟨hS, ?_⟩
    try simp only [Act.put, List.setIfInBounds_toArray, List.set_cons_zero, List.set_cons_succ]
    refine wpAnyH_done (by kernel_rfl) ?_ _
    generalize u2.setCell _ _ = w9 at hr7 hx7 HB7 hS ⊢
    go_wp2_with (first
      | ((with_reducible refine at_slot 30 ?_); refine wpList_load_row rfl 34 (.tmp 4) rfl (B + 1 + 1) rfl _ _ _ _ hr7 Try.underlying34 rfl (HIR.out _ rfl) ?_)
      | ((with_reducible refine at_store 2 30 ?_); refine wpList_rowF rfl 34 (.tmp 2) (.tmp 30) rfl (B + 1) 34 _ _ rfl rfl hx7 (HIR.out _ rfl) (HSR.out _ rfl) (SegM.one _) ?_; intro wz hz mz sz))
    try simp only [Act.put, List.setIfInBounds_toArray, List.set_cons_zero, List.set_cons_succ]
    refine ret_cell_tmp (p := 2) (q := 3) rfl rfl rfl hz Try.underlying34 rfl (HIR.out _ rfl) ⟨?_, Mod.below HB7.out mz (Nat.le_of_eq HB.out.symm) (by simp)⟩
    rw [HRG.out]
    rfl
end Go.Proofs.Ythnidgiogjehkaa
