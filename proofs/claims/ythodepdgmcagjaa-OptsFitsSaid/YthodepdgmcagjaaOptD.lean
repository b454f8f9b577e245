/- Walks: far, alive of layer 12. Walks: the laws Back and Again of layer 12. -/
import Derived.Test.YthodepdgmcagjaaOptB
import Derived.Test.YthodepdgmcagjaaOptC
import Derived.Test.YthodepdgmcagjaaEqual
import Derived.Test.YthodepdgmcagjaaQRow
namespace Go.Proofs.Ythodepdgmcagjaa
set_option linter.unusedVariables false
set_option linter.unusedSimpArgs false
open Go.RowKit

theorem far12_any (o : OptM) (w : World) (ho : OptOk w o) : Calls Try.prog 8 #[.agg o.cells] w fun e w' => e = .returned (.bool (decide (500 < o.sacks.length))) ∧ Below w.heap.size w w' := by
  have f5 : o.cells[5]? = some (.slice o.A o.sacks.length o.c) := o.at _ _ rfl
  generalize o.cells = cs at f5
  obtain ⟨u, hu⟩ : ∃ u, decide (500 < o.sacks.length) = u := ⟨_, rfl⟩
  have hu2 : decide ((500 : Int) < (o.sacks.length : Int)) = u := by rw [← hu, decide_eq_decide]; omega
  rw [hu]
  clear hu ho
  go_enter Try.func8, Try.ntmps8
  go_wp2_with fail
  go_ret
  exact ⟨rfl, bl1 _ _⟩
/-- Lay, of options that may be. -/
theorem lay_ok (o : OptM) (w : World) (ho : OptOk w o) (hsl : o.sacks.length ≤ 1000) (h : mayO o = true) : Calls Try.prog 10 #[.agg o.cells] w fun e w' => ∃ A c, e = .returned (.tuple #[.slice A (bytesO o).length c, .int .i64 0]) ∧ OB w' w.heap.size (.slice A (bytesO o).length c) (bytesO o) ∧ Below w.heap.size w w' := by
  refine (lay_any o w ho hsl).mono ?_
  rintro e w' hr
  unfold LayRes layO layE at hr
  rw [if_pos h, if_pos h] at hr
  exact hr
/-- Lay, of options that may not be. -/
theorem lay_bad (o : OptM) (w : World) (ho : OptOk w o) (hsl : o.sacks.length ≤ 1000) (h : mayO o = false) : Calls Try.prog 10 #[.agg o.cells] w fun e w' => ∃ A c, e = .returned (.tuple #[.slice A 0 c, .int .i64 1]) ∧ Below w.heap.size w w' := by
  refine (lay_any o w ho hsl).mono ?_
  rintro e w' hr
  unfold LayRes layO layE at hr
  rw [h] at hr
  obtain ⟨A, c, h1, _, h2⟩ := hr
  exact ⟨A, c, h1, h2⟩
/-- Parse, where what it gives is known. -/
theorem parse_is (v : Value) (b : List UInt8) (er : Nat) (o : OptM) (h : parseO b = (er, o)) (w : World) (hb : RB w v b) :
    Calls Try.prog 18 #[v] w fun e w' => ∃ A c, e = .returned (.tuple #[.agg ({ o with A := A, c := c } : OptM).cells, .int .i64 (er : Int)]) ∧ OptOk w' { o with A := A, c := c } ∧ Below w.heap.size w w' := by
  refine (parse12_any v b w hb).mono ?_
  rintro e w' hr
  unfold ParseRes at hr
  rw [h] at hr
  exact hr
theorem RB.modO {w w' : World} {v : Value} {xs : List UInt8} {g : Nat} (h : RB w v xs) (hl : ∀ A m c, v = .slice (some A) m c → 0 < m → A.block < g) (hm : Mod [g] w w') : RB w' v xs := by
  obtain ⟨A, c, rfl, r⟩ := h
  refine ⟨A, c, rfl, r.len, r.cap, r.top, fun k u hu => ?_⟩
  obtain ⟨ad, rfl, hc⟩ := r.at_ k u hu
  refine ⟨ad, rfl, hm.cell hc ?_⟩
  have hbk : (ad.add k).block = ad.block := by unfold Addr.add; split <;> rfl
  rw [hbk]
  have h1 := (List.getElem?_eq_some_iff.1 hu).1
  rw [by8_length] at h1
  have := hl ad _ _ rfl (by omega)
  simp
  omega
def aO12 : OptM := ⟨true, 1460, false, 0, false, none, 0, [], false, 0, 0, false, 0, 0, [0, 0, 0, 0, 0, 0, 0, 0, 0, 0, 0, 0]⟩
theorem aO12_ok (w : World) : OptOk w aO12 := ⟨by decide, by decide, by decide, by decide, by decide, by decide, rfl, Row.nil w 2, fun b h => by cases h⟩
theorem aO12_may : mayO aO12 = true := by decide +kernel
theorem aO12_bytes : bytesO aO12 = [2, 4, 5, 180] := by decide +kernel
theorem aO12_parse : parseO [2, 4, 5, 180] = (0, aO12) := by rw [← aO12_bytes]; exact lay_parse (aO12_ok default) aO12_may
theorem build_aO12 : ∀ w, (Instr.build 27 #[(0, .bool true), (1, .int .u16 1460)]).run Try.prog w = .ok (.agg aO12.cells) w := by intro w; kernel_rfl
set_option maxRecDepth 20000 in
set_option maxHeartbeats 4000000 in
theorem alive12_any (w : World) : Calls Try.prog 9 #[] w fun e w' => e = .returned (.bool true) ∧ Below w.heap.size w w' := by
  have hlay := fun W => lay_ok aO12 W (aO12_ok W) (by decide) aO12_may
  rw [aO12_bytes] at hlay
  have HL := hid hlay
  have HP := hid fun v W h => parse_is v [2, 4, 5, 180] 0 aO12 aO12_parse W h
  have HBO := hid build_aO12
  have HA := hid fun A c => (show ({ aO12 with A := A, c := c } : OptM).cells[1]? = some (.int .u16 1460) from rfl)
  have HI := hid fun A c => info_optsX { aO12 with A := A, c := c } rfl
  have HS := hid fun A c => (show noOpt.cells.size = ({ aO12 with A := A, c := c } : OptM).cells.size by rw [OptM.size _ rfl, OptM.size _ rfl])
  have H1 := hid fun A c => OptM.one { aO12 with A := A, c := c }
  have HN := hid alloc_noOpt
  generalize aO12.cells = ca at HL HBO
  generalize noOpt.cells = nc at HN HS
  clear hlay
  go_enter Try.func9, Try.ntmps9
  go_wp2_with ((with_reducible refine at_build 27 ?_); refine wpList_buildF rfl 27 _ rfl #[(0, .bool true), (1, .int .u16 1460)] (by simp [Act.eval, Act.put]) _ HBO.out ?_)
  (with_reducible refine Calls.mono (HL.out _) ?_)
  rintro e w1 ⟨A1, c1, rfl, ho1, hb1⟩
  have HO1 := hid (show RB w1 (.slice A1 4 c1) [2, 4, 5, 180] from ho1.rb)
  have HB1 := hid hb1
  clear ho1 hb1
  go_wp2_with fail
  (with_reducible refine Calls.mono (HP.out _ _ HO1.out) ?_)
  rintro e w2 ⟨A2, c2, rfl, ho2, hb2⟩
  have HO2 := hid (HO1.out.below hb2)
  have HB2 := hid (below_after HB1.out hb2 (Nat.le_refl _))
  have HI2 := hid (HI.out A2 c2)
  have HA2 := hid (HA.out A2 c2)
  have H12 := hid (H1.out A2 c2)
  have HS2 := hid (HS.out A2 c2)
  clear hb2 ho2 HO1 HB1 HI HA H1 HS
  generalize ({ aO12 with A := A2, c := c2 } : OptM).cells = cq at HI2 HA2 H12 HS2 ⊢
  have hsb : ((strOf [2, 4, 5, 180]).toList == [2, 4, 5, 180]) = true := by rw [toList_strOf]; rfl
  go_wp2_with (first
    | ((with_reducible refine at_slot 3 ?_); refine wpList_allocF rfl 27 rfl _ HN.out ?_; intro w3 h3 hb3 s3; have H3 := hid h3; have HB3 := hid hb3; clear h3 hb3 s3)
    | ((with_reducible refine at_store 3 13 ?_); refine wpList_rowF rfl 27 (.tmp 3) (.tmp 13) rfl w2.heap.size 27 _ cq rfl rfl H3.out HI2.out HS2.out H12.out ?_; intro w4 h4 m4 s4; have HB4 := hid (Mod.below (below_after HB2.out HB3.out (Nat.le_refl _)) m4 (Nat.le_refl _) (by simp; exact HB2.out.size)); have HR4 := hid ((HO2.out.below HB3.out).modO HO2.out.lt m4); have c14 := cellRow h4 1; rw [HA2.out] at c14; have hcv := conv_str HR4.out; clear h4 m4 s4 H3))
  go_ret
  exact ⟨rfl, HB4.out⟩
end Go.Proofs.Ythodepdgmcagjaa
namespace Go.Proofs.Ythodepdgmcagjaa
set_option linter.unusedVariables false
set_option linter.unusedSimpArgs false
open Go.RowKit

theorem Row.lt {w : World} {sz n c : Nat} {A : Option Addr} {vs : List Value} (h : Row w sz A n c vs) (ad : Addr) (hA : A = some ad) (hl : 0 < vs.length) : ad.block < w.heap.size := by
  obtain ⟨ad2, e, hc⟩ := h.at_ 0 _ (List.getElem?_eq_getElem hl)
  rw [hA] at e
  injection e with e
  subst e
  have := World.block_lt_of_cell? w _ hc
  simpa [Addr.add] using this
theorem Row.mod1 {w w' : World} {sz n c g : Nat} {A : Option Addr} {vs : List Value} (h : Row w sz A n c vs) (hm : Mod [g] w w') (hne : ∀ ad, A = some ad → 0 < vs.length → ad.block ≠ g) : Row w' sz A n c vs := by
  refine ⟨h.len, h.cap, h.top, fun k u hu => ?_⟩
  obtain ⟨ad, rfl, hc⟩ := h.at_ k u hu
  have hbk : (ad.add k).block = ad.block := by unfold Addr.add; split <;> rfl
  exact ⟨ad, rfl, hm.cell hc (by rw [hbk]; simpa using hne ad rfl (by have := (List.getElem?_eq_some_iff.1 hu).1; omega))⟩
theorem OptOk.mod1 {w w' : World} {o : OptM} {g : Nat} (h : OptOk w o) (hm : Mod [g] w w') (hne : ∀ ad, o.A = some ad → 0 < (bcs o.sacks).length → ad.block ≠ g) : OptOk w' o := ⟨h.mss, h.scale, h.val, h.echo, h.key, h.next, h.mac, h.row.mod1 hm hne, h.ok⟩
theorem bytesO_four (o : OptM) (hm : o.mac.length = 12) : (bytesO o).length % 4 = 0 := by rw [bytesO_len o hm, sizeO]; omega
set_option maxRecDepth 20000 in
set_option maxHeartbeats 4000000 in
theorem lawBack12_any (o : OptM) (w : World) (ho : OptOk w o) : Calls Try.prog 4 #[.agg o.cells] w fun e w' => e = .returned (.bool true) ∧ Below w.heap.size w w' := by
  have HF := hid (fun W (h : Below w.heap.size w W) => far12_any o W (ho.below h))
  have HLY := hid (fun (hsl : o.sacks.length ≤ 1000) (m : mayO o = true) W (h : Below w.heap.size w W) => lay_ok o W (ho.below h) hsl m)
  have HLB := hid (fun (hsl : o.sacks.length ≤ 1000) (m : mayO o = false) W (h : Below w.heap.size w W) => lay_bad o W (ho.below h) hsl m)
  have HMY := hid (fun (hsl : o.sacks.length ≤ 1000) W (h : Below w.heap.size w W) => may_any o W (ho.below h) hsl)
  have HPR := hid (fun (m : mayO o = true) W v (hv : RB W v (bytesO o)) => parse_is v (bytesO o) 0 { o with A := none, c := 0 } (lay_parse ho m) W hv)
  have HSM := hid (fun A c W (h : Below w.heap.size w W) (h2 : OptOk W { o with A := A, c := c }) => same_any o { o with A := A, c := c } W (ho.below h) h2)
  have HS1 := hid (sameO_self o)
  have HI := hid (info_optsX o ho.mac)
  have HIA := hid (fun A c => info_optsX { o with A := A, c := c } ho.mac)
  have H1A := hid (fun A c => OptM.one { o with A := A, c := c })
  have HSA := hid (fun A c => (show noOpt.cells.size = ({ o with A := A, c := c } : OptM).cells.size by rw [OptM.size noOpt rfl, OptM.size { o with A := A, c := c } ho.mac]))
  have HN := hid alloc_noOpt
  have HL4 := hid (bytesO_four o ho.mac)
  have HL40 := hid (fun m : mayO o = true => ((mayO_iff o).1 m).2.2.2)
  obtain ⟨f, hf⟩ : ∃ t, decide (500 < o.sacks.length) = t := ⟨_, rfl⟩
  rw [hf] at HF
  have HFF := hid hf
  clear hf
  obtain ⟨m, hm⟩ : ∃ t, mayO o = t := ⟨_, rfl⟩
  rw [hm] at HLY HLB HMY HPR HL40
  clear hm
  generalize bytesO o = b at HLY HPR HL4 HL40
  generalize o.cells = co at HF HLY HLB HMY HSM HI ⊢
  generalize noOpt.cells = nc at HN HSA
  have BB := hid (Below.refl w.heap.size w)
  obtain ⟨B, hB⟩ : ∃ x, w.heap.size = x := ⟨_, rfl⟩
  rw [hB] at BB
  have HB := hid hB
  have HST := hid (fun W (h : Below B w W) => show B ≤ W.heap.size by have := h.size; have := HB.out; omega)
  have ALIVE := hid (fun W (h : Below B w W) => (alive12_any W).mono (fun e w' (h' : e = .returned (.bool true) ∧ Below W.heap.size W w') => (⟨h'.1, h.trans (h'.2.mono (HST.out W h))⟩ : e = .returned (.bool true) ∧ Below B w w')))
  rw [hB] at HF HLY HLB HMY HSM
  clear hB ho
  go_enter Try.func4, Try.ntmps4
  go_wp2_with (first
    | ((with_reducible refine at_slot 1 ?_); refine wpList_boxF rfl 27 (.tmp 0) rfl co rfl ?_; intro w1 hx1 hb1 hz1; rw [HB.out] at hx1 hb1 hz1 ⊢; have X := hid hx1; replace BB := hid hb1; clear hx1 hb1 hz1)
    | ((with_reducible refine at_slot 7 ?_); refine wpList_rowG rfl 27 (.tmp 1) rfl B rfl _ co _ X.out Try.underlying27 rfl HI.out ?_))
  (with_reducible refine Calls.mono (HF.out _ BB.out) ?_)
  rintro e w2 ⟨rfl, hb2⟩
  replace X := hid ((hb2.block _ (Array.getElem?_eq_some_iff.1 X.out).1).trans X.out)
  replace BB := hid (BB.out.trans (hb2.mono (HST.out _ BB.out)))
  clear hb2
  cases f
  case true =>
    go_wp2_with fail
    (with_reducible refine Calls.mono (ALIVE.out _ BB.out) ?_)
    rintro e w3 ⟨rfl, hb3⟩
    have BF := hid hb3
    clear hb3
    go_wp2_with fail
    go_ret
    exact ⟨rfl, by rw [HB.out]; exact BF.out⟩
  have hsl : o.sacks.length ≤ 1000 := by have := of_decide_eq_false HFF.out; omega
  have HSL := hid hsl
  clear hsl
  go_wp2_with ((with_reducible refine at_slot 11 ?_); refine wpList_rowG rfl 27 (.tmp 1) rfl B rfl _ co _ X.out Try.underlying27 rfl HI.out ?_)
  cases m
  case false =>
    (with_reducible refine Calls.mono (HLB.out HSL.out (by simp) _ BB.out) ?_)
    rintro e w3 ⟨A, c, rfl, hb3⟩
    replace X := hid ((hb3.block _ (Array.getElem?_eq_some_iff.1 X.out).1).trans X.out)
    replace BB := hid (BB.out.trans (hb3.mono (HST.out _ BB.out)))
    clear hb3
    go_wp2_with ((with_reducible refine at_slot 21 ?_); refine wpList_rowG rfl 27 (.tmp 1) rfl B rfl _ co _ X.out Try.underlying27 rfl HI.out ?_)
    (with_reducible refine Calls.mono (HMY.out HSL.out _ BB.out) ?_)
    rintro e w4 ⟨rfl, hb4⟩
    replace X := hid ((hb4.block _ (Array.getElem?_eq_some_iff.1 X.out).1).trans X.out)
    replace BB := hid (BB.out.trans (hb4.mono (HST.out _ BB.out)))
    clear hb4
    go_wp2_with fail
    (with_reducible refine Calls.mono (ALIVE.out _ BB.out) ?_)
    rintro e w5 ⟨rfl, hb5⟩
    have BF := hid hb5
    clear hb5
    go_wp2_with fail
    go_ret
    exact ⟨rfl, by rw [HB.out]; exact BF.out⟩
  (with_reducible refine Calls.mono (HLY.out HSL.out (by simp) _ BB.out) ?_)
  rintro e w3 ⟨A, c, rfl, ho3, hb3⟩
  have HO3 := hid ho3.rb
  clear ho3
  replace X := hid ((hb3.block _ (Array.getElem?_eq_some_iff.1 X.out).1).trans X.out)
  replace BB := hid (BB.out.trans (hb3.mono (HST.out _ BB.out)))
  clear hb3
  go_wp2_with fail
  (with_reducible refine Calls.mono (HPR.out (by simp) _ _ HO3.out) ?_)
  rintro e w4 ⟨A4, c4, rfl, ho4, hb4⟩
  have HO4 := hid ho4
  have HR4 := hid (HO3.out.below hb4)
  replace X := hid ((hb4.block _ (Array.getElem?_eq_some_iff.1 X.out).1).trans X.out)
  replace BB := hid (BB.out.trans (hb4.mono (HST.out _ BB.out)))
  clear hb4 ho4 HO3
  have HI4 := hid (HIA.out A4 c4)
  have H14 := hid (H1A.out A4 c4)
  have HS4 := hid (HSA.out A4 c4)
  have HSM4 := hid (HSM.out A4 c4)
  rw [HS1.out A4 c4] at HSM4
  clear HIA H1A HSA HSM HS1
  obtain ⟨q, hq⟩ : ∃ q : OptM, ({ o with A := A4, c := c4 } : OptM) = q := ⟨_, rfl⟩
  rw [hq] at HI4 H14 HS4 HSM4 HO4 ⊢
  clear hq
  have hl4 : (b.length : Int).tmod 4 = 0 := by rw [Int.tmod_eq_emod_of_nonneg (by omega)]; have := HL4.out; omega
  have hl40 : decide ((b.length : Int) ≤ 40) = true := by rw [decide_eq_true_eq]; have := HL40.out (by simp); omega
  go_wp2_with (first
    | ((with_reducible refine at_slot 5 ?_); refine wpList_allocF rfl 27 rfl _ HN.out ?_; intro wa ha hba sa; have HA := hid ha; have HBA := hid hba; clear ha hba sa)
    | ((with_reducible refine at_store 5 31 ?_); refine wpList_rowF rfl 27 (.tmp 5) (.tmp 31) rfl w4.heap.size 27 _ q.cells rfl rfl HA.out HI4.out HS4.out H14.out ?_; intro wb hbk hmb sb; have HBK := hid hbk; have HMB := hid hmb; clear hbk hmb sb)
    | ((with_reducible refine at_slot 36 ?_); refine wpList_rowG rfl 27 (.tmp 1) rfl B rfl _ co _ (HMB.out.keeps ((HBA.out.block _ (Array.getElem?_eq_some_iff.1 X.out).1).trans X.out) (by simp; have := (Array.getElem?_eq_some_iff.1 X.out).1; omega)) Try.underlying27 rfl HI.out ?_)
    | ((with_reducible refine at_slot 37 ?_); refine wpList_rowG rfl 27 (.tmp 5) rfl w4.heap.size rfl _ q.cells _ HBK.out Try.underlying27 rfl HI4.out ?_))
  have B5 := hid (Mod.below (BB.out.trans (HBA.out.mono (HST.out _ BB.out))) HMB.out (by have := HB.out; omega) (by simp; exact HST.out _ BB.out))
  have HO5 := hid ((HO4.out.below HBA.out).mod1 HMB.out (by intro ad hA hl; have := (HO4.out.row.lt ad hA hl); omega))
  (with_reducible refine Calls.mono (HSM4.out _ B5.out HO5.out) ?_)
  rintro e w6 ⟨rfl, hb6⟩
  replace BB := hid (B5.out.trans (hb6.mono (HST.out _ B5.out)))
  clear hb6 B5 HO5 HBK HMB HBA HA X HO4 HR4
  go_wp2_with fail
  (with_reducible refine Calls.mono (ALIVE.out _ BB.out) ?_)
  rintro e w7 ⟨rfl, hb7⟩
  have BF := hid hb7
  clear hb7
  go_wp2_with fail
  go_ret
  exact ⟨rfl, by rw [HB.out]; exact BF.out⟩
theorem parseO_bad (b : List UInt8) (h : (parseO b).1 ≠ 0) : (parseO b).2 = noOpt := by
  unfold parseO at *
  split
  · rfl
  · rename_i hl
    rw [if_neg hl] at h
    unfold endO at *
    cases hx : parseX noOpt met0 b with
    | none => rfl
    | some r =>
      obtain ⟨e, o⟩ := r
      rw [hx] at h
      simp only at h ⊢
      split
      · rename_i he
        rw [if_pos he] at h
        exact absurd rfl h
      · rfl
set_option maxRecDepth 20000 in
set_option maxHeartbeats 4000000 in
theorem lawAgain12_any (v : Value) (b : List UInt8) (w : World) (hb : RB w v b) : Calls Try.prog 5 #[v] w fun e w' => e = .returned (.bool true) ∧ Below w.heap.size w w' := by
  obtain ⟨er, o, hpo⟩ : ∃ er o, parseO b = (er, o) := ⟨_, _, rfl⟩
  have HP := hid (fun W h => parse_is v b er o hpo W h)
  have HPK := hid (show PlainOk o by have := parseO_ok b; rw [hpo] at this; exact this)
  have HBAD := hid (fun h : er ≠ 0 => (show o = noOpt by have := parseO_bad b; rw [hpo] at this; exact this h))
  have HRB := hid hb
  have HN := hid alloc_noOpt
  have HBN := hid build_noOpt
  have HNO := hid (fun W => (show OptOk W noOpt from noOpt_plain.opt (Row.nil W 2)))
  have HSN := hid (fun A c W (h : OptOk W { noOpt with A := A, c := c }) => same_any { noOpt with A := A, c := c } noOpt W h (HNO.out W))
  have HNS := hid (OptM.size noOpt rfl)
  obtain ⟨A1, c1, hv⟩ : ∃ A c, v = .slice A b.length c := by obtain ⟨A, c, h, _⟩ := hb; exact ⟨A, c, h⟩
  subst hv
  clear hpo hb
  have BB := hid (Below.refl w.heap.size w)
  obtain ⟨B, hB⟩ : ∃ x, w.heap.size = x := ⟨_, rfl⟩
  rw [hB] at BB
  have HB := hid hB
  have HST := hid (fun W (h : Below B w W) => show B ≤ W.heap.size by have := h.size; have := HB.out; omega)
  have ALIVE := hid (fun W (h : Below B w W) => (alive12_any W).mono (fun e w' (h' : e = .returned (.bool true) ∧ Below W.heap.size W w') => (⟨h'.1, h.trans (h'.2.mono (HST.out W h))⟩ : e = .returned (.bool true) ∧ Below B w w')))
  clear hB
  generalize hnc : noOpt.cells = nc at HN HBN HNS HSN
  have HNC := hid hnc
  clear hnc
  go_enter Try.func5, Try.ntmps5
  go_wp2_with fail
  (with_reducible refine Calls.mono (HP.out _ HRB.out) ?_)
  rintro e w2 ⟨A2, c2, rfl, ho2, hb2⟩
  replace BB := hid (show Below B w w2 from HB.out ▸ hb2)
  have HO2 := hid ho2
  have HPQ := hid (HPK.out.addr A2 c2)
  clear hb2 ho2
  have HSB := hid (fun h : er ≠ 0 => (show ({ o with A := A2, c := c2 } : OptM) = { noOpt with A := A2, c := c2 } by rw [HBAD.out h]))
  have HSQ := hid (show ∀ A c, sameO { o with A := A2, c := c2 } { o with A := A, c := c } = true from fun A c => sameO_self { o with A := A2, c := c2 } A c)
  have HLP := hid (fun (W : World) (h : OptOk W { o with A := A2, c := c2 }) (m : mayO { o with A := A2, c := c2 } = true) => lay_parse h m)
  have HIA := hid (fun A c => info_optsX { o with A := A, c := c } HPK.out.mac)
  have H1A := hid (fun A c => OptM.one { o with A := A, c := c })
  have HSA := hid (fun A c => (show nc.size = ({ o with A := A, c := c } : OptM).cells.size by rw [HNS.out, OptM.size { o with A := A, c := c } HPK.out.mac]))
  have HI := hid (HIA.out A2 c2)
  have H1 := hid (H1A.out A2 c2)
  have HS := hid (HSA.out A2 c2)
  have HMAY := hid (show mayO ({ o with A := A2, c := c2 } : OptM) = decide (sizeO o ≤ 40) from HPQ.out.may)
  have HSL := hid (show ({ o with A := A2, c := c2 } : OptM).sacks.length ≤ 1000 by have := HPQ.out.sl; omega)
  have HSZ := hid (fun W h => size_any { o with A := A2, c := c2 } W h HSL.out)
  have HSZE := hid (show sizeO ({ o with A := A2, c := c2 } : OptM) = sizeO o from rfl)
  rw [HSZE.out] at HSZ
  have HQA := hid (show ∀ A c, ({ o with A := A, c := c } : OptM) = { ({ o with A := A2, c := c2 } : OptM) with A := A, c := c } from fun A c => rfl)
  obtain ⟨q, hq⟩ : ∃ q : OptM, ({ o with A := A2, c := c2 } : OptM) = q := ⟨_, rfl⟩
  rw [hq] at HO2 HPQ HSB HSQ HLP HI H1 HS HMAY HSL HSZ ⊢
  clear HSZE HP HRB
  have HQ := hid hq
  clear hq
  generalize sizeO o = sz at HSZ HMAY
  go_upto_if 15 with (first
    | ((with_reducible refine at_slot 3 ?_); refine wpList_allocF rfl 27 rfl _ HN.out ?_; intro wa ha hba sa; have HA := hid ha; have HBA := hid hba; clear ha hba sa)
    | ((with_reducible refine at_store 3 12 ?_); refine wpList_rowF rfl 27 (.tmp 3) (.tmp 12) rfl w2.heap.size 27 _ q.cells rfl rfl HA.out HI.out HS.out H1.out ?_; intro wb hbk hmb sb; have HBK := hid hbk; have HMB := hid hmb; clear hbk hmb sb))
  have BBK := HBK
  replace BB := hid (Mod.below (BB.out.trans (HBA.out.mono (HST.out _ BB.out))) HMB.out (by have := HB.out; omega) (by simp; exact HST.out _ BB.out))
  have OQ := hid ((HO2.out.below HBA.out).mod1 HMB.out (by intro ad hA hl; have := (HO2.out.row.lt ad hA hl); omega))
  have X := HBK
  clear HBK BBK HMB HBA HA HO2
  by_cases h0 : er = 0
  · subst h0
    clear HBAD HSB HSN HBN
    have HLO := hid (fun (m : mayO q = true) W h => lay_ok q W h HSL.out m)
    have HLB := hid (fun (m : mayO q = false) W h => lay_bad q W h HSL.out m)
    have HMY := hid (fun W h => may_any q W h HSL.out)
    have HPR := hid (fun (m : mayO q = true) W (hw : OptOk W q) v (hv : RB W v (bytesO q)) => parse_is v (bytesO q) 0 { q with A := none, c := 0 } (HLP.out W hw m) W hv)
    obtain ⟨m, hm⟩ : ∃ m, mayO q = m := ⟨_, rfl⟩
    rw [hm] at HMAY HLO HLB HMY HPR
    clear hm HLP
    generalize bytesO q = bs at HLO HPR
    go_wp2_with ((with_reducible refine at_slot 23 ?_); refine wpList_rowG rfl 27 (.tmp 3) rfl w2.heap.size rfl _ q.cells _ X.out Try.underlying27 rfl HI.out ?_)
    cases m
    case false =>
      (with_reducible refine Calls.mono (HLB.out (by simp) _ OQ.out) ?_)
      rintro e w3 ⟨A3, c3, rfl, hb3⟩
      replace X := hid ((hb3.block _ (Array.getElem?_eq_some_iff.1 X.out).1).trans X.out)
      replace BB := hid (BB.out.trans (hb3.mono (HST.out _ BB.out)))
      replace OQ := hid (OQ.out.below hb3)
      clear hb3
      have hsz : decide ((40 : Int) < (sz : Int)) = true := by have := of_decide_eq_false HMAY.out.symm; rw [decide_eq_true_eq]; omega
      go_wp2_with ((with_reducible refine at_slot 27 ?_); refine wpList_rowG rfl 27 (.tmp 3) rfl w2.heap.size rfl _ q.cells _ X.out Try.underlying27 rfl HI.out ?_)
      (with_reducible refine Calls.mono (HSZ.out _ OQ.out) ?_)
      rintro e w4 ⟨rfl, hb4⟩
      replace X := hid ((hb4.block _ (Array.getElem?_eq_some_iff.1 X.out).1).trans X.out)
      replace BB := hid (BB.out.trans (hb4.mono (HST.out _ BB.out)))
      clear hb4
      go_wp2_with fail
      (with_reducible refine Calls.mono (ALIVE.out _ BB.out) ?_)
      rintro e w5 ⟨rfl, hb5⟩
      have BF := hid hb5
      clear hb5
      go_wp2_with fail
      go_ret
      exact ⟨rfl, by rw [HB.out]; exact BF.out⟩
    (with_reducible refine Calls.mono (HLO.out (by simp) _ OQ.out) ?_)
    rintro e w3 ⟨A3, c3, rfl, ho3, hb3⟩
    have HO3 := hid ho3.rb
    replace X := hid ((hb3.block _ (Array.getElem?_eq_some_iff.1 X.out).1).trans X.out)
    replace BB := hid (BB.out.trans (hb3.mono (HST.out _ BB.out)))
    replace OQ := hid (OQ.out.below hb3)
    clear hb3 ho3
    have hsz : decide ((40 : Int) < (sz : Int)) = false := by have := of_decide_eq_true HMAY.out.symm; rw [decide_eq_false_iff_not]; omega
    go_wp2_with ((with_reducible refine at_slot 27 ?_); refine wpList_rowG rfl 27 (.tmp 3) rfl w2.heap.size rfl _ q.cells _ X.out Try.underlying27 rfl HI.out ?_)
    (with_reducible refine Calls.mono (HSZ.out _ OQ.out) ?_)
    rintro e w4 ⟨rfl, hb4⟩
    replace HO3 := hid (HO3.out.below hb4)
    replace X := hid ((hb4.block _ (Array.getElem?_eq_some_iff.1 X.out).1).trans X.out)
    replace BB := hid (BB.out.trans (hb4.mono (HST.out _ BB.out)))
    replace OQ := hid (OQ.out.below hb4)
    clear hb4
    go_wp2_with fail
    (with_reducible refine Calls.mono (HPR.out (by simp) _ OQ.out _ HO3.out) ?_)
    rintro e w5 ⟨A5, c5, rfl, ho5, hb5⟩
    have HO5 := hid ho5
    replace X := hid ((hb5.block _ (Array.getElem?_eq_some_iff.1 X.out).1).trans X.out)
    replace BB := hid (BB.out.trans (hb5.mono (HST.out _ BB.out)))
    replace OQ := hid (OQ.out.below hb5)
    clear hb5 ho5 HO3
    have HSM := hid (fun W (h1 : OptOk W q) (h2 : OptOk W { q with A := A5, c := c5 }) => same_any q { q with A := A5, c := c5 } W h1 h2)
    rw [sameO_self q A5 c5] at HSM
    have HI5 := hid (info_optsX { q with A := A5, c := c5 } HPQ.out.mac)
    have H15 := hid (OptM.one { q with A := A5, c := c5 })
    have HS5 := hid (show nc.size = ({ q with A := A5, c := c5 } : OptM).cells.size by rw [HNS.out, OptM.size { q with A := A5, c := c5 } HPQ.out.mac])
    obtain ⟨p, hp⟩ : ∃ p : OptM, ({ q with A := A5, c := c5 } : OptM) = p := ⟨_, rfl⟩
    rw [hp] at HSM HI5 H15 HS5 HO5 ⊢
    clear hp
    go_wp2_with (first
      | ((with_reducible refine at_slot 7 ?_); refine wpList_allocF rfl 27 rfl _ HN.out ?_; intro wa ha hba sa; have HA := hid ha; have HBA := hid hba; clear ha hba sa)
      | ((with_reducible refine at_store 7 38 ?_); refine wpList_rowF rfl 27 (.tmp 7) (.tmp 38) rfl w5.heap.size 27 _ p.cells rfl rfl HA.out HI5.out HS5.out H15.out ?_; intro wb hbk hmb sb; have HBK := hid hbk; have HMB := hid hmb; clear hbk hmb sb)
      | ((with_reducible refine at_slot 40 ?_); refine wpList_rowG rfl 27 (.tmp 3) rfl w2.heap.size rfl _ q.cells _ (HMB.out.keeps ((HBA.out.block _ (Array.getElem?_eq_some_iff.1 X.out).1).trans X.out) (by simp; have := (Array.getElem?_eq_some_iff.1 X.out).1; omega)) Try.underlying27 rfl HI.out ?_))
    replace X := hid (HMB.out.keeps ((HBA.out.block _ (Array.getElem?_eq_some_iff.1 X.out).1).trans X.out) (by simp; have := (Array.getElem?_eq_some_iff.1 X.out).1; omega))
    replace BB := hid (Mod.below (BB.out.trans (HBA.out.mono (HST.out _ BB.out))) HMB.out (by have := HB.out; omega) (by simp; exact HST.out _ BB.out))
    replace OQ := hid ((OQ.out.below HBA.out).mod1 HMB.out (by intro ad hA hl; have := (OQ.out.row.lt ad hA hl); omega))
    replace HO5 := hid ((HO5.out.below HBA.out).mod1 HMB.out (by intro ad hA hl; have := (HO5.out.row.lt ad hA hl); omega))
    have Y := HBK
    clear HBK HMB HBA HA
    (with_reducible refine Calls.mono (HMY.out _ OQ.out) ?_)
    rintro e w6 ⟨rfl, hb6⟩
    replace X := hid ((hb6.block _ (Array.getElem?_eq_some_iff.1 X.out).1).trans X.out)
    replace Y := hid ((hb6.block _ (Array.getElem?_eq_some_iff.1 Y.out).1).trans Y.out)
    replace BB := hid (BB.out.trans (hb6.mono (HST.out _ BB.out)))
    replace OQ := hid (OQ.out.below hb6)
    replace HO5 := hid (HO5.out.below hb6)
    clear hb6
    go_wp2_with (first
      | ((with_reducible refine at_slot 51 ?_); refine wpList_rowG rfl 27 (.tmp 3) rfl w2.heap.size rfl _ q.cells _ X.out Try.underlying27 rfl HI.out ?_)
      | ((with_reducible refine at_slot 52 ?_); refine wpList_rowG rfl 27 (.tmp 7) rfl w5.heap.size rfl _ p.cells _ Y.out Try.underlying27 rfl HI5.out ?_))
    (with_reducible refine Calls.mono (HSM.out _ OQ.out HO5.out) ?_)
    rintro e w7 ⟨rfl, hb7⟩
    replace X := hid ((hb7.block _ (Array.getElem?_eq_some_iff.1 X.out).1).trans X.out)
    replace Y := hid ((hb7.block _ (Array.getElem?_eq_some_iff.1 Y.out).1).trans Y.out)
    replace BB := hid (BB.out.trans (hb7.mono (HST.out _ BB.out)))
    clear hb7
    go_wp2_with fail
    (with_reducible refine Calls.mono (ALIVE.out _ BB.out) ?_)
    rintro e w8 ⟨rfl, hb8⟩
    have BF := hid hb8
    clear hb8
    go_wp2_with fail
    go_ret
    exact ⟨rfl, by rw [HB.out]; exact BF.out⟩
  · have b0 : ((er : Int) != 0) = true := by rw [bne_iff_ne]; omega
    have HQN := hid ((HSB.out h0))
    clear HBAD h0
    have HSM := hid (fun W (h : OptOk W q) => (HSN.out A2 c2 W (by rw [← HQN.out]; exact h)))
    rw [← HQN.out] at HSM
    rw [show sameO q noOpt = true by rw [HQN.out]; exact (sameO_iff _ _).2 ⟨rfl, rfl, rfl, rfl, rfl, rfl, rfl, rfl, rfl, rfl, rfl, rfl, rfl⟩] at HSM
    clear HSN HSB HQN
    go_wp2_with (first
      | ((with_reducible refine at_slot 16 ?_); refine wpList_rowG rfl 27 (.tmp 3) rfl w2.heap.size rfl _ q.cells _ X.out Try.underlying27 rfl HI.out ?_)
      | ((with_reducible refine at_build 27 ?_); refine wpList_buildF rfl 27 _ rfl #[] (by simp) _ HBN.out ?_))
    (with_reducible refine Calls.mono (HSM.out _ OQ.out) ?_)
    rintro e w3 ⟨rfl, hb3⟩
    replace X := hid ((hb3.block _ (Array.getElem?_eq_some_iff.1 X.out).1).trans X.out)
    replace BB := hid (BB.out.trans (hb3.mono (HST.out _ BB.out)))
    clear hb3
    go_wp2_with fail
    (with_reducible refine Calls.mono (ALIVE.out _ BB.out) ?_)
    rintro e w4 ⟨rfl, hb4⟩
    have BF := hid hb4
    clear hb4
    go_wp2_with fail
    go_ret
    exact ⟨rfl, by rw [HB.out]; exact BF.out⟩
end Go.Proofs.Ythodepdgmcagjaa
