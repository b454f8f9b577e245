/- Plain law: what is laid is parsed. Walks: far and alive, layer 13. The laws SegBack and SegAgain, layer 13. -/
import Derived.Test.YthnidgiogjehkaaSegC
namespace Go.Proofs.Ythnidgiogjehkaa
set_option linter.unusedVariables false
set_option linter.unusedSimpArgs false
set_option maxRecDepth 20000
open Go.RowKit

theorem layO_addr (o : OptM) (A : Option Addr) (c : Nat) : layO { o with A := A, c := c } = layO o := by
  unfold layO
  rw [mayO_addr]
  rfl
theorem bytesG_at (s : SegM) (A D : Option Addr) (c dc k : Nat) : bytesG (s.at A c D dc) k = bytesG s k := by
  unfold bytesG fixG wordG SegM.at
  rw [layO_addr]
theorem layG_at (a b : Adr) (s : SegM) (A D : Option Addr) (c dc : Nat) : layG a b (s.at A c D dc) = layG a b s := by
  unfold layG ckG
  rw [mayG_at, bytesG_at, bytesG_at]
theorem layGE_at (s : SegM) (A D : Option Addr) (c dc : Nat) : layGE (s.at A c D dc) = layGE s := by
  unfold layGE
  rw [mayG_at]
theorem sameS_iff (a b : SegM) : sameS a b = true ↔ a.src = b.src ∧ a.dst = b.dst ∧ a.seq = b.seq ∧ a.ack = b.ack ∧ a.flags = b.flags ∧ a.win = b.win ∧ a.urg = b.urg ∧ sameO a.o b.o = true ∧ a.data = b.data := by
  unfold sameS
  simp only [Bool.and_eq_true, beq_iff_eq]
  constructor
  · rintro ⟨⟨⟨⟨⟨⟨⟨⟨h1, h2⟩, h3⟩, h4⟩, h5⟩, h6⟩, h7⟩, h8⟩, h9⟩
    exact ⟨h1, h2, h3, h4, h5, h6, h7, h8, h9⟩
  · rintro ⟨h1, h2, h3, h4, h5, h6, h7, h8, h9⟩
    exact ⟨⟨⟨⟨⟨⟨⟨⟨h1, h2⟩, h3⟩, h4⟩, h5⟩, h6⟩, h7⟩, h8⟩, h9⟩
theorem sameS_at (s : SegM) (A D A' D' : Option Addr) (c dc c' dc' : Nat) : sameS (s.at A c D dc) (s.at A' c' D' dc') = true :=
  (sameS_iff _ _).2 ⟨rfl, rfl, rfl, rfl, rfl, rfl, rfl, (sameO_iff _ _).2 ⟨rfl, rfl, rfl, rfl, rfl, rfl, rfl, rfl, rfl, rfl, rfl, rfl, rfl⟩, rfl⟩
theorem SegM.at_self (s : SegM) : s = s.at s.o.A s.o.c s.D s.dc := rfl
theorem layO_four (o : OptM) (hm : o.mac.length = 12) : (layO o).length % 4 = 0 := by
  unfold layO
  split
  · rw [bytesO_len o hm]
    unfold sizeO
    omega
  · rfl
theorem beB_four (n : Nat) : beB 4 n = [UInt8.ofNat (n / 16777216), UInt8.ofNat (n / 65536), UInt8.ofNat (n / 256), UInt8.ofNat n] := by simp [beB]
/-- The bytes one by one. -/
theorem bytesG_cons (s : SegM) (k : Nat) : ∃ x0 x1 x2 x3 x4 x5 x6 x7 x8 x9 xa xb y0 y1 z0 z1 z2 z3 z4 z5, bytesG s k = x0 :: x1 :: x2 :: x3 :: x4 :: x5 :: x6 :: x7 :: x8 :: x9 :: xa :: xb :: y0 :: y1 :: z0 :: z1 :: z2 :: z3 :: z4 :: z5 :: (layO s.o ++ s.data) ∧
    [x0, x1] = beB 2 s.src ∧ [x2, x3] = beB 2 s.dst ∧ [x4, x5, x6, x7] = beB 4 s.seq ∧ [x8, x9, xa, xb] = beB 4 s.ack ∧ y0 = UInt8.ofNat ((20 + (layO s.o).length) * 4) ∧ y1 = UInt8.ofNat s.flags ∧ [z0, z1] = beB 2 s.win ∧ [z4, z5] = beB 2 s.urg := by
  unfold bytesG fixG wordG
  simp only [beB_two, beB_four, List.cons_append, List.nil_append]
  exact ⟨_, _, _, _, _, _, _, _, _, _, _, _, _, _, _, _, _, _, _, _, rfl, rfl, rfl, rfl, rfl, rfl, rfl, rfl, rfl⟩
theorem be_b2 (n : Nat) (h : n < 65536) : be (beB 2 n) = n := by rw [be_beB]; exact Nat.mod_eq_of_lt h
theorem be_b4 (n : Nat) (h : n < 4294967296) : be (beB 4 n) = n := by rw [be_beB]; exact Nat.mod_eq_of_lt h
/-- What is laid is parsed. -/
theorem lay_parseG {w : World} {s : SegM} (hs : SegOk w s) (a b : Adr) (h : mayG s = true) : parseG a b (layG a b s) = (0, s.at none 0 none 0) := by
  have hsum := sumG_laid a b s
  have hl : layG a b s = bytesG s (ckG a b s) := by unfold layG; rw [if_pos h]
  rw [hl]
  have hlen := bytesG_len s (ckG a b s)
  have hfl := (mayG_data h).2
  have hlo := layO_le s.o
  have h4 := layO_four s.o hs.o.mac
  have hlay : layO s.o = bytesO s.o := by unfold layO; rw [if_pos (mayG_mayO h)]
  have hpo := lay_parse hs.o (mayG_mayO h)
  rw [← hlay] at hpo
  obtain ⟨x0, x1, x2, x3, x4, x5, x6, x7, x8, x9, xa, xb, y0, y1, z0, z1, z2, z3, z4, z5, e, e1, e2, e3, e4, e5, e6, e7, e8⟩ := bytesG_cons s (ckG a b s)
  have ho : offG (bytesG s (ckG a b s)) = 20 + (layO s.o).length := by
    unfold offG
    rw [e]
    show y0.toNat / 16 * 4 = _
    rw [e5, UInt8.toNat_ofNat']
    omega
  have hq : optG (bytesG s (ckG a b s)) = (0, { s.o with A := none, c := 0 }) := by
    unfold optG
    rw [ho, e]
    show parseO (((layO s.o ++ s.data)).take (20 + (layO s.o).length - 20)) = _
    rw [Nat.add_sub_cancel_left, List.take_left]
    exact hpo
  have hf : segF (bytesG s (ckG a b s)) { s.o with A := none, c := 0 } (20 + (layO s.o).length) = s.at none 0 none 0 := by
    unfold segF SegM.at
    have hd : (bytesG s (ckG a b s)).drop (20 + (layO s.o).length) = s.data := by
      rw [e, ← List.drop_drop]
      show (layO s.o ++ s.data).drop (layO s.o).length = _
      exact List.drop_left
    rw [hd]
    have g1 : be ((bytesG s (ckG a b s)).take 2) = s.src := by rw [e]; show be [x0, x1] = _; rw [e1]; exact be_b2 _ hs.src
    have g2 : be (((bytesG s (ckG a b s)).drop 2).take 2) = s.dst := by rw [e]; show be [x2, x3] = _; rw [e2]; exact be_b2 _ hs.dst
    have g3 : be (((bytesG s (ckG a b s)).drop 4).take 4) = s.seq := by rw [e]; show be [x4, x5, x6, x7] = _; rw [e3]; exact be_b4 _ hs.seq
    have g4 : be (((bytesG s (ckG a b s)).drop 8).take 4) = s.ack := by rw [e]; show be [x8, x9, xa, xb] = _; rw [e4]; exact be_b4 _ hs.ack
    have g5 : ((bytesG s (ckG a b s)).getD 13 0).toNat % 64 = s.flags := by rw [e]; show y1.toNat % 64 = _; rw [e6, UInt8.toNat_ofNat']; omega
    have g6 : be (((bytesG s (ckG a b s)).drop 14).take 2) = s.win := by rw [e]; show be [z0, z1] = _; rw [e7]; exact be_b2 _ hs.win
    have g7 : be (((bytesG s (ckG a b s)).drop 18).take 2) = s.urg := by rw [e]; show be [z4, z5] = _; rw [e8]; exact be_b2 _ hs.urg
    rw [g1, g2, g3, g4, g5, g6, g7]
  unfold parseG
  rw [if_neg (by omega), ho, if_neg (by omega), if_neg (by omega), if_neg (by rw [hsum]; simp), hq]
  simp only
  rw [if_neg (by simp), hf, if_pos (by rw [mayG_at]; exact h)]
theorem parseG_err {a b : Adr} {xs : List UInt8} (h : (parseG a b xs).1 ≠ 0) : (parseG a b xs).2 = noSegG := by
  unfold parseG at h ⊢
  split
  · rfl
  split
  · rfl
  split
  · rfl
  split
  · rfl
  split
  · rfl
  split
  · rename_i h1 h2 h3 h4 h5 h6
    rw [if_neg h1, if_neg h2, if_neg h3, if_neg h4, if_neg h5, if_pos h6] at h
    exact absurd rfl h
  · rfl
theorem parseG_may {a b : Adr} {xs : List UInt8} (h : (parseG a b xs).1 = 0) : mayG (parseG a b xs).2 = true := by
  unfold parseG at h ⊢
  split at h
  · cases h
  split at h
  · cases h
  split at h
  · cases h
  split at h
  · cases h
  split at h
  · rename_i h5
    exact absurd h h5
  split at h
  · rename_i h1 h2 h3 h4 h5 h6
    rw [if_neg h1, if_neg h2, if_neg h3, if_neg h4, if_neg h5, if_pos h6]
    exact h6
  · cases h
end Go.Proofs.Ythnidgiogjehkaa
namespace Go.Proofs.Ythnidgiogjehkaa
set_option linter.unusedVariables false
set_option linter.unusedSimpArgs false
set_option maxRecDepth 100000
open Go.RowKit

def farG (s : SegM) : Bool := (decide (1500 < s.data.length) && decide (s.data.length ≤ 16384)) || decide (500 < s.o.sacks.length) || decide (20000 < s.data.length)
theorem farG_no {s : SegM} (h : farG s = false) : s.o.sacks.length ≤ 500 ∧ s.data.length ≤ 20000 := by
  unfold farG at h
  simp only [Bool.or_eq_false_iff, decide_eq_false_iff_not] at h
  omega
set_option maxHeartbeats 2000000 in
theorem far13_any (s : SegM) (w : World) (hs : SegOk w s) : Calls Try.prog 9 #[.agg s.cells] w fun e w' => e = .returned (.bool (farG s)) ∧ Below w.heap.size w w' := by
  have f31 := s.data_at hs.o.mac
  have f12 : s.cells[12]? = some (.slice s.o.A s.o.sacks.length s.o.c) := by
    rw [show 12 = 7 + 5 by rfl, s.opt_at 5 (by rw [s.o.size hs.o.mac]; decide)]
    exact s.o.at _ _ rfl
  generalize hcs : s.cells = cs at f31 f12 ⊢
  obtain ⟨t, ht⟩ : ∃ t, decide (1500 < s.data.length) = t := ⟨_, rfl⟩
  obtain ⟨u, hu⟩ : ∃ u, decide (s.data.length ≤ 16384) = u := ⟨_, rfl⟩
  obtain ⟨v, hv⟩ : ∃ v, decide (500 < s.o.sacks.length) = v := ⟨_, rfl⟩
  obtain ⟨x, hx⟩ : ∃ x, decide (20000 < s.data.length) = x := ⟨_, rfl⟩
  have t2 : decide ((1500 : Int) < (s.data.length : Int)) = t := by rw [← ht, decide_eq_decide]; omega
  have u2 : decide ((s.data.length : Int) ≤ 16384) = u := by rw [← hu, decide_eq_decide]; omega
  have v2 : decide ((500 : Int) < (s.o.sacks.length : Int)) = v := by rw [← hv, decide_eq_decide]; omega
  have x2 : decide ((20000 : Int) < (s.data.length : Int)) = x := by rw [← hx, decide_eq_decide]; omega
  have HR := hid (show farG s = ((t && u) || v || x) by unfold farG; rw [ht, hu, hv, hx])
  generalize farG s = r at HR ⊢
  clear hcs hs
  cases t <;> cases u <;> cases v <;> cases x
  all_goals
    go_enter Try.func9, Try.ntmps9
    go_wp2_with fail
    go_ret
    exact ⟨by rw [HR.out]; rfl, bl1 _ _⟩
def alS : SegM := ⟨1, 2, 5, 0, 2, 0, 0, noOpt, none, 0, []⟩
theorem build_alS : ∀ w, (Instr.build 34 #[(0, .int .u16 1), (1, .int .u16 2), (2, .int .u32 5), (4, .int .u8 2)]).run Try.prog w = .ok (.agg alS.cells) w := by intro w; kernel_rfl
def adrZ : Adr := ⟨false, 0, 0, 0, 0, 0, 0, 0, 0, 0, 0, 0, 0, 0, 0, 0, 0⟩
theorem build_adrZ : ∀ w, (Instr.build 24 #[]).run Try.prog w = .ok (.agg adrZ.cells) w := by intro w; kernel_rfl
theorem alS_ok (w : World) (A D : Option Addr) (c dc : Nat) (h : SegOk w (alS.at A c D dc)) : True := trivial
theorem alS_okN (w : World) : SegOk w alS := by
  refine ⟨by decide, by decide, by decide, by decide, by decide, by decide, by decide, ⟨by decide, by decide, by decide, by decide, by decide, by decide, by decide, ⟨rfl, Nat.le_refl _, by decide, fun k v h => by simp [bcs, alS, noOpt] at h⟩, fun b h => by simp [alS, noOpt] at h⟩, ?_⟩
  exact RB.nil w
theorem alS_may : mayG alS = true := by decide +kernel
def alR : SegM := ⟨2, 1, 0, 6, 20, 0, 0, noOpt, none, 0, []⟩
theorem alS_len : lenG alS = 1 := by decide +kernel
theorem alS_reset (A D : Option Addr) (c dc : Nat) : resetG (alS.at A c D dc) = (alR, true) := by
  unfold resetG
  have f : (alS.at A c D dc).flags = 2 := rfl
  have l : lenG (alS.at A c D dc) = 1 := by
    have e : lenG (alS.at A c D dc) = lenG alS := rfl
    rw [e, alS_len]
  rw [f, l, show hasG 2 4 = false by decide +kernel, show hasG 2 16 = false by decide +kernel, if_neg (by simp), if_neg (by simp)]
  rfl
theorem alS_parse (a b : Adr) (w : World) : parseG a b (layG a b alS) = (0, alS) := by
  have h := lay_parseG (alS_okN w) a b alS_may
  exact h
theorem alS_layGE : layGE alS = 0 := by unfold layGE; rw [if_pos alS_may]
set_option maxHeartbeats 8000000 in
theorem alive13_any (w : World) : Calls Try.prog 10 #[] w fun e w' => e = .returned (.bool true) ∧ Below w.heap.size w w' := by
  have HBS := hid build_alS
  have HBA := hid build_adrZ
  have HLY := hid (fun W => layG_any adrZ adrZ alS W (alS_okN W) (by decide))
  have HPA := hid (fun v W (h : RB W v (layG adrZ adrZ alS)) => parseG_any adrZ adrZ v (layG adrZ adrZ alS) W h (by unfold layG; rw [if_pos alS_may, bytesG_len]; have := layO_le alS.o; have : alS.data.length = 0 := rfl; omega))
  have HLE := hid alS_layGE
  have HPE := hid (fun W => alS_parse adrZ adrZ W)
  have HRS := hid (fun A c D dc W (h : SegOk W (alS.at A c D dc)) => resetG_any (alS.at A c D dc) W h (by show 0 ≤ 1000000; omega))
  have HRE := hid alS_reset
  have HSM := hid (fun A c D dc W (h : SegOk W (alS.at A c D dc)) => sameG_any alS (alS.at A c D dc) W (alS_okN W) h)
  have HSE := hid (fun A c D dc => show sameS alS (alS.at A c D dc) = true from sameS_at alS _ _ _ _ _ _ _ _)
  have HLN := hid (fun W => lenG_any alS W (by decide) rfl (by decide))
  rw [alS_len] at HLN
  have HAL := hid alloc_noSegG
  have HIA := hid (info_segX alS rfl)
  have HIN := hid (fun A c D dc => info_segX (alS.at A c D dc) rfl)
  have HSZ := hid (fun (m : SegM) (h : m.o.mac.length = 12) => (show noSegG.cells.size = m.cells.size by rw [SegM.size noSegG rfl, SegM.size m h]))
  have HIR := hid (info_segX alR rfl)
  generalize noSegG.cells = nc at HAL HSZ
  have HSA := hid (HSZ.out alS rfl)
  obtain ⟨B, hB⟩ : ∃ B, w.heap.size = B := ⟨_, rfl⟩
  have HB := hid hB
  rw [hB]
  clear hB
  have HOA := hid (SegM.one alS)
  generalize hac : alS.cells = ac at HBS HLY HSM HLN HIA HSA HOA
  generalize adrZ.cells = az at HBA HLY HPA
  go_enter Try.func10, Try.ntmps10
  go_wp2_with (first
    | ((with_reducible refine at_slot 8 ?_); refine wpList_buildF rfl 34 _ rfl #[(0, .int .u16 1), (1, .int .u16 2), (2, .int .u32 5), (4, .int .u8 2)] (by simp [Act.eval, Act.put]) _ HBS.out ?_)
    | ((with_reducible refine at_slot 1 ?_); refine wpList_allocF rfl 34 rfl _ HAL.out ?_; intro w1 h1 hb1 s1)
    | ((with_reducible refine at_store 1 8 ?_); refine wpList_rowF rfl 34 (.tmp 1) (.tmp 8) rfl w.heap.size 34 _ ac rfl rfl h1 HIA.out HSA.out HOA.out ?_; intro w2 h2 m2 s2)
    | ((with_reducible refine at_build 24 ?_); refine wpList_buildF rfl 24 _ rfl #[] (by simp) _ HBA.out ?_)
    | ((with_reducible refine at_slot 12 ?_); refine wpList_load_row rfl 34 (.tmp 1) rfl w.heap.size rfl _ ac _ _ h2 Try.underlying34 rfl HIA.out ?_))
  have HB2 := hid (Mod.below hb1 m2 (Nat.le_refl _) (by simp))
  (with_reducible refine Calls.mono (HLY.out _) ?_)
  rintro e w3 ⟨A3, c3, rfl, ho3, hb3⟩
  rw [HLE.out]
  have H3 := hid ((hb3.block _ (Array.getElem?_eq_some_iff.1 h2).1).trans h2)
  have HB3 := hid (below_after HB2.out hb3 (Nat.le_refl _))
  have HO3 := hid ho3.rb
  clear hb3 ho3 h1 h2 hb1 m2 s1 s2 HB2 HLY HLE
  go_wp2_with (first
    | ((with_reducible refine at_build 24 ?_); refine wpList_buildF rfl 24 _ rfl #[] (by simp) _ HBA.out ?_))
  (with_reducible refine Calls.mono (HPA.out _ w3 HO3.out) ?_)
  rintro e w4 ⟨A4, c4, D4, d4, rfl, ho4, hb4⟩
  rw [HPE.out w] at ho4 ⊢
  dsimp only at ho4 ⊢
  have H4 := hid ((hb4.block _ (Array.getElem?_eq_some_iff.1 H3.out).1).trans H3.out)
  have HB4 := hid (below_after HB3.out hb4 (Nat.le_refl _))
  have HIX := hid (HIN.out A4 c4 D4 d4)
  have HSX := hid (HSZ.out (alS.at A4 c4 D4 d4) rfl)
  have HOX := hid (SegM.one (alS.at A4 c4 D4 d4))
  have HR4 := hid (fun W (h : Below w4.heap.size w4 W) => HRS.out A4 c4 D4 d4 W (ho4.below h))
  have HS4 := hid (fun W (h : Below w4.heap.size w4 W) => HSM.out A4 c4 D4 d4 W (ho4.below h))
  have HE4 := hid (HRE.out A4 D4 c4 d4)
  have HQ4 := hid (HSE.out A4 c4 D4 d4)
  clear hb4 ho4 H3 HB3 HO3 HPA HPE HRS HSM HRE HSE HIN
  generalize (alS.at A4 c4 D4 d4).cells = xc at *
  go_upto_region 4 with (first
    | ((with_reducible refine at_slot 4 ?_); refine wpList_allocF rfl 34 rfl _ HAL.out ?_; intro w5 h5 hb5 s5)
    | ((with_reducible refine at_store 4 21 ?_); refine wpList_rowF rfl 34 (.tmp 4) (.tmp 21) rfl w4.heap.size 34 _ xc rfl rfl h5 HIX.out HSX.out HOX.out ?_; intro w6 h6 m6 s6; (have hb6 : Below w4.heap.size w4 w6 := m6.below hb5 (Nat.le_refl _) (by simp))))
  have H6 := hid ((hb6.block _ (Array.getElem?_eq_some_iff.1 H4.out).1).trans H4.out)
  have HX6 := hid h6
  have HB6 := hid (below_after HB4.out hb6 (Nat.le_refl _))
  have hb6' := hid hb6
  obtain ⟨g4, hg4⟩ : ∃ x, w4.heap.size = x := ⟨_, rfl⟩
  simp only [hg4] at HX6 ⊢
  clear h5 hb5 s5 h6 m6 s6 hb6 H4 HB4
  have hx6 := HX6.out
  go_wp2_with (first
    | ((with_reducible refine at_slot 24 ?_); refine wpList_load_row rfl 34 (.tmp 4) rfl g4 rfl _ xc _ _ hx6 Try.underlying34 rfl HIX.out ?_))
  (with_reducible refine Calls.mono (HR4.out _ hb6'.out) ?_)
  rw [HE4.out]
  rintro e w7 ⟨rfl, hb7⟩
  have H7 := hid ((hb7.block _ (Array.getElem?_eq_some_iff.1 H6.out).1).trans H6.out)
  have HX7 := hid ((hb7.block _ (Array.getElem?_eq_some_iff.1 HX6.out).1).trans HX6.out)
  have HB7 := hid (below_after HB6.out hb7 (Nat.le_refl _))
  have hb7' := hid (hb6'.out.trans (hb7.mono (by rw [hg4]; exact Nat.le_of_lt (Array.getElem?_eq_some_iff.1 HX6.out).1)))
  clear hb7 H6 HX6 HB6 hb6' hx6 HR4 HE4
  have HIRs := hid (HSZ.out alR rfl)
  have HOR := hid (SegM.one alR)
  go_upto_region 5 with (first
    | ((with_reducible refine at_slot 6 ?_); refine wpList_allocF rfl 34 rfl _ HAL.out ?_; intro w8 h8 hb8 s8)
    | ((with_reducible refine at_store 6 26 ?_); refine wpList_rowF rfl 34 (.tmp 6) (.tmp 26) rfl w7.heap.size 34 _ alR.cells rfl rfl h8 HIR.out HIRs.out HOR.out ?_; intro w9 h9 m9 s9; (have hb9 : Below w7.heap.size w7 w9 := m9.below hb8 (Nat.le_refl _) (by simp))))
  have H9 := hid ((hb9.block _ (Array.getElem?_eq_some_iff.1 H7.out).1).trans H7.out)
  have HX9 := hid ((hb9.block _ (Array.getElem?_eq_some_iff.1 HX7.out).1).trans HX7.out)
  have HB9 := hid (below_after HB7.out hb9 (Nat.le_refl _))
  have hb9' := hid (hb7'.out.trans (hb9.mono (by rw [hg4]; exact Nat.le_of_lt (Array.getElem?_eq_some_iff.1 HX7.out).1)))
  have HY9 := hid h9
  obtain ⟨g7, hg7⟩ : ∃ x, w7.heap.size = x := ⟨_, rfl⟩
  simp only [hg7] at HY9 ⊢
  clear h8 hb8 s8 h9 m9 s9 hb9 H7 HX7 HB7 hb7'
  have h9 := H9.out
  have hx9 := HX9.out
  go_wp2_with (first
    | ((with_reducible refine at_slot 35 ?_); refine wpList_rowG (by rfl) 34 (.tmp 1) rfl w.heap.size rfl _ ac _ h9 Try.underlying34 rfl HIA.out ?_)
    | ((with_reducible refine at_slot 36 ?_); refine wpList_rowG (by rfl) 34 (.tmp 4) rfl g4 rfl _ xc _ hx9 Try.underlying34 rfl HIX.out ?_))
  (with_reducible refine Calls.mono (HS4.out _ hb9'.out) ?_)
  rw [HQ4.out]
  rintro e w10 ⟨rfl, hb10⟩
  have h10 := (hb10.block _ (Array.getElem?_eq_some_iff.1 H9.out).1).trans H9.out
  have hy10 := (hb10.block _ (Array.getElem?_eq_some_iff.1 HY9.out).1).trans HY9.out
  have HB10 := hid (below_after HB9.out hb10 (Nat.le_refl _))
  have k3 : w10.cell? ⟨g7, 3, none⟩ = some (.int .u32 6) := (seg_cells hy10 rfl).2.2.2.1
  have k4 : w10.cell? ⟨g7, 4, none⟩ = some (.int .u8 20) := (seg_cells hy10 rfl).2.2.2.2.1
  clear hb10 hy10 H9 HX9 HB9 hb9' HY9 h9 hx9 HS4 HQ4
  go_wp2_with (first
    | ((with_reducible refine at_slot 53 ?_); refine wpList_rowG (by rfl) 34 (.tmp 1) rfl w.heap.size rfl _ ac _ h10 Try.underlying34 rfl HIA.out ?_))
  (refine Calls.mono (HLN.out _) ?_)
  rintro e w11 ⟨rfl, hb11⟩
  go_wp2_with fail
  go_ret
  exact ⟨rfl, by rw [← HB.out]; exact below_after HB10.out hb11 (Nat.le_refl _)⟩
end Go.Proofs.Ythnidgiogjehkaa
namespace Go.Proofs.Ythnidgiogjehkaa
set_option linter.unusedVariables false
set_option linter.unusedSimpArgs false
set_option maxRecDepth 100000
open Go.RowKit

theorem pair_lG (s d : Adr) : ∀ (j : Nat) (u : Value), s.cells[j]? = some u → (s.cells ++ d.cells)[0 + j]? = some u := by
  intro j u h
  have hj := (Array.getElem?_eq_some_iff.1 h).1
  rw [Nat.zero_add, Array.getElem?_append_left hj]
  exact h
theorem pair_rG (s d : Adr) : ∀ (j : Nat) (u : Value), d.cells[j]? = some u → (s.cells ++ d.cells)[17 + j]? = some u := by
  intro j u h
  have hs : s.cells.size = 17 := rfl
  rw [Array.getElem?_append_right (by omega), hs, Nat.add_sub_cancel_left]
  exact h
theorem keepB {w w' : World} {b : Nat} {o : Obj} (h : w.heap[b]? = some o) (hb : Below w.heap.size w w') : w'.heap[b]? = some o := (hb.block b (Array.getElem?_eq_some_iff.1 h).1).trans h
theorem keepS {w w' : World} {b : Nat} {cs : Array Value} {T : TypeId} {fz : Nat × Nat} (h : w.heap[b]? = some (.cells cs T fz)) (hb : Below w.heap.size w w') : w'.heap[b]? = some (.cells cs T fz) := keepB h hb
set_option maxHeartbeats 8000000 in
theorem lawBackG_any (a b : Adr) (s : SegM) (w : World) (hs : SegOk w s) :
    Calls Try.prog 5 #[.agg (a.cells ++ b.cells), .agg s.cells] w fun e w' => e = .returned (.bool true) ∧ Below w.heap.size w w' := by
  have HFR := hid (fun W (h : Below w.heap.size w W) => far13_any s W (hs.below h))
  have HLY := hid (fun (hf : farG s = false) W (h : Below w.heap.size w W) => layG_any a b s W (hs.below h) (by have := (farG_no hf).1; omega))
  have HMY := hid (fun (hf : farG s = false) W (h : Below w.heap.size w W) => mayG_any s W (hs.below h) (by have := (farG_no hf).1; omega))
  have HPA := hid (fun (hf : farG s = false) v W (h : RB W v (layG a b s)) => parseG_any a b v (layG a b s) W h (by unfold layG; split; (rw [bytesG_len]; have := layO_le s.o; have := (farG_no hf).2; omega); simp))
  have HPE := hid (fun (h : mayG s = true) => lay_parseG hs a b h)
  have HSM := hid (fun A c D dc W W' (h : SegOk W (s.at A c D dc)) (h1 : Below w.heap.size w W') (h2 : Below W.heap.size W W') => sameG_any s (s.at A c D dc) W' (hs.below h1) (h.below h2))
  have HSE := hid (fun A c D dc => show sameS s (s.at A c D dc) = true from sameS_at s _ _ _ _ _ _ _ _)
  have HAL := hid alloc_noSegG
  have HIS := hid (info_segX s hs.o.mac)
  have HIN := hid (fun A c D dc => info_segX (s.at A c D dc) hs.o.mac)
  have HSZ := hid (fun A c D dc => (show noSegG.cells.size = (s.at A c D dc).cells.size by rw [SegM.size noSegG rfl, SegM.size (s.at A c D dc) hs.o.mac]))
  have PL := hid (fun (W : World) (h : W.heap[w.heap.size]? = some (.cells (a.cells ++ b.cells) 25 (0, 0))) => cells_part (o := 0) h (pair_lG a b))
  have PR := hid (fun (W : World) (h : W.heap[w.heap.size]? = some (.cells (a.cells ++ b.cells) 25 (0, 0))) => cells_part (o := 17) h (pair_rG a b))
  generalize noSegG.cells = nc at HAL HSZ
  generalize hcs : s.cells = cs at HFR HLY HMY HSM HIS ⊢
  generalize a.cells ++ b.cells = ab at PL PR ⊢
  obtain ⟨t, ht⟩ : ∃ t, farG s = t := ⟨_, rfl⟩
  rw [ht] at HFR
  clear hcs hs
  go_enter Try.func5, Try.ntmps5
  go_wp2_with (first
    | ((with_reducible refine at_slot 2 ?_); refine wpList_boxF rfl 25 (.tmp 0) rfl ab rfl ?_; intro w1 hp1 hb1 hz1)
    | ((with_reducible refine at_slot 3 ?_); refine wpList_boxF rfl 34 (.tmp 1) rfl cs rfl ?_; intro w2 h2 hb2 hz2; simp only [hz1] at h2 hb2 hz2 ⊢; (have hp2 := (hb2.block w.heap.size (by omega)).trans hp1); (have HB2 := hid (hb1.trans (hb2.mono (by omega)))))
    | ((with_reducible refine at_slot 9 ?_); refine wpList_load_row rfl 34 (.tmp 3) rfl (w.heap.size + 1) rfl _ cs _ _ h2 Try.underlying34 rfl HIS.out ?_))
  (with_reducible refine Calls.mono (HFR.out _ HB2.out) ?_)
  rintro e w3 ⟨rfl, hb3⟩
  have hp3 := keepS hp2 hb3
  have h3 := keepS h2 hb3
  have HB3 := hid (below_after HB2.out hb3 (Nat.le_refl _))
  clear hp1 hp2 hb1 hb2 hb3 h2 HB2 hz1 hz2 HFR
  cases t
  rotate_left 1
  · go_wp2_with fail
    (with_reducible refine Calls.mono (alive13_any _) ?_)
    rintro e w4 ⟨rfl, hb4⟩
    go_wp2_with fail
    go_ret
    exact ⟨rfl, below_after HB3.out hb4 (Nat.le_refl _)⟩
  go_wp2_with (first
    | ((with_reducible refine at_slot 14 ?_); refine wpList_load_at 24 (.tmp 13) rfl rfl ⟨w.heap.size, 0, none⟩ rfl a.cells _ (PL.out _ hp3) Try.underlying24 rfl (info_addr a) ?_)
    | ((with_reducible refine at_slot 16 ?_); refine wpList_load_at 24 (.tmp 15) rfl rfl ⟨w.heap.size, 17, none⟩ rfl b.cells _ (PR.out _ hp3) Try.underlying24 rfl (info_addr b) ?_)
    | ((with_reducible refine at_slot 17 ?_); refine wpList_load_row rfl 34 (.tmp 3) rfl (w.heap.size + 1) rfl _ cs _ _ h3 Try.underlying34 rfl HIS.out ?_))
  (with_reducible refine Calls.mono (HLY.out ht _ HB3.out) ?_)
  rintro e w4 ⟨A4, c4, rfl, ho4, hb4⟩
  have hp4 := keepS hp3 hb4
  have h4 := keepS h3 hb4
  have HB4 := hid (below_after HB3.out hb4 (Nat.le_refl _))
  have HO4 := hid ho4.rb
  clear hp3 h3 hb4 ho4 HB3 HLY
  have HMB := hid (HMY.out ht)
  have HPB := hid (HPA.out ht)
  clear HMY HPA
  obtain ⟨tm, htm⟩ : ∃ t, mayG s = t := ⟨_, rfl⟩
  have HTM := hid htm
  have hge : layGE s = if tm then 0 else 1 := by unfold layGE; rw [htm]
  have hgl : tm = false → layG a b s = [] := by intro h; unfold layG; rw [htm, h]; rfl
  rw [hge]
  rw [htm] at HMB HPE
  clear hge htm
  cases tm
  · simp only [Bool.false_eq_true, if_false]
    have hgl2 := hgl (by trivial)
    rw [hgl2]
    clear hgl hgl2 HPB HO4 HPE
    go_wp2_with (first
      | ((with_reducible refine at_slot 27 ?_); refine wpList_rowG (by rfl) 34 (.tmp 3) rfl (w.heap.size + 1) rfl _ cs _ h4 Try.underlying34 rfl HIS.out ?_))
    (with_reducible refine Calls.mono (HMB.out _ HB4.out) ?_)
    rintro e w5 ⟨rfl, hb5⟩
    go_wp2_with fail
    (with_reducible refine Calls.mono (alive13_any _) ?_)
    rintro e w6 ⟨rfl, hb6⟩
    go_wp2_with fail
    go_ret
    exact ⟨rfl, below_after (below_after HB4.out hb5 (Nat.le_refl _)) hb6 (Nat.le_refl _)⟩
  · simp only [if_true]
    have hpe := HPE.out (by trivial)
    clear hgl HMB
    generalize layG a b s = lb at *
    go_wp2_with (first
      | ((with_reducible refine at_slot 36 ?_); refine wpList_load_at 24 (.tmp 35) rfl rfl ⟨w.heap.size, 0, none⟩ rfl a.cells _ (PL.out _ hp4) Try.underlying24 rfl (info_addr a) ?_)
      | ((with_reducible refine at_slot 38 ?_); refine wpList_load_at 24 (.tmp 37) rfl rfl ⟨w.heap.size, 17, none⟩ rfl b.cells _ (PR.out _ hp4) Try.underlying24 rfl (info_addr b) ?_))
    (with_reducible refine Calls.mono (HPB.out _ _ HO4.out) ?_)
    rintro e w5 ⟨A5, c5, D5, d5, rfl, ho5, hb5⟩
    rw [hpe] at ho5 ⊢
    dsimp only at ho5 ⊢
    have h5 := keepS h4 hb5
    have HB5 := hid (below_after HB4.out hb5 (Nat.le_refl _))
    have HO5 := hid ho5
    have hat : (s.at none 0 none 0).at A5 c5 D5 d5 = s.at A5 c5 D5 d5 := rfl
    rw [hat] at HO5 ⊢
    clear hp4 h4 hb5 ho5 HB4 HO4 hpe hat HPB
    have HIX := hid (HIN.out A5 c5 D5 d5)
    have HSX := hid (HSZ.out A5 c5 D5 d5)
    have HOX := hid (SegM.one (s.at A5 c5 D5 d5))
    have HS5 := hid (HSM.out A5 c5 D5 d5 w5)
    have HQ5 := hid (HSE.out A5 c5 D5 d5)
    generalize (s.at A5 c5 D5 d5).cells = xc at *
    go_upto_region 7 with (first
      | ((with_reducible refine at_slot 7 ?_); refine wpList_allocF rfl 34 rfl _ HAL.out ?_; intro w6 h6 hb6 s6)
      | ((with_reducible refine at_store 7 41 ?_); refine wpList_rowF rfl 34 (.tmp 7) (.tmp 41) rfl w5.heap.size 34 _ xc rfl rfl h6 HIX.out HSX.out HOX.out ?_; intro w7 h7 m7 s7; (have hb7 : Below w5.heap.size w5 w7 := m7.below hb6 (Nat.le_refl _) (by simp))))
    have hs7 := keepS h5 hb7
    have HB7 := hid (below_after HB5.out hb7 (Nat.le_refl _))
    have HS7 := hid (HS5.out w7 HO5.out HB7.out hb7)
    obtain ⟨g, hg⟩ : ∃ x, w5.heap.size = x := ⟨_, rfl⟩
    simp only [hg] at h7 ⊢
    clear h5 HB5 HS5 HO5 h6 hb6 s6 m7 s7 hb7 hg
    go_wp2_with (first
      | ((with_reducible refine at_slot 46 ?_); refine wpList_rowG (by rfl) 34 (.tmp 3) rfl (w.heap.size + 1) rfl _ cs _ hs7 Try.underlying34 rfl HIS.out ?_)
      | ((with_reducible refine at_slot 47 ?_); refine wpList_rowG (by rfl) 34 (.tmp 7) rfl g rfl _ xc _ h7 Try.underlying34 rfl HIX.out ?_))
    (with_reducible refine Calls.mono HS7.out ?_)
    rw [HQ5.out]
    rintro e w8 ⟨rfl, hb8⟩
    go_wp2_with fail
    (with_reducible refine Calls.mono (alive13_any _) ?_)
    rintro e w9 ⟨rfl, hb9⟩
    go_wp2_with fail
    go_ret
    exact ⟨rfl, below_after (below_after HB7.out hb8 (Nat.le_refl _)) hb9 (Nat.le_refl _)⟩
theorem noSegG_same (A D : Option Addr) (c dc : Nat) : sameS (noSegG.at A c D dc) noSegG = true := sameS_at noSegG A D none none c dc 0 0
set_option maxHeartbeats 8000000 in
theorem lawAgainG_any (a b : Adr) (v : Value) (xs : List UInt8) (w : World) (hx : RB w v xs) :
    Calls Try.prog 6 #[.agg (a.cells ++ b.cells), v] w fun e w' => e = .returned (.bool true) ∧ Below w.heap.size w w' := by
  obtain ⟨A0, c0, rfl, hrow⟩ := hx
  have HBR := hid (show RB w (.slice A0 xs.length c0) xs from ⟨A0, c0, rfl, hrow⟩)
  have hcap := hrow.cap
  have htop := hrow.top
  clear hrow
  have HP1 := hid (fun (h : xs.length ≤ 2000) W (hb : Below w.heap.size w W) => parseG_any a b (.slice A0 xs.length c0) xs W (HBR.out.below hb) (by omega))
  have HER := hid (fun (h : (parseG a b xs).1 ≠ 0) => parseG_err h)
  have HMP := hid (fun (h : (parseG a b xs).1 = 0) => parseG_may h)
  have HAL := hid alloc_noSegG
  have HBN := hid build_noSegG
  have HSN := hid (SegM.size noSegG rfl)
  have HNS := hid (fun A c D dc W W' (h : SegOk W (noSegG.at A c D dc)) (h1 : Below W.heap.size W W') => sameG_any (noSegG.at A c D dc) noSegG W' (h.below h1) (noSegG_ok W'))
  have HNE := hid noSegG_same
  have PL := hid (fun (W : World) (h : W.heap[w.heap.size]? = some (.cells (a.cells ++ b.cells) 25 (0, 0))) => cells_part (o := 0) h (pair_lG a b))
  have PR := hid (fun (W : World) (h : W.heap[w.heap.size]? = some (.cells (a.cells ++ b.cells) 25 (0, 0))) => cells_part (o := 17) h (pair_rG a b))
  generalize hncE : noSegG.cells = nc at HAL HSN HBN HNS
  have HNC := hid hncE
  clear hncE
  generalize a.cells ++ b.cells = ab at PL PR ⊢
  obtain ⟨t, ht⟩ : ∃ t, decide (2000 < xs.length) = t := ⟨_, rfl⟩
  have ht2 : decide ((2000 : Int) < (xs.length : Int)) = t := by rw [← ht, decide_eq_decide]; omega
  go_enter Try.func6, Try.ntmps6
  go_upto_region 1 with (first
    | ((with_reducible refine at_slot 2 ?_); refine wpList_boxF rfl 25 (.tmp 0) rfl ab rfl ?_; intro w1 hp1 hb1 hz1))
  have HB1 := hid hb1
  clear hb1 hz1
  cases t
  rotate_left 1
  · go_wp2_with fail
    (with_reducible refine Calls.mono (alive13_any _) ?_)
    rintro e w4 ⟨rfl, hb4⟩
    go_wp2_with fail
    go_ret
    exact ⟨rfl, below_after HB1.out hb4 (Nat.le_refl _)⟩
  have hle : xs.length ≤ 2000 := by have := of_decide_eq_false ht; omega
  go_wp2_with (first
    | ((with_reducible refine at_slot 17 ?_); refine wpList_load_at 24 (.tmp 16) rfl rfl ⟨w.heap.size, 0, none⟩ rfl a.cells _ (PL.out _ hp1) Try.underlying24 rfl (info_addr a) ?_)
    | ((with_reducible refine at_slot 19 ?_); refine wpList_load_at 24 (.tmp 18) rfl rfl ⟨w.heap.size, 17, none⟩ rfl b.cells _ (PR.out _ hp1) Try.underlying24 rfl (info_addr b) ?_))
  (with_reducible refine Calls.mono (HP1.out hle _ HB1.out) ?_)
  rintro e w2 ⟨A2, c2, D2, d2, rfl, ho2, hb2⟩
  have hp2 := keepS hp1 hb2
  have HB2 := hid (below_after HB1.out hb2 (Nat.le_refl _))
  clear hp1 hb2 HB1 HP1 ht
  generalize parseG a b xs = r at *
  obtain ⟨er, p⟩ := r
  dsimp only at HER HMP ho2 ⊢
  have hmac : (p.at A2 c2 D2 d2).o.mac.length = 12 := ho2.o.mac
  have HIX := hid (info_segX (p.at A2 c2 D2 d2) hmac)
  have HSX := hid (show nc.size = (p.at A2 c2 D2 d2).cells.size by rw [HSN.out, SegM.size (p.at A2 c2 D2 d2) hmac])
  have HOX := hid (SegM.one (p.at A2 c2 D2 d2))
  have HO2 := hid ho2
  obtain ⟨xc, hxc⟩ : ∃ x, (p.at A2 c2 D2 d2).cells = x := ⟨_, rfl⟩
  have HXC := hid hxc
  rw [hxc] at HIX HSX HOX ⊢
  clear ho2 hmac hxc
  go_upto_region 4 with (first
    | ((with_reducible refine at_slot 5 ?_); refine wpList_allocF rfl 34 rfl _ HAL.out ?_; intro w3 h3 hb3 s3)
    | ((with_reducible refine at_store 5 22 ?_); refine wpList_rowF rfl 34 (.tmp 5) (.tmp 22) rfl w2.heap.size 34 _ xc rfl rfl h3 HIX.out HSX.out HOX.out ?_; intro w4 h4 m4 s4; (have hb4 : Below w2.heap.size w2 w4 := m4.below hb3 (Nat.le_refl _) (by simp))))
  have hp4 := keepS hp2 hb4
  have HB4 := hid (below_after HB2.out hb4 (Nat.le_refl _))
  have HO4 := hid (HO2.out.below hb4)
  obtain ⟨g, hg⟩ : ∃ x, w2.heap.size = x := ⟨_, rfl⟩
  simp only [hg] at h4 ⊢
  clear hp2 h3 hb3 s3 m4 s4 hb4 HB2 HO2 hg
  by_cases hz : er = 0
  · subst hz
    have hmay := HMP.out (by trivial)
    have hmay2 := mayG_at p A2 D2 c2 d2
    rw [hmay] at hmay2
    have hsk : (p.at A2 c2 D2 d2).o.sacks.length ≤ 4 := ((mayO_iff _).1 (mayG_mayO hmay2)).2.2.1
    have HLY := hid (fun W (h : Below w4.heap.size w4 W) => layG_any a b (p.at A2 c2 D2 d2) W (HO4.out.below h) (by omega))
    have HMY := hid (fun W (h : Below w4.heap.size w4 W) => mayG_any (p.at A2 c2 D2 d2) W (HO4.out.below h) (by omega))
    rw [hmay2] at HMY
    have HGE := hid (show layGE (p.at A2 c2 D2 d2) = 0 by unfold layGE; rw [if_pos hmay2])
    have HPE := hid (lay_parseG HO4.out a b hmay2)
    have hll : (layG a b (p.at A2 c2 D2 d2)).length ≤ 900000 := by
      unfold layG
      rw [if_pos hmay2, bytesG_len]
      have := layO_le (p.at A2 c2 D2 d2).o
      have := (mayG_data hmay2).1
      omega
    have HPA := hid (fun v W (h : RB W v (layG a b (p.at A2 c2 D2 d2))) => parseG_any a b v (layG a b (p.at A2 c2 D2 d2)) W h hll)
    have HSM := hid (fun A c D dc W W' (h : SegOk W (p.at A c D dc)) (h1 : Below w4.heap.size w4 W') (h2 : Below W.heap.size W W') => sameG_any (p.at A2 c2 D2 d2) (p.at A c D dc) W' (HO4.out.below h1) (h.below h2))
    have HSE := hid (fun A c D dc => sameS_at p A2 D2 A D c2 d2 c dc)
    rw [HXC.out] at HLY HMY HSM
    clear HER HMP hmay hmay2 hsk hll HNS HNE
    go_wp2_with (first
      | ((with_reducible refine at_slot 34 ?_); refine wpList_load_at 24 (.tmp 33) rfl rfl ⟨w.heap.size, 0, none⟩ rfl a.cells _ (PL.out _ hp4) Try.underlying24 rfl (info_addr a) ?_)
      | ((with_reducible refine at_slot 36 ?_); refine wpList_load_at 24 (.tmp 35) rfl rfl ⟨w.heap.size, 17, none⟩ rfl b.cells _ (PR.out _ hp4) Try.underlying24 rfl (info_addr b) ?_)
      | ((with_reducible refine at_slot 37 ?_); refine wpList_load_row rfl 34 (.tmp 5) rfl g rfl _ xc _ _ h4 Try.underlying34 rfl HIX.out ?_))
    (with_reducible refine Calls.mono (HLY.out _ (Below.refl _ _)) ?_)
    rintro e w5 ⟨A5, c5, rfl, ho5, hb5⟩
    rw [HGE.out]
    have hp5 := keepS hp4 hb5
    have h5 := keepS h4 hb5
    have HB5 := hid (below_after HB4.out hb5 (Nat.le_refl _))
    have HG5 := hid hb5
    have HR5 := hid ho5.rb
    clear hp4 h4 hb5 ho5 HB4 HLY HGE
    generalize layG a b (p.at A2 c2 D2 d2) = lb at *
    go_wp2_with (first
      | ((with_reducible refine at_slot 43 ?_); refine wpList_load_at 24 (.tmp 42) rfl rfl ⟨w.heap.size, 0, none⟩ rfl a.cells _ (PL.out _ hp5) Try.underlying24 rfl (info_addr a) ?_)
      | ((with_reducible refine at_slot 45 ?_); refine wpList_load_at 24 (.tmp 44) rfl rfl ⟨w.heap.size, 17, none⟩ rfl b.cells _ (PR.out _ hp5) Try.underlying24 rfl (info_addr b) ?_))
    (with_reducible refine Calls.mono (HPA.out _ _ HR5.out) ?_)
    rintro e w6 ⟨A6, c6, D6, d6, rfl, ho6, hb6⟩
    rw [HPE.out] at ho6 ⊢
    dsimp only at ho6 ⊢
    have hat : ((p.at A2 c2 D2 d2).at none 0 none 0).at A6 c6 D6 d6 = p.at A6 c6 D6 d6 := rfl
    rw [hat] at ho6 ⊢
    have h6 := keepS h5 hb6
    have HB6 := hid (below_after HB5.out hb6 (Nat.le_refl _))
    have HG6 := hid (below_after HG5.out hb6 (Nat.le_refl _))
    have HO6 := hid ho6
    have hmac6 : (p.at A6 c6 D6 d6).o.mac.length = 12 := ho6.o.mac
    clear hp5 h5 hb6 ho6 HB5 HG5 HR5 HPA HPE hat
    have HIY := hid (info_segX (p.at A6 c6 D6 d6) hmac6)
    have HSY := hid (show nc.size = (p.at A6 c6 D6 d6).cells.size by rw [HSN.out, SegM.size (p.at A6 c6 D6 d6) hmac6])
    have HOY := hid (SegM.one (p.at A6 c6 D6 d6))
    have HS6 := hid (HSM.out A6 c6 D6 d6 w6)
    have HQ6 := hid (HSE.out A6 c6 D6 d6)
    generalize (p.at A6 c6 D6 d6).cells = yc at *
    go_upto_region 8 with (first
      | ((with_reducible refine at_slot 9 ?_); refine wpList_allocF rfl 34 rfl _ HAL.out ?_; intro w7 h7 hb7 s7)
      | ((with_reducible refine at_store 9 48 ?_); refine wpList_rowF rfl 34 (.tmp 9) (.tmp 48) rfl w6.heap.size 34 _ yc rfl rfl h7 HIY.out HSY.out HOY.out ?_; intro w8 h8 m8 s8; (have hb8 : Below w6.heap.size w6 w8 := m8.below hb7 (Nat.le_refl _) (by simp))))
    have hs8 := keepS h6 hb8
    have HB8 := hid (below_after HB6.out hb8 (Nat.le_refl _))
    have HG8 := hid (below_after HG6.out hb8 (Nat.le_refl _))
    have HW8 := hid hb8
    have HM8 := hid (HMY.out w8 HG8.out)
    have HY8 := hid h8
    obtain ⟨g9, hg9⟩ : ∃ x, w6.heap.size = x := ⟨_, rfl⟩
    have HG9 := hid hg9
    simp only [hg9] at HY8 ⊢
    clear h6 HB6 HG6 h7 hb7 s7 m8 s8 hb8 hg9 h8 HMY
    go_wp2_with (first
      | ((with_reducible refine at_slot 50 ?_); refine wpList_load_row rfl 34 (.tmp 5) rfl g rfl _ xc _ _ hs8 Try.underlying34 rfl HIX.out ?_))
    (with_reducible refine Calls.mono HM8.out ?_)
    rintro e w9 ⟨rfl, hb9⟩
    have h9 := keepS hs8 hb9
    have hy9 := keepS HY8.out hb9
    have HB9 := hid (below_after HB8.out hb9 (Nat.le_refl _))
    have HS9 := hid (HS6.out w9 HO6.out (below_after HG8.out hb9 (Nat.le_refl _)) (below_after HW8.out hb9 (Nat.le_refl _)))
    clear hs8 HY8 hb9 HB8 HG8 HW8 HM8 HS6
    go_wp2_with (first
      | ((with_reducible refine at_slot 61 ?_); refine wpList_rowG (by rfl) 34 (.tmp 5) rfl g rfl _ xc _ h9 Try.underlying34 rfl HIX.out ?_)
      | ((with_reducible refine at_slot 62 ?_); refine wpList_rowG (by rfl) 34 (.tmp 9) rfl g9 rfl _ yc _ hy9 Try.underlying34 rfl HIY.out ?_))
    (with_reducible refine Calls.mono HS9.out ?_)
    rw [HQ6.out]
    rintro e wa ⟨rfl, hba⟩
    go_wp2_with fail
    (with_reducible refine Calls.mono (alive13_any _) ?_)
    rintro e wb ⟨rfl, hbb⟩
    go_wp2_with fail
    go_ret
    exact ⟨rfl, below_after (below_after HB9.out hba (Nat.le_refl _)) hbb (Nat.le_refl _)⟩
  · have b1 : ((er : Int) == 0) = false := by rw [beq_eq_false_iff_ne]; omega
    have b2 : ((er : Int) != 0) = true := by rw [bne_iff_ne]; omega
    obtain rfl : p = noSegG := HER.out hz
    have HS4 := hid (HNS.out A2 c2 D2 d2 w4 w4 HO4.out (Below.refl _ _))
    rw [HXC.out, HNE.out] at HS4
    clear HER HMP hz
    go_wp2_with (first
      | ((with_reducible refine at_slot 26 ?_); refine wpList_load_row rfl 34 (.tmp 5) rfl g rfl _ xc _ _ h4 Try.underlying34 rfl HIX.out ?_)
      | ((with_reducible refine at_build 34 ?_); refine wpList_buildF rfl 34 _ rfl #[] (by simp) _ HBN.out ?_))
    (with_reducible refine Calls.mono HS4.out ?_)
    rintro e w5 ⟨rfl, hb5⟩
    go_wp2_with fail
    (with_reducible refine Calls.mono (alive13_any _) ?_)
    rintro e w6 ⟨rfl, hb6⟩
    go_wp2_with fail
    go_ret
    exact ⟨rfl, below_after (below_after HB4.out hb5 (Nat.le_refl _)) hb6 (Nat.le_refl _)⟩
end Go.Proofs.Ythnidgiogjehkaa
