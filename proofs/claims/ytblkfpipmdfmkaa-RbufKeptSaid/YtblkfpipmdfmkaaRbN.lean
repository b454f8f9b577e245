/- The law RbufKept, layer 26. -/
import Derived.Test.YtblkfpipmdfmkaaRbM
import Derived.Test.YtblkfpipmdfmkaaRbF
namespace Go.Proofs.Ytblkfpipmdfmkaa
set_option linter.unusedVariables false
set_option linter.unusedSimpArgs false
open Go.RowKit

def StpB.blk (s : StpB) : Obj := .cells s.cells.toArray 34
theorem farN_len {ss : List StpB} {k : Nat} (hk : k < ss.length) (h : ¬ 3000 < farN ss) : (ss.getD k default).p.length ≤ 3000 := by
  have e : ss.getD k default = ss[k] := by simp [List.getD_eq_getElem?_getD, List.getElem?_eq_getElem hk]
  have := farN_mem ss ss[k] (List.getElem_mem hk)
  rw [e]
  omega
/-- What region 18 asks: the buffer's Len and Next are what was counted. -/
theorem kept_len (m : BufP) (I r : Nat) (h : m.n + r = I) : ((m.n : Int) == (I : Int) - (r : Int)) = true := by
  rw [beq_iff_eq]; omega
set_option maxRecDepth 20000 in
set_option maxHeartbeats 8000000 in
theorem lawKept_any (room next : Nat) (A : Option Addr) (c : Nat) (ss : List StpB) (w : World) (hroom : room < 65536) (hnext : next < 4294967296) (h : BRow w A c ss) :
    Calls Try.prog 3 #[.int .u16 (room : Int), .int .u32 (next : Int), .slice A ss.length c] w fun e w' => e = .returned (.bool true) ∧ Below w.heap.size w w' := by
  obtain ⟨R, hR⟩ : ∃ R, room % 300 + 1 = R := ⟨_, rfl⟩
  have k1 : Int.tmod (room : Int) 300 + 1 = (R : Int) := by rw [Int.tmod_eq_emod_of_nonneg (by omega)]; omega
  have k2 : (room : Int) % 300 + 1 = (R : Int) := by omega
  have hR1 : 1 ≤ R := by omega
  have hR2 : R ≤ 300 := by omega
  have HN := hid (newbuf_any R next w hR1 (by omega))
  have HF := hid fun W (h : BRow W A c ss) => farB_any A c ss W h
  have HS := hid fun W => shortB_any A ss.length c W h.row.cap h.row.top
  have hl : min ss.length 60 = (ss.take 60).length := by rw [List.length_take]; omega
  have hl2 : (ss.take 60).length ≤ 60 := by rw [List.length_take]; omega
  rw [hl] at HS
  have H0 := hid h
  have H1 := hid (h.take 60)
  clear h hl hR
  go_enter Try.func3, Try.ntmps3
  go_wp2_with fail
  (refine Calls.mono HN.out ?_)
  rintro e w1 ⟨gb, g, d, rfl, h1, g1, g2, g3, hb1⟩
  go_wp2_with fail
  (with_reducible refine Calls.mono (HF.out w1 (H0.out.below hb1)) ?_)
  rintro e w2 ⟨rfl, hb2⟩
  have h2 := h1.below (hb2.mono (Nat.le_refl _))
  have hB2 := below_after hb1 hb2 (Nat.le_refl _)
  clear hb1 hb2 h1
  generalize ss.take 60 = ts at H1 hl2 HS ⊢
  by_cases ht : 3000 < farN ts
  · have tt := decide_eq_true ht
    rw [tt]
    go_wp2_with fail
    (with_reducible refine Calls.mono (alive26_any _) ?_)
    rintro e w3 ⟨rfl, hb3⟩
    go_wp2_with fail
    go_ret
    exact ⟨rfl, below_after hB2 hb3 (Nat.le_refl _)⟩
  · have tt := decide_eq_false ht
    rw [tt]
    have HT := hid ht
    clear HN HF H0 ht tt
    go_wp2_with fail
    (with_reducible refine Calls.mono (HS.out _) ?_)
    rintro e w3 ⟨rfl, rfl⟩
    clear HS
    go_wp2_with fail
    go_loopw [9, 10, 46] (fun vi vr i wr => ∃ (k I r : Nat) (m : BufP), k ≤ ts.length ∧ i = .int .i64 k ∧ vi = .int .i64 I ∧ vr = .int .i64 r ∧ BufW wr gb g d m ∧ BOk m ∧ m.R = R ∧ m.n + r = I ∧ m.f = (next + I) % M32 ∧ I ≤ k * 300 ∧ Below w.heap.size w wr) (fun _ _ i _ => ts.length - (intOf i).toNat)
    case atStart => exact ⟨0, 0, 0, _, Nat.zero_le _, rfl, rfl, rfl, h2, newB_ok R next hR1 (by omega) hnext, rfl, rfl, (Nat.mod_eq_of_lt hnext).symm, Nat.zero_le _, hB2⟩
    case round =>
      obtain ⟨k, I, r, m, hk, rfl, rfl, rfl, hbw, hok, hmR, hnr, hmf, hIk, hb⟩ := hrel
      clear hB2 h2
      by_cases hlt : k < ts.length
      · have hrow := (H1.out.below hb).row
        obtain ⟨a, rfl⟩ := hrow.addr (by rw [sbs_length]; omega)
        obtain ⟨l0, l1, l2, l3⟩ := hrow.stB k hlt _ rfl
        obtain ⟨r1, r2, r3, r4, r5⟩ := H1.out.get k hlt
        have hpl := farN_len hlt HT.out
        generalize ts.getD k default = s at l0 l1 l2 l3 r1 r2 r3 r4 r5 hpl
        have H := hid hbw
        have HB := hid hb
        have HOK := hid hok
        have HMF := hid hmf
        have R5 := hid r5
        have hcp := hrow.cap
        have hct := hrow.top
        clear hrow hbw hb hok hmf r5
        go_upto_region 9 with fail
        have hlt0 := H.out.lt
        have hs5 := nw1 wr (.cells #[.bool s.rd, .int .i64 s.N, .int .i32 s.ah, .slice s.A s.p.length s.c] 34)
        have H5 := hid (H.out.below (bl1 wr (.cells #[.bool s.rd, .int .i64 s.N, .int .i32 s.ah, .slice s.A s.p.length s.c] 34)))
        have HB5 := hid (below_after HB.out (bl1 wr (.cells #[.bool s.rd, .int .i64 s.N, .int .i32 s.ah, .slice s.A s.p.length s.c] 34)) (Nat.le_refl _))
        generalize wr.alloc _ = w5 at hs5 H5 HB5 ⊢
        obtain ⟨sb, hsb⟩ : ∃ x, wr.heap.size = x := ⟨_, rfl⟩
        have n1 : sb ≠ gb := by omega
        have n2 : sb ≠ g := by omega
        have n3 : sb ≠ d := by omega
        simp only [hsb] at hs5 ⊢
        clear H HB l0 l1 l2 l3 hlt0 hsb
        have hnR := HOK.out.n
        have x0 := cellRow hs5 0
        simp only [List.getElem?_toArray, List.getElem?_cons_zero] at x0
        cases hrd : s.rd
        · rw [hrd] at x0 hs5
          have HS5 := hid hs5
          clear hs5 hrd
          obtain ⟨an, han⟩ : ∃ x : Nat, s.ah % 4294967296 = (x : Int) := ⟨(s.ah % 4294967296).toNat, by omega⟩
          have hanl : an < 4294967296 := by omega
          obtain ⟨ff0, hff0⟩ : ∃ x, m.f = x := ⟨_, rfl⟩
          have hffl : ff0 < 4294967296 := by rw [← hff0]; exact HOK.out.f
          obtain ⟨sq, hsq⟩ : ∃ x, (ff0 + an) % 4294967296 = x := ⟨_, rfl⟩
          have hsql : sq < 4294967296 := by omega
          have v1 : IntKind.u32.wrap s.ah = (an : Int) := by rw [IntKind.wrap_u32]; exact han
          have v2 : IntKind.u32.wrap ((ff0 : Int) + (an : Int)) = (sq : Int) := by rw [IntKind.wrap_u32]; omega
          have v3 : ((ff0 : Int) + (an : Int)) % 4294967296 = (sq : Int) := by omega
          have HNX0 := hid (fun W (h : BufW W gb g d m) => bufnext_any gb g d m W h)
          rw [hff0] at HNX0
          clear hff0 hsq
          have HIN := hid (fun W (h : BufW W gb g d m) (hb : Below w.heap.size w W) => insert_any gb g d m sq s.A s.c s.p W h HOK.out hsql (by omega) (fun W' hm => R5.out.below (below_mod3 hb hm g1 g2 g3)))
          have HIO := hid (insB_ok m sq s.p HOK.out)
          generalize insB m sq s.p = res at HIN HIO
          obtain ⟨m2, nr⟩ := res
          dsimp only at HIN HIO
          clear r1 r2 r3 r4 hpl
          go_upto_region 14 with fail
          refine wp_region_hand (fun W => W.heap[sb]? = some (.cells #[.bool false, .int .i64 s.N, .int .i32 s.ah, .slice s.A s.p.length s.c] 34 (0, 0))) (by kernel_rfl) HS5.out ?_
          intro hS
          have H6' := hid (H5.out.below (w' := ({ w5 with drawn := w5.drawn + 1 } : World)) (below_drewN (Below.refl _ _) 1))
          have HB6' := hid (below_drewN HB5.out 1)
          change Hid (Below _ _ ({ w5 with drawn := w5.drawn + 1 } : World)) at HB6'
          generalize ({ w5 with drawn := w5.drawn + 1 } : World) = u at H6' HB6' hS ⊢
          refine wpAnyH_take (i := 0) (oi := ⟨some 73, _, _, _, _, _⟩) (v := ?_) rfl (by kernel_rfl) (by kernel_rfl) (by kernel_rfl) (fun _ _ _ h => h) (Or.inl ⟨by rfl, ?_⟩) hS ?_
          rotate_left 1
          focus ((intro W' hS'; go_simp) <;> with_reducible rfl)
          try simp only [Act.put, List.setIfInBounds_toArray, List.set_cons_zero, List.set_cons_succ]
          refine wpAnyH_take (i := 1) (oi := ⟨some 74, _, _, _, _, _⟩) (v := ?_) rfl (by kernel_rfl) (by kernel_rfl) (by kernel_rfl) (fun _ _ _ h => h) (Or.inl ⟨by rfl, ?_⟩) hS ?_
          rotate_left 1
          focus ((intro W' hS'; go_simp) <;> with_reducible rfl)
          try simp only [Act.put, List.setIfInBounds_toArray, List.set_cons_zero, List.set_cons_succ]
          refine wpAnyH_take (i := 3) (oi := ⟨some 76, _, _, _, _, _⟩) (v := ?_) rfl (by kernel_rfl) (by kernel_rfl) (by kernel_rfl) (fun _ _ _ h => h) (Or.inl ⟨by rfl, ?_⟩) hS ?_
          rotate_left 1
          focus ((intro W' hS'; go_simp) <;> with_reducible rfl)
          try simp only [Act.put, List.setIfInBounds_toArray, List.set_cons_zero, List.set_cons_succ]
          refine wpAnyH_take (i := 4) (oi := ⟨some 77, _, _, _, _, _⟩) (v := ?_) rfl (by kernel_rfl) (by kernel_rfl) (by kernel_rfl) (fun _ _ _ h => h) (Or.inl ⟨by rfl, ?_⟩) hS ?_
          rotate_left 1
          focus ((intro W' hS'; have x2 := cellRow hS' 2; have x3 := cellRow hS' 3; simp only [List.getElem?_toArray, List.getElem?_cons_zero, List.getElem?_cons_succ] at x2 x3; go_simp) <;> with_reducible rfl)
          try simp only [Act.put, List.setIfInBounds_toArray, List.set_cons_zero, List.set_cons_succ]
          refine wpAnyH_take (i := 5) (oi := ⟨some 78, _, _, _, _, _⟩) (v := ?_) rfl (by kernel_rfl) (by kernel_rfl) (by kernel_rfl) (fun _ _ _ h => h) (Or.inl ⟨by rfl, ?_⟩) hS ?_
          rotate_left 1
          focus ((intro W' hS'; go_simp) <;> with_reducible rfl)
          try simp only [Act.put, List.setIfInBounds_toArray, List.set_cons_zero, List.set_cons_succ]
          refine wpAnyH_take (i := 7) (oi := ⟨some 80, _, _, _, _, _⟩) (v := ?_) rfl (by kernel_rfl) (by kernel_rfl) (by kernel_rfl) (fun _ _ _ h => h) (Or.inl ⟨by rfl, ?_⟩) hS ?_
          rotate_left 1
          focus ((intro W' hS'; go_simp) <;> with_reducible rfl)
          try simp only [Act.put, List.setIfInBounds_toArray, List.set_cons_zero, List.set_cons_succ]
          refine wpAnyH_take (i := 8) (oi := ⟨some 81, _, _, _, _, _⟩) (v := ?_) rfl (by kernel_rfl) (by kernel_rfl) (by kernel_rfl) (fun _ _ _ h => h) (Or.inl ⟨by rfl, ?_⟩) hS ?_
          rotate_left 1
          focus ((intro W' hS'; have x2 := cellRow hS' 2; have x3 := cellRow hS' 3; simp only [List.getElem?_toArray, List.getElem?_cons_zero, List.getElem?_cons_succ] at x2 x3; go_simp) <;> with_reducible rfl)
          try simp only [Act.put, List.setIfInBounds_toArray, List.set_cons_zero, List.set_cons_succ]
          refine anyH_one (i := 2) (by kernel_rfl) ⟨some 75, _, _, _, _, _⟩ rfl (by rfl) ?_
          go_simp
          with_reducible refine Calls.mono (HNX0.out _ H6'.out) ?_
          rintro e ux ⟨rfl, rfl⟩
          refine ⟨hS, ?_⟩
          try simp only [Act.put, List.setIfInBounds_toArray, List.set_cons_zero, List.set_cons_succ]
          refine wpAnyH_take (i := 6) (oi := ⟨some 79, _, _, _, _, _⟩) (v := ?_) rfl (by kernel_rfl) (by kernel_rfl) (by kernel_rfl) (fun _ _ _ h => h) (Or.inl ⟨by rfl, ?_⟩) hS ?_
          rotate_left 1
          focus ((intro W' hS'; go_simp) <;> with_reducible rfl)
          try simp only [Act.put, List.setIfInBounds_toArray, List.set_cons_zero, List.set_cons_succ]
          refine anyH_one (i := 9) (by kernel_rfl) ⟨some 82, _, _, _, _, _⟩ rfl (by rfl) ?_
          go_simp
          with_reducible refine Calls.mono (HIN.out _ H6'.out HB6'.out) ?_
          rintro e u2 ⟨rfl, h6, m6⟩
          have hS2 := m6.keeps hS (by simp; omega)
          have H6 := hid h6
          have HB6 := hid (below_mod3 HB6'.out m6 g1 g2 g3)
          clear h6 m6 hS
          have hS := hS2
          refine ⟨hS, ?_⟩
          try simp only [Act.put, List.setIfInBounds_toArray, List.set_cons_zero, List.set_cons_succ]
          refine wpAnyH_take (i := 10) (oi := ⟨some 14, _, _, _, _, _⟩) (v := ?_) rfl (by kernel_rfl) (by kernel_rfl) (by kernel_rfl) (fun _ _ _ h => h) (Or.inl ⟨by rfl, ?_⟩) hS ?_
          rotate_left 1
          focus ((intro W' hS'; go_simp) <;> with_reducible rfl)
          try simp only [Act.put, List.setIfInBounds_toArray, List.set_cons_zero, List.set_cons_succ]
          refine wpAnyH_done (by kernel_rfl) ?_ _
          clear HNX0 HIN H6' HB6' v1 v2 v3 hS2
          obtain ⟨hok2, hn2, hf2, hR2'⟩ := HIO.out
          have hnb := hok2.n
          rw [hR2', hmR] at hnb
          have hnr2 : nr ≤ 300 := by omega
          have hmf0 := HMF.out
          rw [hmf0, M32_eq] at hf2
          obtain ⟨I2, hI2⟩ : ∃ x, I + nr = x := ⟨_, rfl⟩
          have hI2i : (I : Int) + (nr : Int) = (I2 : Int) := by omega
          have OK2 := hid hok2
          have MR2 := hid (show m2.R = R from hR2'.trans hmR)
          have LN2 := hid (show m2.n + r = I2 by omega)
          have MF2 := hid (show m2.f = (next + I2) % M32 by rw [M32_eq]; omega)
          have HHK := hid (show k ≤ ts.length from hk)
          have hib : I2 ≤ (k + 1) * 300 := by omega
          have hib2 : I2 ≤ 18300 := by omega
          have hrI : r ≤ I2 := by omega
          have hi1 : I ≤ 18000 := by omega
          have t0 : decide ((nr : Int) < 0) = false := by rw [decide_eq_false_iff_not]; omega
          clear HIO hok2 hn2 hf2 hR2' hnb HOK hmf0 HMF hI2 hmR hnr hnR
          go_upto_region 18 with fail
          try simp only [hI2i]
          obtain ⟨nn, hnn⟩ : ∃ nn, m2.n = nn := ⟨_, rfl⟩
          obtain ⟨ff, hff⟩ : ∃ ff, m2.f = ff := ⟨_, rfl⟩
          have HLE := hid (buflen_any gb g d m2 _ H6.out)
          have HNX := hid (bufnext_any gb g d m2 _ H6.out)
          rw [hnn] at HLE
          rw [hff] at HNX
          have hln2 := LN2.out
          have hmf2 := MF2.out
          rw [hnn] at hln2
          rw [hff, M32_eq] at hmf2
          have e5 : (I2 : Int) - (r : Int) = (nn : Int) := by omega
          have e6 : (I2 : Int) % 4294967296 = (I2 : Int) := by omega
          have e7 : ((next : Int) + (I2 : Int)) % 4294967296 = (ff : Int) := by omega
          clear hnn hff hln2 hmf2
          go_wp2_with fail
          (with_reducible refine Calls.mono HLE.out ?_)
          rintro e wy ⟨rfl, rfl⟩
          go_wp2_with fail
          (with_reducible refine Calls.mono HNX.out ?_)
          rintro e wy ⟨rfl, rfl⟩
          try simp only [e7]
          go_wp2_with fail
          have hkk := HHK.out
          go_roundw
          case rel => exact ⟨k + 1, I2, r, m2, by omega, by go_num, rfl, rfl, H6.out, OK2.out, MR2.out, LN2.out, MF2.out, by omega, HB6.out⟩
          case measure => simp [intOf]; omega
        · rw [hrd] at x0 hs5
          have HS5 := hid hs5
          obtain ⟨q, hq⟩ : ∃ q, cntB m s.N = q := ⟨_, rfl⟩
          have HRD := hid (readbuf_any gb g d m s.N w5 H5.out HOK.out)
          have HOK2 := hid (readB_ok m s.N HOK.out)
          have hmn : (readB m s.N).n = m.n - q := by rw [← hq]; rfl
          have HMN := hid hmn
          have hq2 := hq
          rw [hq] at HRD
          have x1 := cellRow hs5 1
          simp only [List.getElem?_toArray, List.getElem?_cons_zero, List.getElem?_cons_succ] at x1
          obtain ⟨N, hN⟩ : ∃ N, s.N = N := ⟨_, rfl⟩
          have hqn : q ≤ m.n := by rw [← hq]; unfold cntB; omega
          obtain ⟨M, hM⟩ : ∃ M : Int, max N 0 = M := ⟨_, rfl⟩
          have a1 : (if N < 0 then 0 else N) = M := by split <;> omega
          have a2 : (if 0 < N then N else 0) = M := by split <;> omega
          have a3 : (if N ≤ 0 then 0 else N) = M := by split <;> omega
          have b1 : min M (m.n : Int) = (q : Int) := by unfold cntB at hq; omega
          rw [hN] at x1 r1 r2 HRD HOK2 HMN
          have HNN := hid hN
          clear hmn hs5 hq hq2 hN hM
          go_wp2_with fail
          (with_reducible refine Calls.mono HRD.out ?_)
          rintro e w6 ⟨A6, c6, rfl, ho6, h6, m6⟩
          have hs6 := m6.keeps HS5.out (by simpa using n1)
          have y1 := cellRow hs6 1
          simp only [List.getElem?_toArray, List.getElem?_cons_zero, List.getElem?_cons_succ] at y1
          rw [HNN.out] at y1
          have H6 := hid h6
          have HB6 := hid (below_mod1 HB5.out m6 g1)
          clear HRD ho6 h6 m6 hs6 HB5 H5
          go_upto_region 12 with fail
          obtain ⟨rr, hrr⟩ : ∃ x, r + q = x := ⟨_, rfl⟩
          have hri : (r : Int) + (q : Int) = (rr : Int) := by omega
          simp only [hri]
          have e1 : (I : Int) - (rr : Int) + (q : Int) = (m.n : Int) := by omega
          have e2 : (if (m.n : Int) < M then (m.n : Int) else M) = (q : Int) := by split <;> omega
          have e3 : (if M < (m.n : Int) then M else (m.n : Int)) = (q : Int) := by split <;> omega
          have hI : I ≤ 18000 := by omega
          have hrI : rr ≤ I := by omega
          have hln : m.n - q + rr = I := by omega
          have HLN := hid hln
          have HHK := hid (show k ≤ ts.length from hk)
          have HNR := hid hnr
          clear hri hrr hln hnr
          go_upto_region 18 with fail
          have OK2 := HOK2
          have MR2 := hid (show (readB m N).R = R from hmR)
          have LN2 := hid (show (readB m N).n + rr = I by rw [HMN.out]; exact HLN.out)
          have MF2 := hid (show (readB m N).f = (next + I) % M32 from HMF.out)
          clear HOK2 HMN HLN HMF HOK
          generalize readB m N = m2 at H6 OK2 MR2 LN2 MF2
          obtain ⟨nn, hnn⟩ : ∃ nn, m2.n = nn := ⟨_, rfl⟩
          obtain ⟨ff, hff⟩ : ∃ ff, m2.f = ff := ⟨_, rfl⟩
          have HLE := hid (buflen_any gb g d m2 _ H6.out)
          have HNX := hid (bufnext_any gb g d m2 _ H6.out)
          rw [hnn] at HLE
          rw [hff] at HNX
          have hln2 := LN2.out
          have hmf2 := MF2.out
          rw [hnn] at hln2
          rw [hff, M32_eq] at hmf2
          have e5 : (I : Int) - (rr : Int) = (nn : Int) := by omega
          have e6 : (I : Int) % 4294967296 = (I : Int) := by omega
          have e7 : ((next : Int) + (I : Int)) % 4294967296 = (ff : Int) := by omega
          clear hnn hff hln2 hmf2
          go_wp2_with fail
          (with_reducible refine Calls.mono HLE.out ?_)
          rintro e wy ⟨rfl, rfl⟩
          go_wp2_with fail
          (with_reducible refine Calls.mono HNX.out ?_)
          rintro e wy ⟨rfl, rfl⟩
          try simp only [e7]
          go_wp2_with fail
          have hkk := HHK.out
          go_roundw
          case rel => exact ⟨k + 1, I, rr, m2, by omega, by go_num, rfl, rfl, H6.out, OK2.out, MR2.out, LN2.out, MF2.out, by omega, HB6.out⟩
          case measure => simp [intOf]; omega
      · obtain rfl : k = ts.length := by omega
        go_wp2_with fail
        (with_reducible refine Calls.mono (alive26_any _) ?_)
        rintro e w5 ⟨rfl, hb5⟩
        go_wp2_with fail
        go_ret
        exact ⟨rfl, below_after hb hb5 (Nat.le_refl _)⟩
end Go.Proofs.Ytblkfpipmdfmkaa
