/- Walk: ipfour.size. Walk: the function that ipfour.Parse hands to Try. Flags' bits; Try of the function that reads a packet. Walk: ipfour.Parse. -/
import Derived.Test.YtpcfgihomplehaaIpvB
import Derived.Test.YtpcfgihomplehaaBits
import Derived.Test.YtpcfgihomplehaaRdr
import Derived.Test.YtpcfgihomplehaaRegM
import Derived.RegionTactic
import Derived.Test.YtpcfgihomplehaaOctT
namespace Go.Proofs.Ytpcfgihomplehaa
set_option linter.unusedVariables false
set_option linter.unusedSimpArgs false
open Go.RowKit

def serr4 (b : List UInt8) : Int :=
  if b.length < 20 then 4 else if (b.getD 0 0).toNat / 16 ≠ 4 then 11 else if size4 b < 20 then 3 else if b.length < size4 b then 4
  else if foldS (wsum (b.take (size4 b))) ≠ 65535 then 8 else if all4 b < size4 b then 3 else if b.length < all4 b then 4 else 0
theorem perr4_eq (b : List UInt8) : perr4 b = if serr4 b ≠ 0 then serr4 b else if 32768 ≤ mark4 b ∨ may4 (pkt4 b) = false then 3 else 0 := by
  unfold perr4 serr4
  generalize (b.getD 0 0).toNat / 16 = k
  generalize foldS (wsum (b.take (size4 b))) = f
  generalize size4 b = s
  generalize all4 b = a
  generalize b.length = n
  by_cases h1 : n < 20
  · simp [h1]
  by_cases h2 : k = 4
  · by_cases h3 : s < 20
    · simp [h1, h2, h3]
    by_cases h4 : n < s
    · simp [h1, h2, h3, h4]
    by_cases h5 : f = 65535
    · by_cases h6 : a < s
      · simp [h1, h2, h3, h4, h5, h6]
      by_cases h7 : n < a
      · simp [h1, h2, h3, h4, h5, h6, h7]
      · simp [h1, h2, h3, h4, h5, h6, h7]
    · simp [h1, h2, h3, h4, h5]
  · simp [h1, h2]
structure Sized4 (b : List UInt8) : Prop where
  len : 20 ≤ b.length
  low : 20 ≤ size4 b
  mid : size4 b ≤ all4 b
  up : all4 b ≤ b.length
theorem serr4_ok (b : List UInt8) (h : serr4 b = 0) : Sized4 b := by
  unfold serr4 at h
  split at h
  · simp at h
  split at h
  · simp at h
  split at h
  · simp at h
  split at h
  · simp at h
  split at h
  · simp at h
  split at h
  · simp at h
  split at h
  · simp at h
  · exact ⟨by omega, by omega, by omega, by omega⟩
def SizePost (b : List UInt8) (w : World) (e : Ending) (w' : World) : Prop :=
  e = .returned (.tuple #[.int .i64 (if serr4 b = 0 then (size4 b : Int) else 0), .int .i64 (if serr4 b = 0 then (all4 b : Int) else 0), .int .i64 (serr4 b)]) ∧ Below w.heap.size w w'
theorem SizePost.err {b : List UInt8} {n : Int} {w w' : World} (h : serr4 b = n) (hn : n ≠ 0) (hb : Below w.heap.size w w') : SizePost b w (.returned (.tuple #[.int .i64 0, .int .i64 0, .int .i64 n])) w' := by
  subst h
  exact ⟨by rw [if_neg hn, if_neg hn], hb⟩
theorem SizePost.ok {b : List UInt8} {s t : Nat} {w w' : World} (h : serr4 b = 0) (hs : size4 b = s) (ht : all4 b = t) (hb : Below w.heap.size w w') : SizePost b w (.returned (.tuple #[.int .i64 (s : Int), .int .i64 (t : Int), .int .i64 0])) w' := by
  subst hs ht
  exact ⟨by rw [h, if_pos rfl, if_pos rfl], hb⟩
theorem u8_and15 (n : Nat) (h : n < 256) : bits .and .u8 (n : Int) 15 = ((n % 16 : Nat) : Int) := by
  have : ∀ m : Fin 256, bits .and .u8 ((m.val : Nat) : Int) 15 = ((m.val % 16 : Nat) : Int) := by decide +kernel
  exact this ⟨n, h⟩
set_option maxHeartbeats 2000000 in
theorem size4_any (v : Value) (b : List UInt8) (w : World) (hx : RB w v b) (hl : b.length ≤ 70368744177664) :
    Calls Try.prog 27 #[v] w (SizePost b w) := by
  have HX := hid hx
  obtain ⟨A, c, rfl, hrow⟩ := hx
  have hcap := hrow.cap
  have htop := hrow.top
  have HR := hid hrow
  clear hrow
  by_cases h1 : b.length < 20
  · have e1 : decide ((b.length : Int) < 20) = true := decide_eq_true (by omega)
    have e1' : decide (b.length < 20) = true := decide_eq_true h1
    have HS := hid (show serr4 b = 4 by unfold serr4; rw [if_pos h1])
    go_enter Try.func27, Try.ntmps27
    go_wp2_with fail
    go_ret3
    exact SizePost.err HS.out (by decide) (Below.refl _ _)
  have e1 : decide ((b.length : Int) < 20) = false := decide_eq_false (by omega)
  have e1' : decide (b.length < 20) = false := decide_eq_false h1
  obtain ⟨ad, rfl⟩ := HR.out.addr (by rw [by8_length]; omega)
  have q0 := HR.out.get 0 _ (by8_get b 0 (by omega))
  rw [add_zero'] at q0
  have hpos : 0 < b.length := by omega
  have hx0l := (b.getD 0 0).toNat_lt
  obtain ⟨B4, k4, r4, hr4, _⟩ := cut_lh HX.out 2 4 2 4 rfl rfl (by omega) (by omega)
  have hn := be2_max b 2
  have HG := hid fun W (h : RB W (.slice B4 2 k4) ((b.drop 2).take 2)) => get_any _ _ W h
  rw [getS_short _ (by rw [List.length_take]; omega)] at HG
  have hall : be ((b.drop 2).take 2) = all4 b := rfl
  rw [hall] at hn HG
  have hsz : (b.getD 0 0).toNat % 16 * 4 = size4 b := rfl
  have hse : serr4 b = if b.length < 20 then 4 else if (b.getD 0 0).toNat / 16 ≠ 4 then 11 else if size4 b < 20 then 3 else if b.length < size4 b then 4
    else if foldS (wsum (b.take (size4 b))) ≠ 65535 then 8 else if all4 b < size4 b then 3 else if b.length < all4 b then 4 else 0 := rfl
  rw [if_neg h1] at hse
  have hcut : ∀ s : Nat, s ≤ b.length → ∃ B k, (∀ W, (Instr.slice 26 (.slice (some ad) b.length c) none (some (.int .i64 (s : Int))) none).run Try.prog W = .ok (.slice B s k) W) ∧ RB w (.slice B s k) (b.take s) := fun s hs => by
    obtain ⟨B, k, r, hr, _⟩ := cut_h HX.out s s rfl hs
    exact ⟨B, k, r, hr⟩
  have hand := u8_and15 (b.getD 0 0).toNat hx0l
  generalize (b.getD 0 0).toNat = x0 at *
  generalize hal : all4 b = al at *
  generalize hss : size4 b = sz at *
  have HAL := hid hal
  have HSS := hid hss
  have hszl : sz ≤ 60 := by omega
  have hszI : ((x0 % 16 : Nat) : Int) * 4 = (sz : Int) := by omega
  have hx16 : x0 / 16 ≤ 15 := by omega
  obtain ⟨m, hm⟩ : ∃ m, x0 % 16 = m := ⟨_, rfl⟩
  rw [hm] at hand hszI
  have hmle : m ≤ 15 := by omega
  have HSE := hid hse
  have HCUT := hid hcut
  clear hall hsz hal hss hse hcut hm
  by_cases h2 : x0 / 16 = 4
  · have e2 : ((x0 : Int) / 16 != 4) = false := by simp; omega
    have H2 := hid h2
    clear h2
    by_cases h3 : sz < 20
    · have e3 : decide ((sz : Int) < 20) = true := decide_eq_true (by omega)
      have e3' : decide (sz < 20) = true := decide_eq_true h3
      have HS := hid (show serr4 b = 3 by rw [HSE.out, if_neg (by rw [H2.out]; simp), if_pos h3])
      go_enter Try.func27, Try.ntmps27
      go_wp2_with (first
        | (go_at_call 35; (with_reducible refine Calls.mono (HG.out _ hr4) ?_); rintro e w' ⟨rfl, rfl⟩))
      go_ret3
      exact SizePost.err HS.out (by decide) (Below.refl _ _)
    have e3 : decide ((sz : Int) < 20) = false := decide_eq_false (by omega)
    have e3' : decide (sz < 20) = false := decide_eq_false h3
    by_cases h4 : b.length < sz
    · have e4 : decide ((b.length : Int) < (sz : Int)) = true := decide_eq_true (by omega)
      have e4' : decide (b.length < sz) = true := decide_eq_true h4
      have HS := hid (show serr4 b = 4 by rw [HSE.out, if_neg (by rw [H2.out]; simp), if_neg h3, if_pos h4])
      go_enter Try.func27, Try.ntmps27
      go_wp2_with (first
        | (go_at_call 35; (with_reducible refine Calls.mono (HG.out _ hr4) ?_); rintro e w' ⟨rfl, rfl⟩))
      go_ret3
      exact SizePost.err HS.out (by decide) (Below.refl _ _)
    have e4 : decide ((b.length : Int) < (sz : Int)) = false := decide_eq_false (by omega)
    have e4' : decide (b.length < sz) = false := decide_eq_false h4
    obtain ⟨B, k, r, hr⟩ := HCUT.out sz (by omega)
    have hsum := foldS_range (wsum (b.take sz))
    have HSM := hid fun W u (h : RBB W u [b.take sz]) => sum_any u [b.take sz] W h (by simp [btot, List.length_take]; omega)
    rw [wtot_one] at HSM
    generalize foldS (wsum (b.take sz)) = sm at HSM hsum HSE
    by_cases h5 : sm = 65535
    · have H5 := hid h5
      have e5 : ((sm : Int) != 65535) = false := by simp [h5]
      clear h5
      by_cases h6 : al < sz
      · have e6 : decide ((al : Int) < (sz : Int)) = true := decide_eq_true (by omega)
        have e6' : decide (al < sz) = true := decide_eq_true h6
        have HS := hid (show serr4 b = 3 by rw [HSE.out, if_neg (by rw [H2.out]; simp), if_neg h3, if_neg h4, if_neg (by rw [H5.out]; simp), if_pos h6])
        go_enter Try.func27, Try.ntmps27
        go_wp2_with (first
          | (go_at_call 35; (with_reducible refine Calls.mono (HG.out _ hr4) ?_); rintro e w' ⟨rfl, rfl⟩)
          | (go_at_call 38; (with_reducible refine Calls.mono (HSM.out _ _ (RBB.new1 w _ _ _ _ rfl hr)) ?_); rintro e w' ⟨rfl, nd, rfl⟩))
        go_ret3
        exact SizePost.err HS.out (by decide) (below_drewN (bl1 w _) nd)
      have e6 : decide ((al : Int) < (sz : Int)) = false := decide_eq_false (by omega)
      have e6' : decide (al < sz) = false := decide_eq_false h6
      by_cases h7 : b.length < al
      · have e7 : decide ((b.length : Int) < (al : Int)) = true := decide_eq_true (by omega)
        have e7' : decide (b.length < al) = true := decide_eq_true h7
        have HS := hid (show serr4 b = 4 by rw [HSE.out, if_neg (by rw [H2.out]; simp), if_neg h3, if_neg h4, if_neg (by rw [H5.out]; simp), if_neg h6, if_pos h7])
        go_enter Try.func27, Try.ntmps27
        go_wp2_with (first
          | (go_at_call 35; (with_reducible refine Calls.mono (HG.out _ hr4) ?_); rintro e w' ⟨rfl, rfl⟩)
          | (go_at_call 38; (with_reducible refine Calls.mono (HSM.out _ _ (RBB.new1 w _ _ _ _ rfl hr)) ?_); rintro e w' ⟨rfl, nd, rfl⟩))
        go_ret3
        exact SizePost.err HS.out (by decide) (below_drewN (bl1 w _) nd)
      · have e7 : decide ((b.length : Int) < (al : Int)) = false := decide_eq_false (by omega)
        have e7' : decide (b.length < al) = false := decide_eq_false h7
        have HS := hid (show serr4 b = 0 by rw [HSE.out, if_neg (by rw [H2.out]; simp), if_neg h3, if_neg h4, if_neg (by rw [H5.out]; simp), if_neg h6, if_neg h7])
        go_enter Try.func27, Try.ntmps27
        go_wp2_with (first
          | (go_at_call 35; (with_reducible refine Calls.mono (HG.out _ hr4) ?_); rintro e w' ⟨rfl, rfl⟩)
          | (go_at_call 38; (with_reducible refine Calls.mono (HSM.out _ _ (RBB.new1 w _ _ _ _ rfl hr)) ?_); rintro e w' ⟨rfl, nd, rfl⟩))
        go_ret3
        exact SizePost.ok HS.out HSS.out HAL.out (below_drewN (bl1 w _) nd)
    · have e5 : ((sm : Int) != 65535) = true := by simpa using h5
      have e5' : decide (sm = 65535) = false := decide_eq_false h5
      have HS := hid (show serr4 b = 8 by rw [HSE.out, if_neg (by rw [H2.out]; simp), if_neg h3, if_neg h4, if_pos h5])
      clear h5
      go_enter Try.func27, Try.ntmps27
      go_wp2_with (first
        | (go_at_call 35; (with_reducible refine Calls.mono (HG.out _ hr4) ?_); rintro e w' ⟨rfl, rfl⟩)
        | (go_at_call 38; (with_reducible refine Calls.mono (HSM.out _ _ (RBB.new1 w _ _ _ _ rfl hr)) ?_); rintro e w' ⟨rfl, nd, rfl⟩))
      go_ret3
      exact SizePost.err HS.out (by decide) (below_drewN (bl1 w _) nd)
  · have e2 : ((x0 : Int) / 16 != 4) = true := by simp; omega
    have HS := hid (show serr4 b = 11 by rw [HSE.out, if_pos h2])
    clear h2
    go_enter Try.func27, Try.ntmps27
    go_wp2_with (first
      | (go_at_call 35; (with_reducible refine Calls.mono (HG.out _ hr4) ?_); rintro e w' ⟨rfl, rfl⟩))
    go_ret3
    exact SizePost.err HS.out (by decide) (Below.refl _ _)
end Go.Proofs.Ytpcfgihomplehaa
namespace Go.Proofs.Ytpcfgihomplehaa
set_option linter.unusedVariables false
set_option linter.unusedSimpArgs false
open Go.RowKit

/-- The blocks that a reading of a packet has: the reader's place, the packet, the marks, the reader. -/
structure HSt (w : World) (gv gr gp gm d : Nat) (q : Pkt) (mk : Int) (xs : List UInt8) : Prop where
  cv : w.heap[gv]? = some (.cells #[.pointer (some ⟨gr, 0, none⟩)] 57 (0, 0))
  bp : w.heap[gp]? = some (.cells (q.cells nilS) 28 (0, 0))
  bm : w.heap[gm]? = some (.cells #[.int .u64 mk] 44 (0, 0))
  rd : RdrD w gr d xs
  n1 : gv ≠ gr
  n2 : gv ≠ gp
  n3 : gv ≠ gm
  n4 : gp ≠ gr
  n5 : gm ≠ gr
  n6 : gp ≠ gm
  n7 : d ≠ gp
  n8 : d ≠ gm
section
variable {w w' : World} {gv gr gp gm d : Nat} {q q' : Pkt} {mk mk' : Int} {xs : List UInt8}
theorem HSt.cell (h : HSt w gv gr gp gm d q mk xs) : w.cell? ⟨gv, 0, none⟩ = some (.pointer (some ⟨gr, 0, none⟩)) := cellRow h.cv 0
theorem HSt.below (h : HSt w gv gr gp gm d q mk xs) (hb : Below w.heap.size w w') : HSt w' gv gr gp gm d q mk xs :=
  ⟨(Mod.of_below hb).keeps h.cv (by simp), (Mod.of_below hb).keeps h.bp (by simp), (Mod.of_below hb).keeps h.bm (by simp), h.rd.below hb, h.n1, h.n2, h.n3, h.n4, h.n5, h.n6, h.n7, h.n8⟩
theorem HSt.drew (h : HSt w gv gr gp gm d q mk xs) : HSt { w with drawn := w.drawn + 1 } gv gr gp gm d q mk xs :=
  ⟨h.cv, h.bp, h.bm, h.rd.mod (M := []) (Mod.drewN 1) (by simp) (by simp), h.n1, h.n2, h.n3, h.n4, h.n5, h.n6, h.n7, h.n8⟩
theorem HSt.part (h : HSt w gv gr gp gm d q mk xs) (hb : w'.heap[gp]? = some (.cells (q'.cells nilS) 28 (0, 0))) (hm : Mod [gp] w w') : HSt w' gv gr gp gm d q' mk xs :=
  ⟨hm.keeps h.cv (by simpa using h.n2), hb, hm.keeps h.bm (by simpa using fun e => h.n6 e.symm), h.rd.mod hm (by simpa using fun e => h.n4 e.symm) (by simpa using h.n7), h.n1, h.n2, h.n3, h.n4, h.n5, h.n6, h.n7, h.n8⟩
theorem HSt.mark (h : HSt w gv gr gp gm d q mk xs) (hb : w'.heap[gm]? = some (.cells #[.int .u64 mk'] 44 (0, 0))) (hm : Mod [gm] w w') : HSt w' gv gr gp gm d q mk' xs :=
  ⟨hm.keeps h.cv (by simpa using h.n3), hm.keeps h.bp (by simpa using h.n6), hb, h.rd.mod hm (by simpa using fun e => h.n5 e.symm) (by simpa using h.n8), h.n1, h.n2, h.n3, h.n4, h.n5, h.n6, h.n7, h.n8⟩
theorem HSt.num (h : HSt w gv gr gp gm d q mk xs) (k : Nat) (hk0 : 0 < k) (hk8 : k ≤ 8) (hk : k ≤ xs.length) (v : Nat) (ys : List UInt8) (hv : getS (xs.take k) = v) (hy : xs.drop k = ys) (K : Int) (hK : K = (k : Int)) :
    Calls Try.prog 31 #[.pointer (some ⟨gr, 0, none⟩), .int .i64 K] w fun e w' => e = .returned (.int .u64 (v : Int)) ∧ HSt w' gv gr gp gm d q mk ys ∧ Mod [gr] w w' := by
  subst hv hy hK
  refine (numD gr d xs k hk0 hk8 hk w h.rd).mono ?_
  rintro e w' ⟨he, hr, hm, _⟩
  exact ⟨he, ⟨hm.keeps h.cv (by simpa using h.n1), hm.keeps h.bp (by simpa using h.n4), hm.keeps h.bm (by simpa using h.n5), hr, h.n1, h.n2, h.n3, h.n4, h.n5, h.n6, h.n7, h.n8⟩, hm⟩
theorem HSt.bytes (h : HSt w gv gr gp gm d q mk xs) (k : Nat) (hk0 : 0 < k) (hk : k ≤ xs.length) (zs ys : List UInt8) (hz : xs.take k = zs) (hy : xs.drop k = ys) (K : Int) (hK : K = (k : Int)) :
    Calls Try.prog 33 #[.pointer (some ⟨gr, 0, none⟩), .int .i64 K] w fun e w' => ∃ A, e = .returned (.slice A k k) ∧ RB w' (.slice A k k) zs ∧ HSt w' gv gr gp gm d q mk ys ∧ Mod [gr] w w' := by
  subst hz hy hK
  refine (bytesD gr d xs k hk0 hk w h.rd).mono ?_
  rintro e w' ⟨A, he, hb, _, hr, hg, _⟩
  have hm := Mod.of_grown hg
  exact ⟨A, he, hb, ⟨hm.keeps h.cv (by simpa using h.n1), hm.keeps h.bp (by simpa using h.n4), hm.keeps h.bm (by simpa using h.n5), hr, h.n1, h.n2, h.n3, h.n4, h.n5, h.n6, h.n7, h.n8⟩, hm⟩
end
def pktH (b : List UInt8) : Pkt := { noPkt with id := be ((b.drop 4).take 2), hops := b.getD 8 0, proto := b.getD 9 0, src := adr4 ((b.drop 12).take 4), dst := adr4 ((b.drop 16).take 4) }
theorem be_one (b : List UInt8) (k : Nat) (h : k < b.length) : be ((b.drop k).take 1) = (b.getD k 0).toNat := by
  rw [List.drop_eq_getElem_cons h]
  show be [b[k]] = _
  simp [be, List.getD_eq_getElem?_getD, List.getElem?_eq_getElem h]
set_option maxHeartbeats 2000000 in
theorem clo4_any (gv gr gp gm d : Nat) (b : List UInt8) (w : World) (h : HSt w gv gr gp gm d noPkt 0 b) (hl : 20 ≤ b.length) :
    Calls Try.prog 30 #[.pointer (some ⟨gv, 0, none⟩), .pointer (some ⟨gp, 0, none⟩), .pointer (some ⟨gm, 0, none⟩)] w fun e w' =>
      e = .returned (.tuple #[]) ∧ HSt w' gv gr gp gm d (pktH b) (mark4 b : Int) (b.drop 20) ∧ Mod [gr, gp, gm] w w' := by
  have dd : ∀ i k, (b.drop i).drop k = b.drop (i + k) := fun i k => List.drop_drop
  have lt : ∀ i k, ((b.drop i).take k).length ≤ k := fun i k => by rw [List.length_take]; omega
  have ld : ∀ i, (b.drop i).length = b.length - i := fun i => List.length_drop
  obtain ⟨v1, hv1⟩ : ∃ v, getS (b.take 4) = v := ⟨_, rfl⟩
  obtain ⟨v6, hv6⟩ : ∃ v, getS ((b.drop 10).take 2) = v := ⟨_, rfl⟩
  have N1 := hid fun W q mk (h : HSt W gv gr gp gm d q mk b) => h.num 4 (by omega) (by omega) (by omega) v1 (b.drop 4) hv1 rfl 4 rfl
  have hv2 : getS ((b.drop 4).take 2) = be ((b.drop 4).take 2) := getS_short _ (Nat.le_trans (lt _ _) (by omega))
  have hv3 : getS ((b.drop 6).take 2) = mark4 b := getS_short _ (Nat.le_trans (lt _ _) (by omega))
  have hv4 : getS ((b.drop 8).take 1) = (b.getD 8 0).toNat := (getS_short _ (Nat.le_trans (lt _ _) (by omega))).trans (be_one b 8 (by omega))
  have hv5 : getS ((b.drop 9).take 1) = (b.getD 9 0).toNat := (getS_short _ (Nat.le_trans (lt _ _) (by omega))).trans (be_one b 9 (by omega))
  have hidl := be2_max b 4
  have hmkl : mark4 b ≤ 65535 := be2_max b 6
  have N2 := hid fun W q mk (h : HSt W gv gr gp gm d q mk (b.drop 4)) => h.num 2 (by omega) (by omega) (by rw [ld]; omega) _ (b.drop 6) hv2 (dd 4 2) 2 rfl
  have N3 := hid fun W q mk (h : HSt W gv gr gp gm d q mk (b.drop 6)) => h.num 2 (by omega) (by omega) (by rw [ld]; omega) _ (b.drop 8) hv3 (dd 6 2) 2 rfl
  have N4 := hid fun W q mk (h : HSt W gv gr gp gm d q mk (b.drop 8)) => h.num 1 (by omega) (by omega) (by rw [ld]; omega) _ (b.drop 9) hv4 (dd 8 1) 1 rfl
  have N5 := hid fun W q mk (h : HSt W gv gr gp gm d q mk (b.drop 9)) => h.num 1 (by omega) (by omega) (by rw [ld]; omega) _ (b.drop 10) hv5 (dd 9 1) 1 rfl
  have N6 := hid fun W q mk (h : HSt W gv gr gp gm d q mk (b.drop 10)) => h.num 2 (by omega) (by omega) (by rw [ld]; omega) v6 (b.drop 12) hv6 (dd 10 2) 2 rfl
  have B1 := hid fun W q mk (h : HSt W gv gr gp gm d q mk (b.drop 12)) => h.bytes 4 (by omega) (by rw [ld]; omega) ((b.drop 12).take 4) (b.drop 16) rfl (dd 12 4) 4 rfl
  have B2 := hid fun W q mk (h : HSt W gv gr gp gm d q mk (b.drop 16)) => h.bytes 4 (by omega) (by rw [ld]; omega) ((b.drop 16).take 4) (b.drop 20) rfl (dd 16 4) 4 rfl
  have l1 : ((b.drop 12).take 4).length = 4 := by rw [List.length_take, ld]; omega
  have l2 : ((b.drop 16).take 4).length = 4 := by rw [List.length_take, ld]; omega
  have A1 := hid fun W u (h : RB W u ((b.drop 12).take 4)) => adrOf4 u _ W h l1
  have A2 := hid fun W u (h : RB W u ((b.drop 16).take 4)) => adrOf4 u _ W h l2
  have hx8 := (b.getD 8 0).toNat_lt
  have hx9 := (b.getD 9 0).toNat_lt
  unfold pktH
  clear dd lt ld hv1 hv2 hv3 hv4 hv5 hv6 l1 l2
  generalize be ((b.drop 4).take 2) = idv at *
  generalize mark4 b = mkv at *
  generalize b.getD 8 0 = xh at *
  generalize b.getD 9 0 = xp at *
  generalize (b.drop 12).take 4 = a1 at *
  generalize (b.drop 16).take 4 = a2 at *
  have HW4 := hid (show IntKind.u8.wrap (xh.toNat : Int) = (xh.toNat : Int) by rw [IntKind.wrap_u8]; omega)
  have HW5 := hid (show IntKind.u8.wrap (xp.toNat : Int) = (xp.toNat : Int) by rw [IntKind.wrap_u8]; omega)
  have c0 := h.cell
  have h0 := h
  have hM0 : Mod [gr, gp, gm] w w := Mod.refl _ _
  clear h
  go_enter Try.func30, Try.ntmps30
  go_wp2_with fail
  (with_reducible refine Calls.mono (N1.out _ _ _ h0) ?_)
  rintro e u1 ⟨rfl, h1, m1⟩
  have hM1 := hM0.trans (m1.sub (by simp))
  have c1 := h1.cell
  clear h0 m1 c0 hM0
  go_wp2_with fail
  (with_reducible refine Calls.mono (N2.out _ _ _ h1) ?_)
  rintro e u2 ⟨rfl, h2, m2⟩
  have hM2 := hM1.trans (m2.sub (by simp))
  clear h1 m2 c1 hM1
  go_wp2_with (first
    | ((with_reducible refine at_store 8 7 ?_); refine wpList_partF rfl 25 (.tmp 8) (.tmp 7) rfl gp 36 28 _ (Pkt.cells { noPkt with id := idv } nilS) [.int .u32 (idv : Int)] rfl rfl h2.bp (by show 36 + 1 ≤ 41; omega) (by simp [Value.oneCell']) (by kernel_rfl) rfl ?_; intro u3 hb3 m3 s3; have h3 := h2.part hb3 m3; have hM3 := hM2.trans (m3.sub (by simp)); have c3 := h3.cell; clear hb3 m3 s3))
  (with_reducible refine Calls.mono (N3.out _ _ _ h3) ?_)
  rintro e u4 ⟨rfl, h4, m4⟩
  have hM4 := hM3.trans (m4.sub (by simp))
  clear h3 h2 m4 c3 hM3 hM2
  go_wp2_with (first
    | ((with_reducible refine at_store 2 10 ?_); refine wpList_partF rfl 44 (.tmp 2) (.tmp 10) rfl gm 0 44 _ #[.int .u64 (mkv : Int)] [.int .u64 (mkv : Int)] rfl rfl h4.bm (Nat.le_refl 1) (by simp [Value.oneCell']) (by kernel_rfl) rfl ?_; intro u5 hb5 m5 s5; have h5' := h4.mark hb5 m5; have hM5' := hM4.trans (m5.sub (by simp)); clear hb5 m5 s5))
  have h5 := h5'.drew
  have hM5 : Mod [gr, gp, gm] w { u5 with drawn := u5.drawn + 1 } := hM5'.trans (Mod.drewN 1)
  refine wp_region_hand (fun W' => W'.cell? ⟨gv, 0, none⟩ = some (.pointer (some ⟨gr, 0, none⟩))) (by kernel_rfl) h5.cell ?_
  intro hS
  clear h5' hM5' h4 hM4
  generalize ({ u5 with drawn := u5.drawn + 1 } : World) = u at hS h5 hM5 ⊢
  refine wpAnyH_take (i := 0) (oi := ⟨some 11, _, _, _, _, _⟩) (v := ?_) rfl (by kernel_rfl) (by kernel_rfl) (by kernel_rfl) (fun _ _ _ h => h) (Or.inl ⟨by rfl, ?_⟩) hS ?_
  rotate_left 1
  focus ((intro W' hS'; have q1 := hS'; go_simp) <;> with_reducible rfl)
  try simp only [Act.put, List.setIfInBounds_toArray, List.set_cons_zero, List.set_cons_succ]
  refine wpAnyH_take (i := 3) (oi := ⟨some 14, _, _, _, _, _⟩) (v := ?_) rfl (by kernel_rfl) (by kernel_rfl) (by kernel_rfl) (fun _ _ _ h => h) (Or.inl ⟨by rfl, ?_⟩) hS ?_
  rotate_left 1
  focus ((intro W' hS'; have q1 := hS'; go_simp) <;> with_reducible rfl)
  try simp only [Act.put, List.setIfInBounds_toArray, List.set_cons_zero, List.set_cons_succ]
  refine anyH_one (i := 1) (by kernel_rfl) ⟨some 12, _, _, _, _, _⟩ rfl (by rfl) ?_
  go_simp
  with_reducible refine Calls.mono (N4.out _ _ _ h5) ?_
  rintro e u6 ⟨rfl, h6, m6⟩
  have hM6 := hM5.trans (m6.sub (by simp))
  have hN := h6.cell
  refine ⟨hN, ?_⟩
  clear hS
  have hS := hN
  clear hN
  try simp only [Act.put, List.setIfInBounds_toArray, List.set_cons_zero, List.set_cons_succ]
  refine wpAnyH_take (i := 2) (oi := ⟨some 13, _, _, _, _, _⟩) (v := ?_) rfl (by kernel_rfl) (by kernel_rfl) (by kernel_rfl) (fun _ _ _ h => h) (Or.inl ⟨by rfl, ?_⟩) hS ?_
  rotate_left 1
  focus ((intro W' hS'; have q1 := HW4.out; go_simp) <;> with_reducible rfl)
  try simp only [Act.put, List.setIfInBounds_toArray, List.set_cons_zero, List.set_cons_succ]
  refine anyH_one (i := 4) (by kernel_rfl) ⟨some 15, _, _, _, _, _⟩ rfl (by rfl) ?_
  go_simp
  with_reducible refine Calls.mono (N5.out _ _ _ h6) ?_
  rintro e u7 ⟨rfl, h7, m7⟩
  have hM7 := hM6.trans (m7.sub (by simp))
  have hN := h7.cell
  refine ⟨hN, ?_⟩
  clear hS
  have hS := hN
  clear hN
  try simp only [Act.put, List.setIfInBounds_toArray, List.set_cons_zero, List.set_cons_succ]
  refine wpAnyH_take (i := 5) (oi := ⟨some 16, _, _, _, _, _⟩) (v := ?_) rfl (by kernel_rfl) (by kernel_rfl) (by kernel_rfl) (fun _ _ _ h => h) (Or.inl ⟨by rfl, ?_⟩) hS ?_
  rotate_left 1
  focus ((intro W' hS'; have q1 := HW5.out; go_simp) <;> with_reducible rfl)
  try simp only [Act.put, List.setIfInBounds_toArray, List.set_cons_zero, List.set_cons_succ]
  refine wpAnyH_take (i := 6) (oi := ⟨some 17, _, _, _, _, _⟩) (v := ?_) rfl (by kernel_rfl) (by kernel_rfl) (by kernel_rfl) (fun _ _ _ h => h) (Or.inl ⟨by rfl, ?_⟩) hS ?_
  rotate_left 1
  focus ((intro W' hS'; go_simp) <;> with_reducible rfl)
  try simp only [Act.put, List.setIfInBounds_toArray, List.set_cons_zero, List.set_cons_succ]
  refine anyH_one (i := 7) (by kernel_rfl) ⟨none, _, _, _, _, _⟩ rfl (by rfl) ?_
  refine wp_partF 5 (.tmp 17) (.tmp 13) rfl gp 35 28 _ (Pkt.cells { noPkt with id := idv, hops := xh } nilS) [.int .u8 (xh.toNat : Int)] rfl rfl h7.bp (by show 35 + 1 ≤ 41; omega) (by simp [Value.oneCell']) (by kernel_rfl) rfl ?_
  intro u8' hb8 m8 s8
  have h8 := h7.part hb8 m8
  have hM8 := hM7.trans (m8.sub (by simp))
  have hN := h8.cell
  refine ⟨hN, ?_⟩
  clear hS
  have hS := hN
  clear hN
  try simp only [Act.put, List.setIfInBounds_toArray, List.set_cons_zero, List.set_cons_succ]
  refine wpAnyH_take (i := 8) (oi := ⟨some 18, _, _, _, _, _⟩) (v := ?_) rfl (by kernel_rfl) (by kernel_rfl) (by kernel_rfl) (fun _ _ _ h => h) (Or.inl ⟨by rfl, ?_⟩) hS ?_
  rotate_left 1
  focus ((intro W' hS'; go_simp) <;> with_reducible rfl)
  try simp only [Act.put, List.setIfInBounds_toArray, List.set_cons_zero, List.set_cons_succ]
  refine anyH_one (i := 9) (by kernel_rfl) ⟨none, _, _, _, _, _⟩ rfl (by rfl) ?_
  refine wp_partF 5 (.tmp 18) (.tmp 16) rfl gp 34 28 _ (Pkt.cells { noPkt with id := idv, hops := xh, proto := xp } nilS) [.int .u8 (xp.toNat : Int)] rfl rfl h8.bp (by show 34 + 1 ≤ 41; omega) (by simp [Value.oneCell']) (by kernel_rfl) rfl ?_
  intro u9 hb9 m9 s9
  have h9 := h8.part hb9 m9
  have hM9 := hM8.trans (m9.sub (by simp))
  have hN := h9.cell
  refine ⟨hN, ?_⟩
  clear hS
  have hS := hN
  clear hN
  try simp only [Act.put, List.setIfInBounds_toArray, List.set_cons_zero, List.set_cons_succ]
  refine wpAnyH_done (by kernel_rfl) ?_ _
  have c9 := h9.cell
  clear hS h5 h6 h7 h8 hM5 hM6 hM7 hM8 hb8 hb9 m6 m7 m8 m9 s8 s9
  go_wp2_with fail
  (with_reducible refine Calls.mono (N6.out _ _ _ h9) ?_)
  rintro e u10 ⟨rfl, h10, m10⟩
  have hM10 := hM9.trans (m10.sub (by simp))
  have c10 := h10.cell
  clear h9 m10 c9 hM9
  go_wp2_with fail
  (with_reducible refine Calls.mono (B1.out _ _ _ h10) ?_)
  rintro e u11 ⟨R11, rfl, r11, h11, m11⟩
  have hM11 := hM10.trans (m11.sub (by simp))
  clear h10 m11 c10 hM10
  go_wp2_with fail
  (with_reducible refine Calls.mono (A1.out _ _ r11) ?_)
  rintro e u12 ⟨rfl, hb12⟩
  have h12 := h11.below hb12
  have hM12 := hM11.trans ((Mod.of_below hb12).sub (by simp))
  clear h11 hb12 r11 hM11
  go_wp2_with (first
    | ((with_reducible refine at_store 27 25 ?_); refine wpList_partF rfl 24 (.tmp 27) (.tmp 25) rfl gp 0 28 _ (Pkt.cells { noPkt with id := idv, hops := xh, proto := xp, src := adr4 a1 } nilS) (adr4 a1).cells.toList rfl rfl h12.bp (by show 0 + 17 ≤ 41; omega) (Adr.oneL _) (info_addr _) rfl ?_; intro u13 hb13 m13 s13; have h13 := h12.part hb13 m13; have hM13 := hM12.trans (m13.sub (by simp)); have c13 := h13.cell; clear hb13 m13 s13))
  (with_reducible refine Calls.mono (B2.out _ _ _ h13) ?_)
  rintro e u14 ⟨R14, rfl, r14, h14, m14⟩
  have hM14 := hM13.trans (m14.sub (by simp))
  clear h13 m14 c13 hM13 h12 hM12
  go_wp2_with fail
  (with_reducible refine Calls.mono (A2.out _ _ r14) ?_)
  rintro e u15 ⟨rfl, hb15⟩
  have h15 := h14.below hb15
  have hM15 := hM14.trans ((Mod.of_below hb15).sub (by simp))
  clear h14 hb15 r14 hM14
  go_wp2_with (first
    | ((with_reducible refine at_store 34 32 ?_); refine wpList_partF rfl 24 (.tmp 34) (.tmp 32) rfl gp 17 28 _ (Pkt.cells { noPkt with id := idv, hops := xh, proto := xp, src := adr4 a1, dst := adr4 a2 } nilS) (adr4 a2).cells.toList rfl rfl h15.bp (by show 17 + 17 ≤ 41; omega) (Adr.oneL _) (info_addr _) rfl ?_; intro u16 hb16 m16 s16; have h16 := h15.part hb16 m16; have hM16 := hM15.trans (m16.sub (by simp)); clear hb16 m16 s16))
  go_end0
  exact ⟨rfl, h16, hM16⟩
end Go.Proofs.Ytpcfgihomplehaa
namespace Go.Proofs.Ytpcfgihomplehaa
set_option linter.unusedVariables false
set_option linter.unusedSimpArgs false
open Go.RowKit

theorem and_two (mk i : Nat) : mk &&& 2 ^ i = (decide (mk / 2 ^ i % 2 = 1)).toNat * 2 ^ i := by
  rw [← Nat.testBit_eq_decide_div_mod_eq]
  apply Nat.eq_of_testBit_eq
  intro j
  rw [Nat.testBit_and, Nat.testBit_two_pow]
  by_cases hj : i = j
  · subst hj
    cases hb : mk.testBit i <;> simp [Nat.testBit_two_pow_self]
  · cases mk.testBit i <;> simp [hj, Nat.testBit_two_pow]
theorem and_p (mk i : Nat) (h : mk ≤ 65535) (hi : i < 16) : bits .and .u64 (mk : Int) ((2 ^ i : Nat) : Int) = (((decide (mk / 2 ^ i % 2 = 1)).toNat * 2 ^ i : Nat) : Int) := by
  have h2 : (2 : Nat) ^ i ≤ 2 ^ 16 := Nat.pow_le_pow_right (by omega) (by omega)
  rw [u64_and_nat mk (2 ^ i) (by omega) (by omega), and_two]
theorem and_bit (mk i : Nat) (h : mk ≤ 65535) (hi : i < 16) : ∃ a : Int, bits .and .u64 (mk : Int) ((2 ^ i : Nat) : Int) = a ∧ (a != 0) = decide (mk / 2 ^ i % 2 = 1) := by
  refine ⟨_, and_p mk i h hi, ?_⟩
  have h2 : 0 < (2 : Nat) ^ i := Nat.two_pow_pos i
  generalize 2 ^ i = P at h2 ⊢
  cases decide (mk / P % 2 = 1)
  · simp
  · have h3 : ((Bool.toNat true * P : Nat) : Int) ≠ 0 := by simp; omega
    simpa using h3
theorem and_bit14 (mk : Nat) (h : mk ≤ 65535) : ∃ a : Int, bits .and .u64 (mk : Int) 16384 = a ∧ (a != 0) = decide (mk / 16384 % 2 = 1) := and_bit mk 14 h (by omega)
theorem and_bit13 (mk : Nat) (h : mk ≤ 65535) : ∃ a : Int, bits .and .u64 (mk : Int) 8192 = a ∧ (a != 0) = decide (mk / 8192 % 2 = 1) := and_bit mk 13 h (by omega)
theorem and_bit15 (mk : Nat) (h : mk ≤ 65535) : ∃ a : Int, bits .and .u64 (mk : Int) 32768 = a ∧ (a != 0) = decide (32768 ≤ mk) := by
  obtain ⟨a, h1, h2⟩ := and_bit mk 15 h (by omega)
  refine ⟨a, h1, h2.trans ?_⟩
  rw [Bool.eq_iff_iff]
  simp
  omega
theorem and_low13 (mk : Nat) (h : mk ≤ 65535) : bits .and .u64 (mk : Int) 8191 = ((mk % 8192 : Nat) : Int) := by
  rw [show (8191 : Int) = ((8191 : Nat) : Int) by rfl, u64_and_nat mk 8191 (by omega) (by omega)]
  have := Nat.and_two_pow_sub_one_eq_mod mk 13
  simp only [show (2 : Nat) ^ 13 = 8192 by rfl] at this
  rw [← this]
theorem HSt.mod1 {w w' : World} {gv gr gp gm d n : Nat} {q : Pkt} {mk : Int} {xs : List UInt8} (h : HSt w gv gr gp gm d q mk xs) (hm : Mod [n] w w') (e1 : gv ≠ n) (e2 : gr ≠ n) (e3 : gp ≠ n) (e4 : gm ≠ n) (e5 : d ≠ n) : HSt w' gv gr gp gm d q mk xs :=
  ⟨hm.keeps h.cv (by simpa using e1), hm.keeps h.bp (by simpa using e3), hm.keeps h.bm (by simpa using e4), h.rd.mod hm (by simpa using e2) (by simpa using e5), h.n1, h.n2, h.n3, h.n4, h.n5, h.n6, h.n7, h.n8⟩
theorem tryH (gv gr gp gm d : Nat) (b : List UInt8) (w : World) (h : HSt w gv gr gp gm d noPkt 0 b) (hl : 20 ≤ b.length) (hd : d < w.heap.size) :
    Calls Try.prog 29 #[.func (.func 30) #[] #[.pointer (some ⟨gv, 0, none⟩), .pointer (some ⟨gp, 0, none⟩), .pointer (some ⟨gm, 0, none⟩)]] w fun e w' =>
      e = .returned (.int .i64 0) ∧ HSt w' gv gr gp gm d (pktH b) (mark4 b : Int) (b.drop 20) ∧ Mod [gr, gp, gm] w w' := by
  have l1 := (Array.getElem?_eq_some_iff.1 h.cv).1
  have l2 := (Array.getElem?_eq_some_iff.1 h.bp).1
  have l3 := (Array.getElem?_eq_some_iff.1 h.bm).1
  have l4 := h.rd.lt
  have h0 : Mod [] w (w.alloc (.cells #[.int .i64 0] 31)) := Mod.alloc _
  refine (try_any 30 _ w (fun ok w' => ok = true ∧ HSt w' gv gr gp gm d (pktH b) (mark4 b : Int) (b.drop 20) ∧ Mod [gr, gp, gm] w w') (fun w => by kernel_rfl) ?_).mono ?_
  · refine (clo4_any gv gr gp gm d b _ (h.below (bl1 w _)) hl).mono ?_
    rintro e w' ⟨he, hs, hm⟩
    refine ⟨hm.keeps (nw1 w _) (by simp; omega), .inl ⟨he, rfl, hs, (h0.sub (by simp)).trans hm⟩⟩
  · rintro e w'' ⟨ok, w', ⟨rfl, hs, hm⟩, he, hg, _⟩
    have hm2 := Mod.of_grown hg
    refine ⟨he, hs.mod1 hm2 (by omega) (by omega) (by omega) (by omega) (by omega), ?_⟩
    exact (hm.sub (N := w.heap.size :: [gr, gp, gm]) (fun k hk => by simp at hk ⊢; omega)).trans (hm2.sub (by simp)) |>.old (fun k hk => by
      rcases List.mem_cons.1 hk with h | h
      · exact .inr (by omega)
      · exact .inl h)
end Go.Proofs.Ytpcfgihomplehaa
namespace Go.Proofs.Ytpcfgihomplehaa
set_option linter.unusedVariables false
set_option linter.unusedSimpArgs false
open Go.RowKit

theorem alloc_u64 : ∀ w, (Instr.alloc 44 true (.tuple #[])).run Try.prog w = .ok (.pointer (some ⟨w.heap.size, 0, none⟩)) (w.alloc (.cells #[.int .u64 0] 44)) := by intro w; kernel_rfl
theorem alloc_rdp : ∀ w, (Instr.alloc 57 true (.tuple #[])).run Try.prog w = .ok (.pointer (some ⟨w.heap.size, 0, none⟩)) (w.alloc (.cells #[.pointer none] 57)) := by intro w; kernel_rfl
theorem pkt4_eq (b : List UInt8) : pkt4 b = { pktH b with whole := decide (mark4 b / 16384 % 2 = 1), more := decide (mark4 b / 8192 % 2 = 1), off := ((mark4 b % 8192 : Nat) : Int) * 8, load := (b.drop (size4 b)).take (all4 b - size4 b) } := by
  unfold pkt4 pktH
  rw [List.drop_take]
  simp
theorem parse4_eq2 (b : List UInt8) (h : serr4 b = 0) : parse4 b = if decide (32768 ≤ mark4 b) = true ∨ may4 (pkt4 b) = false then (noPkt, 3) else (pkt4 b, 0) := by
  have e : perr4 b = if 32768 ≤ mark4 b ∨ may4 (pkt4 b) = false then 3 else 0 := by
    rw [perr4_eq]
    exact if_neg (by simp [h])
  unfold parse4
  rw [e]
  by_cases hc : 32768 ≤ mark4 b ∨ may4 (pkt4 b) = false
  · simp [hc]
  · simp [hc]
set_option maxRecDepth 100000 in
set_option maxHeartbeats 2000000 in
theorem parse4_any (v : Value) (b : List UInt8) (w : World) (hx : RB w v b) (hl : b.length ≤ 70368744177664) :
    Calls Try.prog 15 #[v] w (ParPost4 b w) := by
  have HX := hid fun W (h : Below w.heap.size w W) => hx.below h
  have HX0 := hid hx
  obtain ⟨A, c, rfl, hrow⟩ := hx
  have hcap := hrow.cap
  have htop := hrow.top
  clear hrow
  have HSZ := hid fun W (h : Below w.heap.size w W) => size4_any _ b W (HX.out W h) hl
  unfold SizePost at HSZ
  go_enter Try.func15, Try.ntmps15
  go_step
  go_step
  refine wpList_allocF rfl 28 rfl (noPkt.cells nilS) alloc_noPkt ?_
  intro w1 h0 hb1 hs1
  have hl1 : w.heap.size < w1.heap.size := by omega
  clear hs1
  by_cases hs : serr4 b = 0
  · have hz := serr4_ok b hs
    have hmk : mark4 b ≤ 65535 := be2_max b 6
    have hpar := parse4_eq2 b hs
    simp only [hs, if_true] at HSZ
    have HRd := hid fun W (h : Below w.heap.size w W) => readD _ b W (HX.out W h) hl
    have HT := hid fun W gv gr gp gm d (h : HSt W gv gr gp gm d noPkt 0 b) (hd : d < W.heap.size) => tryH gv gr gp gm d b W h hz.len hd
    have hu := hz.up
    have hmid := hz.mid
    rw [pkt4_eq] at hpar
    obtain ⟨B40, k40, r40, hr40, _⟩ := cut_lh HX0.out (size4 b) (all4 b) (size4 b : Int) (all4 b : Int) rfl rfl hmid hu
    obtain ⟨a1, HA1, HB1⟩ := and_bit14 (mark4 b) hmk
    obtain ⟨a2, HA2, HB2⟩ := and_bit13 (mark4 b) hmk
    obtain ⟨a4, HA4, HB4⟩ := and_bit15 (mark4 b) hmk
    have HA3 := and_low13 (mark4 b) hmk
    have hys : ((b.drop (size4 b)).take (all4 b - size4 b)).length ≤ 70368744177664 := by rw [List.length_take, List.length_drop]; omega
    have hql : (pktH b).Ok := ⟨by show be ((b.drop 4).take 2) ≤ 4294967295; have := be2_max b 4; omega, by show -9223372036854775808 ≤ (0 : Int) ∧ (0 : Int) ≤ 9223372036854775807; decide⟩
    have hmk8 : mark4 b % 8192 < 8192 := Nat.mod_lt _ (by decide)
    clear hz hs
    generalize decide (mark4 b / 16384 % 2 = 1) = wb at hpar HB1
    generalize decide (mark4 b / 8192 % 2 = 1) = mb at hpar HB2
    generalize decide (32768 ≤ mark4 b) = ob at hpar HB4
    generalize mark4 b % 8192 = a3 at hpar HA3 hmk8
    generalize (b.drop (size4 b)).take (all4 b - size4 b) = ys at hpar hr40 hys
    generalize pktH b = q at hpar HT hql
    generalize mark4 b = mk at HA1 HA2 HA3 HA4 HT hmk
    generalize size4 b = sz at *
    generalize all4 b = al at *
    have hWO : IntKind.i64.wrap (a3 : Int) = (a3 : Int) := by rw [IntKind.wrap_i64]; omega
    have hMO : IntKind.i64.wrap ((a3 : Int) * 8) = (a3 : Int) * 8 := by rw [IntKind.wrap_i64]; omega
    have HOK : Hid (Pkt.Ok { q with whole := wb, more := mb, off := (a3 : Int) * 8, load := ys }) := ⟨hql.id, by show -9223372036854775808 ≤ (a3 : Int) * 8 ∧ (a3 : Int) * 8 ≤ 9223372036854775807; omega⟩
    have HM := hid fun W dv (h : RB W dv ys) => may4_any { q with whole := wb, more := mb, off := (a3 : Int) * 8, load := ys } dv W HOK.out h
    unfold Pkt.v at HM
    have HPAR := hid hpar
    clear hpar hql hmk8
    have HA1 := hid HA1
    have HB1 := hid HB1
    have HA2 := hid HA2
    have HB2 := hid HB2
    have HA3 := hid HA3
    have HWO := hid hWO
    have HMO := hid hMO
    clear hWO hMO
    have hmf : ∀ (fn : Fn) (first cap : Array Value) (w : World), (Instr.makeFunc fn first cap).run Try.prog w = .ok (.func fn first cap) w := fun _ _ _ _ => rfl
    go_wp2_with (first
      | (go_at_call 27; (with_reducible refine Calls.mono (HSZ.out _ hb1) ?_); rintro e w2 ⟨rfl, hb2⟩)
      | ((with_reducible refine at_slot 7 ?_); refine wpList_allocF rfl 28 rfl (noPkt.cells nilS) alloc_noPkt ?_; intro w3 h3 hb3 s3; have z3a := Nat.le_of_eq s3; have z3b := Nat.le_of_eq s3.symm; clear s3)
      | ((with_reducible refine at_slot 8 ?_); refine wpList_allocF rfl 44 rfl #[.int .u64 0] alloc_u64 ?_; intro w4 h4 hb4 s4; have z4a := Nat.le_of_eq s4; have z4b := Nat.le_of_eq s4.symm; clear s4; have E4 := below_after hb1 (below_after hb2 (below_after hb3 hb4 (Nat.le_refl _)) (Nat.le_refl _)) (Nat.le_refl _))
      | (go_at_call 28; (with_reducible refine Calls.mono (HRd.out _ E4) ?_); rintro e w5 ⟨gr, d, rfl, hg5, hd5, hdg5, rd5, hb5⟩)
      | ((with_reducible refine at_slot 9 ?_); refine wpList_allocF rfl 57 rfl #[.pointer none] alloc_rdp ?_; intro w6 h6 hb6 s6; have z6a := Nat.le_of_eq s6; have z6b := Nat.le_of_eq s6.symm; clear s6)
      | ((with_reducible refine at_store 9 21 ?_); refine wpList_partF rfl 57 (.tmp 9) (.tmp 21) rfl w5.heap.size 0 57 _ #[.pointer (some ⟨gr, 0, none⟩)] [.pointer (some ⟨gr, 0, none⟩)] rfl rfl h6 (Nat.le_refl 1) (by simp [Value.oneCell']) (by kernel_rfl) rfl ?_; intro w7 h7 m7 s7; have z7a := Nat.le_of_eq s7; have z7b := Nat.le_of_eq s7.symm; clear s7))
    have z2 := hb2.size
    have z5 := hb5.size
    have zr := rd5.lt
    have E1 := below_after hb2 (below_after hb3 (below_after hb4 (below_after hb5 hb6 (Nat.le_refl _)) (Nat.le_refl _)) (Nat.le_refl _)) (Nat.le_refl _)
    have D17 := m7.below E1 (Nat.le_refl _) (by simp; omega)
    have D07 := m7.below (below_after hb1 E1 (Nat.le_refl _)) (Nat.le_refl _) (by simp; omega)
    have x3 := m7.keeps ((hb6.block _ (by omega)).trans ((hb5.block _ (by omega)).trans ((hb4.block _ (by omega)).trans h3))) (by simp; omega)
    have x4 := m7.keeps ((hb6.block _ (by omega)).trans ((hb5.block _ (by omega)).trans h4)) (by simp; omega)
    have hst7 : HSt w7 w5.heap.size gr w2.heap.size w3.heap.size d noPkt 0 b :=
      ⟨h7, x3, x4, (rd5.below hb6).mod m7 (by simp; omega) (by simp; omega), by omega, by omega, by omega, by omega, by omega, by omega, by omega, by omega⟩
    have hdl : d < w7.heap.size := by omega
    have g2 : w1.heap.size ≤ w2.heap.size := z2
    have g3 : w2.heap.size < w3.heap.size := by omega
    have gr1 : w3.heap.size < gr := by omega
    clear x3 x4 E1 E4 m7 h7 h6 h4 h3 hb2 hb3 hb4 hb5 hb6 rd5 z2 z5 zr hg5 hd5 hdg5 z3a z3b z4a z4b z6a z6b z7a z7b
    generalize w2.heap.size = gp at *
    generalize w3.heap.size = gm at *
    generalize w5.heap.size = gv at *
    (with_reducible refine Calls.mono (HT.out _ _ _ _ _ _ hst7 hdl) ?_)
    rintro e w8 ⟨rfl, hst8, m8⟩
    have D18' := m8.below D17 (Nat.le_refl _) (by simp; omega)
    have D08' := m8.below D07 (Nat.le_refl _) (by simp; omega)
    have k8' := hst8.bp
    have c8' := cellRow hst8.bm 0
    clear m8 hst8 hst7 D17 D07 hdl
    go_wp2_with fail
    have k8 : ({ w8 with drawn := w8.drawn + 1 } : World).heap[gp]? = some (.cells (q.cells nilS) 28 (0, 0)) := k8'
    have D18 : Below w1.heap.size w1 { w8 with drawn := w8.drawn + 1 } := below_drewN D18' 1
    have D08 : Below w.heap.size w { w8 with drawn := w8.drawn + 1 } := below_drewN D08' 1
    refine wp_region_hand (fun W' => W'.cell? ⟨gm, 0, none⟩ = some (.int .u64 (mk : Int))) (by kernel_rfl) c8' ?_
    intro hS
    clear D18' D08' k8' c8'
    generalize ({ w8 with drawn := w8.drawn + 1 } : World) = u8' at hS k8 D18 D08 ⊢
    refine wpAnyH_take (i := 0) (oi := ⟨some 24, _, _, _, _, _⟩) (v := ?_) rfl (by kernel_rfl) (by kernel_rfl) (by kernel_rfl) (fun _ _ _ h => h) (Or.inl ⟨by rfl, ?_⟩) hS ?_
    rotate_left 1
    focus ((intro W' hS'; have q1 := hS'; go_simp) <;> with_reducible rfl)
    try simp only [Act.put, List.setIfInBounds_toArray, List.set_cons_zero, List.set_cons_succ]
    refine wpAnyH_take (i := 1) (oi := ⟨some 25, _, _, _, _, _⟩) (v := ?_) rfl (by kernel_rfl) (by kernel_rfl) (by kernel_rfl) (fun _ _ _ h => h) (Or.inl ⟨by rfl, ?_⟩) hS ?_
    rotate_left 1
    focus ((intro W' hS'; have q1 := HA1.out; go_simp) <;> with_reducible rfl)
    try simp only [Act.put, List.setIfInBounds_toArray, List.set_cons_zero, List.set_cons_succ]
    refine wpAnyH_take (i := 2) (oi := ⟨some 26, _, _, _, _, _⟩) (v := ?_) rfl (by kernel_rfl) (by kernel_rfl) (by kernel_rfl) (fun _ _ _ h => h) (Or.inl ⟨by rfl, ?_⟩) hS ?_
    rotate_left 1
    focus ((intro W' hS'; have q1 := HB1.out; go_simp) <;> with_reducible rfl)
    try simp only [Act.put, List.setIfInBounds_toArray, List.set_cons_zero, List.set_cons_succ]
    refine wpAnyH_take (i := 3) (oi := ⟨some 27, _, _, _, _, _⟩) (v := ?_) rfl (by kernel_rfl) (by kernel_rfl) (by kernel_rfl) (fun _ _ _ h => h) (Or.inl ⟨by rfl, ?_⟩) hS ?_
    rotate_left 1
    focus ((intro W' hS'; have q1 := hS'; go_simp) <;> with_reducible rfl)
    try simp only [Act.put, List.setIfInBounds_toArray, List.set_cons_zero, List.set_cons_succ]
    refine wpAnyH_take (i := 4) (oi := ⟨some 28, _, _, _, _, _⟩) (v := ?_) rfl (by kernel_rfl) (by kernel_rfl) (by kernel_rfl) (fun _ _ _ h => h) (Or.inl ⟨by rfl, ?_⟩) hS ?_
    rotate_left 1
    focus ((intro W' hS'; have q1 := HA2.out; go_simp) <;> with_reducible rfl)
    try simp only [Act.put, List.setIfInBounds_toArray, List.set_cons_zero, List.set_cons_succ]
    refine wpAnyH_take (i := 5) (oi := ⟨some 29, _, _, _, _, _⟩) (v := ?_) rfl (by kernel_rfl) (by kernel_rfl) (by kernel_rfl) (fun _ _ _ h => h) (Or.inl ⟨by rfl, ?_⟩) hS ?_
    rotate_left 1
    focus ((intro W' hS'; have q1 := HB2.out; go_simp) <;> with_reducible rfl)
    try simp only [Act.put, List.setIfInBounds_toArray, List.set_cons_zero, List.set_cons_succ]
    refine wpAnyH_take (i := 6) (oi := ⟨some 30, _, _, _, _, _⟩) (v := ?_) rfl (by kernel_rfl) (by kernel_rfl) (by kernel_rfl) (fun _ _ _ h => h) (Or.inl ⟨by rfl, ?_⟩) hS ?_
    rotate_left 1
    focus ((intro W' hS'; have q1 := hS'; go_simp) <;> with_reducible rfl)
    try simp only [Act.put, List.setIfInBounds_toArray, List.set_cons_zero, List.set_cons_succ]
    refine wpAnyH_take (i := 7) (oi := ⟨some 31, _, _, _, _, _⟩) (v := ?_) rfl (by kernel_rfl) (by kernel_rfl) (by kernel_rfl) (fun _ _ _ h => h) (Or.inl ⟨by rfl, ?_⟩) hS ?_
    rotate_left 1
    focus ((intro W' hS'; have q1 := HA3.out; go_simp) <;> with_reducible rfl)
    try simp only [Act.put, List.setIfInBounds_toArray, List.set_cons_zero, List.set_cons_succ]
    refine wpAnyH_take (i := 8) (oi := ⟨some 32, _, _, _, _, _⟩) (v := ?_) rfl (by kernel_rfl) (by kernel_rfl) (by kernel_rfl) (fun _ _ _ h => h) (Or.inl ⟨by rfl, ?_⟩) hS ?_
    rotate_left 1
    focus ((intro W' hS'; have q1 := HWO.out; go_simp) <;> with_reducible rfl)
    try simp only [Act.put, List.setIfInBounds_toArray, List.set_cons_zero, List.set_cons_succ]
    refine wpAnyH_take (i := 9) (oi := ⟨some 33, _, _, _, _, _⟩) (v := ?_) rfl (by kernel_rfl) (by kernel_rfl) (by kernel_rfl) (fun _ _ _ h => h) (Or.inl ⟨by rfl, ?_⟩) hS ?_
    rotate_left 1
    focus ((intro W' hS'; have q1 := HMO.out; go_simp) <;> with_reducible rfl)
    try simp only [Act.put, List.setIfInBounds_toArray, List.set_cons_zero, List.set_cons_succ]
    refine wpAnyH_take (i := 10) (oi := ⟨some 34, _, _, _, _, _⟩) (v := ?_) rfl (by kernel_rfl) (by kernel_rfl) (by kernel_rfl) (fun _ _ _ h => h) (Or.inl ⟨by rfl, ?_⟩) hS ?_
    rotate_left 1
    focus ((intro W' hS'; go_simp) <;> with_reducible rfl)
    try simp only [Act.put, List.setIfInBounds_toArray, List.set_cons_zero, List.set_cons_succ]
    refine anyH_one (i := 11) (by kernel_rfl) ⟨none, _, _, _, _, _⟩ rfl (by rfl) ?_
    refine wp_partF 4 (.tmp 34) (.tmp 26) rfl gp 37 28 _ (Pkt.cells { q with whole := wb } nilS) [.bool wb] rfl rfl k8 (by show 37 + 1 ≤ 41; omega) (by simp [Value.oneCell']) (by kernel_rfl) rfl ?_
    intro u9 k9 m9 s9
    have hN := m9.cell hS (by simp; omega)
    have D19 := m9.below D18 (Nat.le_refl _) (by simp; omega)
    have D09 := m9.below D08 (Nat.le_refl _) (by simp; omega)
    refine ⟨hN, ?_⟩
    clear hS m9 s9
    have hS := hN
    clear hN
    try simp only [Act.put, List.setIfInBounds_toArray, List.set_cons_zero, List.set_cons_succ]
    refine wpAnyH_take (i := 12) (oi := ⟨some 35, _, _, _, _, _⟩) (v := ?_) rfl (by kernel_rfl) (by kernel_rfl) (by kernel_rfl) (fun _ _ _ h => h) (Or.inl ⟨by rfl, ?_⟩) hS ?_
    rotate_left 1
    focus ((intro W' hS'; go_simp) <;> with_reducible rfl)
    try simp only [Act.put, List.setIfInBounds_toArray, List.set_cons_zero, List.set_cons_succ]
    refine anyH_one (i := 13) (by kernel_rfl) ⟨none, _, _, _, _, _⟩ rfl (by rfl) ?_
    refine wp_partF 4 (.tmp 35) (.tmp 29) rfl gp 38 28 _ (Pkt.cells { q with whole := wb, more := mb } nilS) [.bool mb] rfl rfl k9 (by show 38 + 1 ≤ 41; omega) (by simp [Value.oneCell']) (by kernel_rfl) rfl ?_
    intro u10 k10 m10 s10
    have hN := m10.cell hS (by simp; omega)
    have D110 := m10.below D19 (Nat.le_refl _) (by simp; omega)
    have D010 := m10.below D09 (Nat.le_refl _) (by simp; omega)
    refine ⟨hN, ?_⟩
    clear hS m10 s10
    have hS := hN
    clear hN
    try simp only [Act.put, List.setIfInBounds_toArray, List.set_cons_zero, List.set_cons_succ]
    refine wpAnyH_take (i := 14) (oi := ⟨some 36, _, _, _, _, _⟩) (v := ?_) rfl (by kernel_rfl) (by kernel_rfl) (by kernel_rfl) (fun _ _ _ h => h) (Or.inl ⟨by rfl, ?_⟩) hS ?_
    rotate_left 1
    focus ((intro W' hS'; go_simp) <;> with_reducible rfl)
    try simp only [Act.put, List.setIfInBounds_toArray, List.set_cons_zero, List.set_cons_succ]
    refine anyH_one (i := 15) (by kernel_rfl) ⟨none, _, _, _, _, _⟩ rfl (by rfl) ?_
    refine wp_partF 3 (.tmp 36) (.tmp 33) rfl gp 39 28 _ (Pkt.cells { q with whole := wb, more := mb, off := (a3 : Int) * 8 } nilS) [.int .i64 ((a3 : Int) * 8)] rfl rfl k10 (by show 39 + 1 ≤ 41; omega) (by simp [Value.oneCell']) (by kernel_rfl) rfl ?_
    intro u11 k11 m11 s11
    have hN := m11.cell hS (by simp; omega)
    have D111 := m11.below D110 (Nat.le_refl _) (by simp; omega)
    have D011 := m11.below D010 (Nat.le_refl _) (by simp; omega)
    refine ⟨hN, ?_⟩
    clear hS m11 s11
    have hS := hN
    clear hN
    try simp only [Act.put, List.setIfInBounds_toArray, List.set_cons_zero, List.set_cons_succ]
    refine wpAnyH_done (by kernel_rfl) ?_ _
    clear k8 k9 k10 D18 D19 D110 D08 D09 D010
    have c11 := hS
    clear hS
    go_wp2_with fail
    (with_reducible refine Calls.mono (clone_any _ ys _ (hr40.below D011) hys) ?_)
    rintro e u12 ⟨A12, k12', rfl, o12, hb12⟩
    have D112 := D111.trans (hb12.mono D111.size)
    have D012 := below_after D011 hb12 (Nat.le_refl _)
    have hgpl := (Array.getElem?_eq_some_iff.1 k11).1
    have k12 := (hb12.block _ hgpl).trans k11
    have c12 := keep_cell hb12 c11 (World.block_lt_of_cell? _ _ c11)
    obtain ⟨dd, hdd1, hdd2, _⟩ := o12.inb
    have r12 := o12.rb
    have D011z := D011.size
    clear hb12 o12 k11 c11 D111 D011 hr40 r40
    have hsl : w.heap.size < gp := by omega
    cases ob
    · go_wp2_with (first
        | ((with_reducible refine at_store 42 41 ?_); refine wpList_partF rfl 26 (.tmp 42) (.tmp 41) rfl gp 40 28 _ (Pkt.cells { q with whole := wb, more := mb, off := (a3 : Int) * 8, load := ys } (.slice A12 ys.length k12')) [.slice A12 ys.length k12'] rfl rfl k12 (by show 40 + 1 ≤ 41; omega) (by simp [Value.oneCell']) (by kernel_rfl) rfl ?_; intro u13 k13 m13 s13; have c13 := m13.cell c12 (by simp; omega); have D113 := m13.below D112 (Nat.le_refl _) (by simp; omega); have D013 := m13.below D012 (Nat.le_refl _) (by simp; omega))
        | ((with_reducible refine at_slot 47 ?_); refine wpList_rowG rfl 28 (.tmp 7) rfl gp rfl _ (Pkt.cells { q with whole := wb, more := mb, off := (a3 : Int) * 8, load := ys } (.slice A12 ys.length k12')) _ k13 Try.underlying28 rfl (info_pkt _ _) ?_))
      have r13 := r12.mod m13 hdd1 (by simp; omega)
      (with_reducible refine Calls.mono (HM.out _ _ r13) ?_)
      rintro e u14 ⟨rfl, hb14⟩
      have r14 := r13.below hb14
      have D114 := D113.trans (hb14.mono D113.size)
      have D014 := below_after D013 hb14 (Nat.le_refl _)
      have k14 := (hb14.block _ (Array.getElem?_eq_some_iff.1 k13).1).trans k13
      have n14 := (D114.block _ hl1).trans h0
      clear hb14 r13 D113 D013 k13 D112 D012 k12 c12 r12 m13 c13
      cases hm : may4 { q with whole := wb, more := mb, off := (a3 : Int) * 8, load := ys }
      · have HP := hid (show parse4 b = (noPkt, 3) by rw [HPAR.out, if_pos (.inr hm)])
        clear hm
        go_wp2_with (first
          | ((with_reducible refine at_build 28 ?_); refine wpList_buildF rfl 28 _ rfl #[] rfl _ build_noPkt ?_)
          | ((with_reducible refine at_store 2 51 ?_); refine wpList_rowF rfl 28 (.tmp 2) (.tmp 51) rfl w.heap.size 28 _ (noPkt.cells nilS) rfl rfl n14 (info_pkt _ _) rfl (Pkt.one _ _ rfl) ?_; intro u15 h15 m15 s15))
        exact ret_cell_tmp rfl rfl rfl h15 Try.underlying28 rfl (info_pkt _ _) (ParPost4.err HP.out (m15.below D014 (Nat.le_refl _) (by simp)))
      · have HP := hid (show parse4 b = ({ q with whole := wb, more := mb, off := (a3 : Int) * 8, load := ys }, 0) by rw [HPAR.out, if_neg (by rw [hm]; simp)])
        clear hm
        go_wp2_with (first
          | ((with_reducible refine at_slot 52 ?_); refine wpList_load_row rfl 28 (.tmp 7) rfl gp rfl _ (Pkt.cells { q with whole := wb, more := mb, off := (a3 : Int) * 8, load := ys } (.slice A12 ys.length k12')) _ _ k14 Try.underlying28 rfl (info_pkt _ _) ?_)
          | ((with_reducible refine at_store 2 52 ?_); refine wpList_rowF rfl 28 (.tmp 2) (.tmp 52) rfl w.heap.size 28 _ (Pkt.cells { q with whole := wb, more := mb, off := (a3 : Int) * 8, load := ys } (.slice A12 ys.length k12')) rfl rfl n14 (info_pkt _ _) rfl (Pkt.one _ _ rfl) ?_; intro u15 h15 m15 s15))
        exact ret_cell_tmp rfl rfl rfl h15 Try.underlying28 rfl (info_pkt _ _) ⟨.slice A12 ys.length k12', by rw [HP.out]; rfl, by rw [HP.out]; exact r14.mod m15 hdd1 (by simp; have := D011z; omega), m15.below D014 (Nat.le_refl _) (by simp)⟩
    · have HP := hid (show parse4 b = (noPkt, 3) by rw [HPAR.out, if_pos (.inl rfl)])
      have n13 := (D112.block _ hl1).trans h0
      go_wp2_with (first
        | ((with_reducible refine at_store 42 41 ?_); refine wpList_partF rfl 26 (.tmp 42) (.tmp 41) rfl gp 40 28 _ (Pkt.cells { q with whole := wb, more := mb, off := (a3 : Int) * 8, load := ys } (.slice A12 ys.length k12')) [.slice A12 ys.length k12'] rfl rfl k12 (by show 40 + 1 ≤ 41; omega) (by simp [Value.oneCell']) (by kernel_rfl) rfl ?_; intro u13 k13 m13 s13; have c13 := m13.cell c12 (by simp; omega); have D113 := m13.below D112 (Nat.le_refl _) (by simp; omega); have D013 := m13.below D012 (Nat.le_refl _) (by simp; omega); have n13' := m13.keeps n13 (by simp; omega))
        | ((with_reducible refine at_build 28 ?_); refine wpList_buildF rfl 28 _ rfl #[] rfl _ build_noPkt ?_)
        | ((with_reducible refine at_store 2 51 ?_); refine wpList_rowF rfl 28 (.tmp 2) (.tmp 51) rfl w.heap.size 28 _ (noPkt.cells nilS) rfl rfl n13' (info_pkt _ _) rfl (Pkt.one _ _ rfl) ?_; intro u15 h15 m15 s15))
      exact ret_cell_tmp rfl rfl rfl h15 Try.underlying28 rfl (info_pkt _ _) (ParPost4.err HP.out (m15.below D013 (Nat.le_refl _) (by simp)))
  · have HP := hid (show parse4 b = (noPkt, serr4 b) by unfold parse4; rw [perr4_eq, if_pos hs, if_neg hs])
    simp only [if_neg hs] at HSZ
    generalize serr4 b = n at HSZ HP hs
    have n1 : ((n : Int) != 0) = true := by simpa using hs
    have n2 : decide (n = 0) = false := decide_eq_false hs
    go_wp2_with (first
      | (go_at_call 27; (with_reducible refine Calls.mono (HSZ.out _ hb1) ?_); rintro e w2 ⟨rfl, hb2⟩; have h2 := (hb2.block _ hl1).trans h0)
      | ((with_reducible refine at_build 28 ?_); refine wpList_buildF rfl 28 _ rfl #[] rfl _ build_noPkt ?_)
      | ((with_reducible refine at_store 2 18 ?_); refine wpList_rowF rfl 28 (.tmp 2) (.tmp 18) rfl w.heap.size 28 _ (noPkt.cells nilS) rfl rfl h2 (info_pkt _ _) rfl (Pkt.one _ _ rfl) ?_; intro w3 h3 m3 s3))
    exact ret_cell_tmp rfl rfl rfl h3 Try.underlying28 rfl (info_pkt _ _) (ParPost4.err HP.out (m3.below (below_after hb1 hb2 (Nat.le_refl _)) (Nat.le_refl _) (by simp)))
end Go.Proofs.Ytpcfgihomplehaa
