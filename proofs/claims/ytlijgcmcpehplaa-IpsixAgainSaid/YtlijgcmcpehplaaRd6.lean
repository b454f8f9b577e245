/- Walk: ipsix's reader, header. -/
import Derived.Test.YtlijgcmcpehplaaRdr
import Derived.Test.YtlijgcmcpehplaaPktA
import Derived.Test.YtlijgcmcpehplaaOctT
import Derived.Test.YtlijgcmcpehplaaBits
namespace Go.Proofs.Ytlijgcmcpehplaa
set_option linter.unusedVariables false
set_option linter.unusedSimpArgs false
open Go.RowKit

def rdCells (g : Nat) (p : Pkt) (dv : Value) : Array Value := ⟨.pointer (some ⟨g, 0, none⟩) :: (p.cells dv).toList⟩
structure RSt (w : World) (b g d : Nat) (p : Pkt) (dv : Value) (xs : List UInt8) : Prop where
  blk : w.heap[b]? = some (.cells (rdCells g p dv) 61 (0, 0))
  rdr : RdrD w g d xs
  bg : b ≠ g
  bd : b ≠ d
  dg : d ≤ g
theorem RSt.mod {w w' : World} {b g d : Nat} {p : Pkt} {dv : Value} {xs : List UInt8} {M : List Nat} (h : RSt w b g d p dv xs) (hm : Mod M w w') (h1 : b ∉ M) (h2 : g ∉ M) (h3 : d ∉ M) : RSt w' b g d p dv xs :=
  ⟨hm.keeps h.blk h1, h.rdr.mod hm h2 h3, h.bg, h.bd, h.dg⟩
theorem RSt.set {w : World} {b g d k : Nat} {p p' : Pkt} {dv dv' v : Value} {xs : List UInt8} (h : RSt w b g d p dv xs) (hp : (rdCells g p dv).setIfInBounds k v = rdCells g p' dv') : RSt (w.setCell ⟨b, k, none⟩ v) b g d p' dv' xs :=
  ⟨by rw [← hp]; exact rowSetCell h.blk k v, h.rdr.mod (Mod.setCell (M := [b]) b k v (by simp)) (by simp; exact fun e => h.bg e.symm) (by simp; exact fun e => h.bd e.symm), h.bg, h.bd, h.dg⟩
theorem RSt.lt {w : World} {b g d : Nat} {p : Pkt} {dv : Value} {xs : List UInt8} (h : RSt w b g d p dv xs) : b < w.heap.size := (Array.getElem?_eq_some_iff.1 h.blk).1
theorem RSt.cells {w : World} {b g d : Nat} {p : Pkt} {dv : Value} {xs : List UInt8} (h : RSt w b g d p dv xs) :
    w.cell? ⟨b, 0, none⟩ = some (.pointer (some ⟨g, 0, none⟩)) ∧ w.cell? ⟨b, 35, none⟩ = some (.int .u8 (p.proto.toNat : Int)) ∧ w.cell? ⟨b, 36, none⟩ = some (.int .u8 (p.hops.toNat : Int)) ∧
    w.cell? ⟨b, 37, none⟩ = some (.int .u32 (p.id : Int)) ∧ w.cell? ⟨b, 38, none⟩ = some (.bool p.whole) ∧ w.cell? ⟨b, 39, none⟩ = some (.bool p.more) ∧ w.cell? ⟨b, 40, none⟩ = some (.int .i64 p.off) ∧ w.cell? ⟨b, 41, none⟩ = some dv ∧
    ∀ k, w.frozen? ⟨b, k, none⟩ = false :=
  ⟨(cellRow h.blk _).trans rfl, (cellRow h.blk _).trans rfl, (cellRow h.blk _).trans rfl, (cellRow h.blk _).trans rfl, (cellRow h.blk _).trans rfl, (cellRow h.blk _).trans rfl, (cellRow h.blk _).trans rfl, (cellRow h.blk _).trans rfl, fun k => frozRow h.blk k⟩
theorem RSt.num {w : World} {b g d : Nat} {p : Pkt} {dv : Value} {xs : List UInt8} (h : RSt w b g d p dv xs) (k : Nat) (hk0 : 0 < k) (hk8 : k ≤ 8) :
    Calls Try.prog 40 #[.pointer (some ⟨g, 0, none⟩), .int .i64 (k : Int)] w fun e w' => (k ≤ xs.length ∧ e = .returned (.int .u64 (be (xs.take k) : Int)) ∧ RSt w' b g d p dv (xs.drop k) ∧ Mod [g] w w' ∧ w'.heap.size = w.heap.size) ∨ (xs.length < k ∧ e = .panicked stopC ∧ w = w') := by
  refine (numT g d xs k hk0 hk8 w h.rdr).mono fun e w' hh => ?_
  rcases hh with ⟨h1, h2, h3, h4, h5⟩ | h1
  · refine .inl ⟨h1, ?_, ⟨h4.keeps h.blk (by simp; exact h.bg), h3, h.bg, h.bd, h.dg⟩, h4, h5⟩
    rw [getS_short _ (by rw [List.length_take]; omega)] at h2
    exact h2
  · exact .inr h1
theorem RSt.bytes {w : World} {b g d : Nat} {p : Pkt} {dv : Value} {xs : List UInt8} (h : RSt w b g d p dv xs) (k : Nat) (n : Int) (hn : n = (k : Int)) (hk0 : 0 < k) :
    Calls Try.prog 33 #[.pointer (some ⟨g, 0, none⟩), .int .i64 n] w fun e w' => (k ≤ xs.length ∧ (∃ A, e = .returned (.slice A k k)) ∧ RSt w' b g d p dv (xs.drop k) ∧ Mod [g] w w' ∧ w'.heap.size = w.heap.size) ∨ (xs.length < k ∧ e = .panicked stopC ∧ w = w') := by
  subst hn
  by_cases hk : k ≤ xs.length
  · refine (bytesD g d xs k hk0 hk w h.rdr).mono ?_
    rintro e w' ⟨A, rfl, h1, h2, h3, h4, h5⟩
    have h6 := Mod.of_grown h4
    exact .inl ⟨hk, ⟨A, rfl⟩, ⟨h6.keeps h.blk (by simp; exact h.bg), h3, h.bg, h.bd, h.dg⟩, h6, h5⟩
  · exact (bytes_stop _ (k : Int) w xs.length (by omega) (left_any g xs w h.rdr.rdr)).mono fun e w' h => .inr ⟨by omega, h⟩
def hdS (p : Pkt) (xs : List UInt8) : Option (Pkt × List UInt8) :=
  if p.proto = 44 then
    (if xs.length < 8 then none else some ({ p with proto := xs.getD 0 0, whole := false, more := decide (be ((xs.drop 2).take 2) % 2 = 1), off := ((be ((xs.drop 2).take 2) / 8 * 8 : Nat) : Int), id := be ((xs.drop 4).take 4) }, xs.drop 8))
  else if xs.length < 2 then none else if xs.length < 8 * ((xs.getD 1 0).toNat + 1) then none else some ({ p with proto := xs.getD 0 0 }, xs.drop (8 * ((xs.getD 1 0).toNat + 1)))
def HdPost (b g d : Nat) (p : Pkt) (dv : Value) (xs : List UInt8) (w : World) (e : Ending) (w' : World) : Prop :=
  Mod [b, g] w w' ∧ w'.heap.size = w.heap.size ∧ match hdS p xs with
    | some (p', ys) => e = .returned (.tuple #[]) ∧ RSt w' b g d p' dv ys
    | none => e = .panicked stopC
theorem HdPost.stop {b g d : Nat} {p : Pkt} {dv : Value} {xs : List UInt8} {w w' : World} (m : Mod [b, g] w w') (hs : w'.heap.size = w.heap.size) (h : hdS p xs = none) : HdPost b g d p dv xs w (.panicked stopC) w' :=
  ⟨m, hs, by rw [h]⟩
theorem HdPost.done {b g d : Nat} {p p' : Pkt} {dv : Value} {xs ys : List UInt8} {w w' : World} (m : Mod [b, g] w w') (hs : w'.heap.size = w.heap.size) (h : hdS p xs = some (p', ys)) (hr : RSt w' b g d p' dv ys) : HdPost b g d p dv xs w (.returned (.tuple #[])) w' :=
  ⟨m, hs, by rw [h]; exact ⟨rfl, hr⟩⟩
theorem hdS_short (p : Pkt) (xs : List UInt8) (h : xs.length < 2) : hdS p xs = none := by
  unfold hdS
  by_cases h4 : p.proto = 44
  · rw [if_pos h4, if_pos (by omega)]
  · rw [if_neg h4, if_pos h]
theorem be_one (x : UInt8) (ys : List UInt8) : be (List.take 1 (x :: ys)) = x.toNat := by simp [be]
theorem off_bits (n : Nat) : ((n : Int) % 2 == 1) = decide (n % 2 = 1) := by
  rw [Bool.eq_iff_iff]; simp; omega
set_option maxHeartbeats 1000000 in
theorem header_any (w : World) (b g d : Nat) (p : Pkt) (dv : Value) (xs : List UInt8) (h : RSt w b g d p dv xs) :
    Calls Try.prog 38 #[.pointer (some ⟨b, 0, none⟩)] w (HdPost b g d p dv xs w) := by
  obtain ⟨c0, c1, c2, c3, c4, c5, c6, c7, cf⟩ := h.cells
  have H := hid h
  have hbl := h.lt
  have hbg := h.bg
  clear h
  have hk := p.proto.toNat_lt
  go_enter Try.func38, Try.ntmps38
  go_wp2_with fail
  with_reducible refine Calls.mono (H.out.num 1 (by omega) (by omega)) ?_
  rintro e w1 (⟨hl, rfl, h1, m1, s1⟩ | ⟨hl, rfl, rfl⟩)
  · obtain ⟨x, ys, rfl⟩ : ∃ x ys, xs = x :: ys := by
      cases xs with
      | nil => simp at hl
      | cons x ys => exact ⟨x, ys, rfl⟩
    rw [be_one]
    have hx := x.toNat_lt
    clear c0 c1 c2 c3 c4 c5 c6 c7 cf
    obtain ⟨c0, c1, c2, c3, c4, c5, c6, c7, cf⟩ := h1.cells
    have hbl1 := h1.lt
    go_wp2_with fail
    have h2 := h1.set (k := 35) (v := .int .u8 (x.toNat : Int)) (p' := { p with proto := x }) (dv' := dv) rfl
    have m2 : Mod [b, g] w (w1.setCell ⟨b, 35, none⟩ (.int .u8 (x.toNat : Int))) := (m1.sub (by simp)).trans (Mod.setCell _ _ _ (by simp))
    have s2 : (w1.setCell ⟨b, 35, none⟩ (.int .u8 (x.toNat : Int))).heap.size = w.heap.size := by rw [size_setCell]; exact s1
    clear c0 c1 c2 c3 c4 c5 c6 c7 cf h1 m1 s1 hl hbl1
    generalize w1.setCell ⟨b, 35, none⟩ (.int .u8 (x.toNat : Int)) = w2 at h2 m2 s2 ⊢
    with_reducible refine Calls.mono (h2.num 1 (by omega) (by omega)) ?_
    rintro e w3 (⟨hl, rfl, h3, m3, s3⟩ | ⟨hl, rfl, rfl⟩)
    · obtain ⟨y, zs, rfl⟩ : ∃ y zs, ys = y :: zs := by
        cases ys with
        | nil => simp at hl
        | cons x ys => exact ⟨x, ys, rfl⟩
      have e1 : be (List.take 1 (List.drop 1 (x :: y :: zs))) = y.toNat := by simp [be]
      have e2 : List.drop 1 (List.drop 1 (x :: y :: zs)) = zs := rfl
      rw [e1]
      rw [e2] at h3
      clear e1 e2
      have hy := y.toNat_lt
      obtain ⟨c0, c1, c2, c3, c4, c5, c6, c7, cf⟩ := h3.cells
      have m4 := m2.trans (m3.sub (by simp))
      have s4 := s3.trans s2
      by_cases h44 : p.proto = 44
      · have kb : ((p.proto.toNat : Int) != 44) = false := by rw [h44]; rfl
        go_wp2_with fail
        with_reducible refine Calls.mono (h3.num 2 (by omega) (by omega)) ?_
        rintro e w5 (⟨hl2, rfl, h5, m5, s5⟩ | ⟨hl2, rfl, rfl⟩)
        · have hn2 := be2_max zs 0
          simp only [List.drop_zero] at hn2
          generalize hv : be (zs.take 2) = v at hn2
          have HV := hid hv
          clear hv c0 c1 c2 c3 c4 c5 c6 c7 cf h3 m3 s3 hl
          obtain ⟨c0, c1, c2, c3, c4, c5, c6, c7, cf⟩ := h5.cells
          have m6 := m4.trans (m5.sub (N := [b, g]) (by simp))
          have s6 := s5.trans s4
          have hbl5 := h5.lt
          have a1 := i64_and1 v (by omega)
          have a2 := i64_andNot7 v (by omega)
          go_wp2_with fail
          have e3 : (((v % 2 : Nat) : Int) == 1) = decide (v % 2 = 1) := by rw [Bool.eq_iff_iff]; simp; omega
          first | rw [e3] | (rw [show ((v : Int) % 2 == 1) = decide (v % 2 = 1) by rw [Bool.eq_iff_iff]; simp; omega])
          have h7 := ((h5.set (k := 38) (v := .bool false) (p' := { p with proto := x, whole := false }) (dv' := dv) rfl).set (k := 39) (v := .bool (decide (v % 2 = 1))) (p' := { p with proto := x, whole := false, more := decide (v % 2 = 1) }) (dv' := dv) rfl).set (k := 40) (v := .int .i64 ((v : Int) / 8 * 8)) (p' := { p with proto := x, whole := false, more := decide (v % 2 = 1), off := ((v : Int) / 8 * 8) }) (dv' := dv) rfl
          have m7 : Mod [b, g] w (((w5.setCell ⟨b, 38, none⟩ (.bool false)).setCell ⟨b, 39, none⟩ (.bool (decide (v % 2 = 1)))).setCell ⟨b, 40, none⟩ (.int .i64 ((v : Int) / 8 * 8))) := ((m6.trans (Mod.setCell _ _ _ (by simp))).trans (Mod.setCell _ _ _ (by simp))).trans (Mod.setCell _ _ _ (by simp))
          have s7 : (((w5.setCell ⟨b, 38, none⟩ (.bool false)).setCell ⟨b, 39, none⟩ (.bool (decide (v % 2 = 1)))).setCell ⟨b, 40, none⟩ (.int .i64 ((v : Int) / 8 * 8))).heap.size = w.heap.size := by rw [size_setCell, size_setCell, size_setCell]; exact s6
          clear c0 c1 c2 c3 c4 c5 c6 c7 cf h5 m5 s5 hbl5 m6 s6 a1 a2 e3
          generalize ((w5.setCell ⟨b, 38, none⟩ (.bool false)).setCell ⟨b, 39, none⟩ (.bool (decide (v % 2 = 1)))).setCell ⟨b, 40, none⟩ (.int .i64 ((v : Int) / 8 * 8)) = w7 at h7 m7 s7 ⊢
          with_reducible refine Calls.mono (h7.num 4 (by omega) (by omega)) ?_
          rintro e w8 (⟨hl3, rfl, h8, m8, s8⟩ | ⟨hl3, rfl, rfl⟩)
          · have hn4 := be4_max zs 2
            have hl8 : ¬ (x :: y :: zs).length < 8 := by simp at hl3 ⊢; omega
            generalize hu : be ((zs.drop 2).take 4) = u at hn4
            have HU := hid hu
            clear hu
            obtain ⟨c0, c1, c2, c3, c4, c5, c6, c7, cf⟩ := h8.cells
            have hbl8 := h8.lt
            go_wp2_with fail
            refine bodyPost_end (v := .tuple #[]) (by simp [results, Try.results38, go_sem]) rfl ?_
            refine HdPost.done ((m7.trans (m8.sub (by simp))).trans (Mod.setCell _ _ _ (by simp))) (by rw [size_setCell]; exact s8.trans s7) ?_ (h8.set (k := 37) (v := .int .u32 (u : Int)) (p' := { p with proto := x, whole := false, more := decide (v % 2 = 1), off := ((v : Int) / 8 * 8), id := u }) (dv' := dv) rfl)
            unfold hdS
            rw [if_pos h44, if_neg hl8]
            show some (({ p with proto := x, whole := false, more := decide (be (zs.take 2) % 2 = 1), off := ((be (zs.take 2) / 8 * 8 : Nat) : Int), id := be ((zs.drop 2).take 4) } : Pkt), zs.drop 6) = _
            rw [HV.out, HU.out, List.drop_drop]
            rfl
          · go_wp2_with fail
            exact ⟨rfl, HdPost.stop m7 s7 (by unfold hdS; rw [if_pos h44]; exact if_pos (by simp at hl3 ⊢; omega))⟩
        · go_wp2_with fail
          exact ⟨rfl, HdPost.stop m4 s4 (by unfold hdS; rw [if_pos h44]; exact if_pos (by simp at hl2 ⊢; omega))⟩
      · have kb : ((p.proto.toNat : Int) != 44) = true := by
          simp [← UInt8.toNat_inj] at h44 ⊢; omega
        go_wp2_with fail
        with_reducible refine Calls.mono (h3.bytes (8 * y.toNat + 6) _ (by omega) (by omega)) ?_
        rintro e w5 (⟨hl2, ⟨A, rfl⟩, h5, m5, s5⟩ | ⟨hl2, rfl, rfl⟩)
        · go_wp2_with fail
          refine bodyPost_ret (v := .tuple #[]) (by simp [results, Try.results38, go_sem]) rfl ?_
          refine HdPost.done (m4.trans (m5.sub (by simp))) (s5.trans s4) ?_ h5
          unfold hdS
          rw [if_neg h44]
          show (if (zs.length + 1 + 1 < 2) then none else if zs.length + 1 + 1 < 8 * (y.toNat + 1) then none else some ({ p with proto := x }, List.drop (8 * (y.toNat + 1)) (x :: y :: zs))) = _
          rw [if_neg (by omega), if_neg (by omega), show 8 * (y.toNat + 1) = (8 * y.toNat + 6) + 1 + 1 by omega]
          rfl
        · go_wp2_with fail
          refine ⟨rfl, HdPost.stop m4 s4 ?_⟩
          unfold hdS
          rw [if_neg h44]
          show (if (zs.length + 1 + 1 < 2) then none else if zs.length + 1 + 1 < 8 * (y.toNat + 1) then none else some ({ p with proto := x }, List.drop (8 * (y.toNat + 1)) (x :: y :: zs))) = _
          rw [if_neg (by omega)]
          exact if_pos (by omega)
    · go_wp2_with fail
      exact ⟨rfl, HdPost.stop m2 s2 (hdS_short _ _ (by have : ys.length < 1 := hl; show ys.length + 1 < 2; omega))⟩
  · go_wp2_with fail
    exact ⟨rfl, HdPost.stop (Mod.refl _ _) rfl (hdS_short _ _ (by omega))⟩
end Go.Proofs.Ytlijgcmcpehplaa
