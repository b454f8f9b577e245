/- Walk: ipsix's reader, headers. -/
import Derived.Test.YtlijgcmcpehplaaRd6
import Derived.Test.YtlijgcmcpehplaaTryM
namespace Go.Proofs.Ytlijgcmcpehplaa
set_option linter.unusedVariables false
set_option linter.unusedSimpArgs false
open Go.RowKit

def pktH (p : Pkt) (k : UInt8) (f : Option (Nat × Nat)) : Pkt :=
  match f with
  | none => { p with proto := k }
  | some x => { p with proto := k, whole := false, more := decide (x.1 % 2 = 1), off := ((x.1 / 8 * 8 : Nat) : Int), id := x.2 }
def HInv (p : Pkt) (xs : List UInt8) (k : Nat) (q : Pkt) (ys : List UInt8) : Prop :=
  (q.whole = true ∧ q = { p with proto := q.proto } ∧ heads6 (9 - k) k q.proto ys = heads6 9 0 p.proto xs) ∨
  (q.whole = false ∧ ∃ x, heads6 9 0 p.proto xs = .ok q.proto (some x) ys ∧ q = pktH p q.proto (some x))
def HsOut (b g d : Nat) (p : Pkt) (dv : Value) (e : Ending) (w' : World) : Heads → Prop
  | .err n => e = .returned (.int .i64 n)
  | .ok k f ys => e = .returned (.int .i64 0) ∧ RSt w' b g d (pktH p k f) dv ys
def HsPost (b g d : Nat) (p : Pkt) (dv : Value) (xs : List UInt8) (w : World) (e : Ending) (w' : World) : Prop :=
  Mod [b, g] w w' ∧ HsOut b g d p dv e w' (heads6 9 0 p.proto xs)
theorem HsPost.err {b g d : Nat} {p : Pkt} {dv : Value} {xs : List UInt8} {w w' : World} {n : Int} (m : Mod [b, g] w w') (h : heads6 9 0 p.proto xs = .err n) : HsPost b g d p dv xs w (.returned (.int .i64 n)) w' := ⟨m, by rw [h]; rfl⟩
theorem HsPost.done {b g d : Nat} {p q : Pkt} {dv : Value} {xs ys : List UInt8} {w w' : World} {k : UInt8} {f : Option (Nat × Nat)} (m : Mod [b, g] w w') (h : heads6 9 0 p.proto xs = .ok k f ys) (hq : q = pktH p k f) (hr : RSt w' b g d q dv ys) : HsPost b g d p dv xs w (.returned (.int .i64 0)) w' :=
  ⟨m, by rw [h]; exact ⟨rfl, hq ▸ hr⟩⟩
theorem HInv.past {p q : Pkt} {xs ys zs : List UInt8} {k : Nat} {q' : Pkt} (h : HInv p xs k q ys) (hk : k < 8) (hw : q.whole = true) (hk4 : q.proto = 44 ∨ (isPastS q.proto = true ∧ (0 < k → q.proto ≠ 0))) (hd : hdS q ys = some (q', zs)) : HInv p xs (k + 1) q' zs := by
  rcases h with ⟨_, h2, h3⟩ | ⟨h1, _⟩
  · rw [show 9 - k = (9 - (k + 1)) + 1 by omega] at h3
    unfold heads6 at h3
    unfold hdS at hd
    by_cases h44 : q.proto = 44
    · rw [if_pos h44] at h3 hd
      rw [if_neg (by omega)] at h3
      by_cases h8 : ys.length < 8
      · rw [if_pos h8] at hd; cases hd
      · rw [if_neg h8] at hd h3
        injection hd with hd
        injection hd with hd1 hd2
        subst hd1 hd2
        refine .inr ⟨rfl, (be ((ys.drop 2).take 2), be ((ys.drop 4).take 4)), h3.symm, ?_⟩
        rw [h2]
        rfl
    · rw [if_neg h44] at h3 hd
      rcases hk4 with h | ⟨hp, h0⟩
      · exact absurd h h44
      · rw [if_pos hp, if_neg (by omega), if_neg (by rintro ⟨a, b⟩; exact h0 (by omega) b)] at h3
        by_cases l2 : ys.length < 2
        · rw [if_pos l2] at hd; cases hd
        · rw [if_neg l2] at hd h3
          by_cases l8 : ys.length < 8 * ((ys.getD 1 0).toNat + 1)
          · rw [if_pos l8] at hd; cases hd
          · rw [if_neg l8] at hd h3
            injection hd with hd
            injection hd with hd1 hd2
            subst hd1 hd2
            refine .inl ⟨hw, ?_, h3⟩
            rw [h2]
  · rw [hw] at h1; cases h1
theorem HInv.stop {p q : Pkt} {xs ys : List UInt8} {k : Nat} (h : HInv p xs k q ys) (hk : k < 8) (hw : q.whole = true) (hk4 : q.proto = 44 ∨ (isPastS q.proto = true ∧ (0 < k → q.proto ≠ 0))) (hd : hdS q ys = none) : heads6 9 0 p.proto xs = .err 4 := by
  rcases h with ⟨_, h2, h3⟩ | ⟨h1, _⟩
  · rw [← h3, show 9 - k = (9 - (k + 1)) + 1 by omega]
    unfold heads6
    unfold hdS at hd
    by_cases h44 : q.proto = 44
    · rw [if_pos h44] at hd ⊢
      rw [if_neg (by omega)]
      by_cases h8 : ys.length < 8
      · rw [if_pos h8]
      · rw [if_neg h8] at hd; cases hd
    · rw [if_neg h44] at hd ⊢
      rcases hk4 with h | ⟨hp, h0⟩
      · exact absurd h h44
      · rw [if_pos hp, if_neg (by omega), if_neg (by rintro ⟨a, b⟩; exact h0 (by omega) b)]
        by_cases l2 : ys.length < 2
        · rw [if_pos l2]
        · rw [if_neg l2] at hd ⊢
          by_cases l8 : ys.length < 8 * ((ys.getD 1 0).toNat + 1)
          · rw [if_pos l8]
          · rw [if_neg l8] at hd; cases hd
  · rw [hw] at h1; cases h1
theorem HInv.many {p q : Pkt} {xs ys : List UInt8} (h : HInv p xs 8 q ys) (hw : q.whole = true) (hk4 : q.proto = 44 ∨ isPastS q.proto = true) : heads6 9 0 p.proto xs = .err 5 := by
  rcases h with ⟨_, h2, h3⟩ | ⟨h1, _⟩
  · rw [← h3, show 9 - 8 = 0 + 1 by rfl]
    unfold heads6
    by_cases h44 : q.proto = 44
    · rw [if_pos h44, if_pos rfl]
    · rw [if_neg h44]
      rcases hk4 with h | hp
      · exact absurd h h44
      · rw [if_pos hp, if_pos rfl]
  · rw [hw] at h1; cases h1
theorem HInv.form {p q : Pkt} {xs ys : List UInt8} {k : Nat} (h : HInv p xs k q ys) (hk : k < 8) (h0 : 0 < k) (hw : q.whole = true) (hk4 : q.proto = 0) : heads6 9 0 p.proto xs = .err 3 := by
  rcases h with ⟨_, h2, h3⟩ | ⟨h1, _⟩
  · rw [← h3, show 9 - k = (9 - (k + 1)) + 1 by omega]
    unfold heads6
    rw [hk4, if_neg (by decide), if_pos (by decide), if_neg (by omega), if_pos ⟨by omega, rfl⟩]
  · rw [hw] at h1; cases h1
theorem HInv.end_ {p q : Pkt} {xs ys : List UInt8} {k : Nat} (h : HInv p xs k q ys) (hk : k ≤ 8) (hw : q.whole = true) (h44 : q.proto ≠ 44) (hp : isPastS q.proto = false) : heads6 9 0 p.proto xs = .ok q.proto none ys ∧ q = pktH p q.proto none := by
  rcases h with ⟨_, h2, h3⟩ | ⟨h1, _⟩
  · refine ⟨?_, h2⟩
    rw [← h3, show 9 - k = (8 - k) + 1 by omega]
    unfold heads6
    rw [if_neg h44, if_neg (by simp [hp])]
  · rw [hw] at h1; cases h1
theorem tryOk (w : World) (b g d : Nat) (q q' : Pkt) (dv : Value) (ys zs : List UInt8) (hs : RSt w b g d q dv ys) (hd : hdS q ys = some (q', zs)) :
    Calls Try.prog 37 #[.func (.func 38) #[.pointer (some ⟨b, 0, none⟩)] #[]] w fun e w' => e = .returned (.int .i64 0) ∧ Mod [b, g] w w' ∧ RSt w' b g d q' dv zs := by
  have hb := hs.lt
  have hg := hs.rdr.lt
  have hdg := hs.dg
  refine (try_mod 38 _ w [b, g] (fun ok w' => ok = true ∧ RSt w' b g d q' dv zs) (fun w => by kernel_rfl) (by simp; omega) ?_ ?_).mono ?_
  · rintro ok w' w'' ⟨h1, h2⟩ hgr
    exact ⟨h1, h2.mod (Mod.of_grown hgr) (by simp; omega) (by simp; omega) (by simp; omega)⟩
  · intro w1 hm hz
    refine (header_any w1 b g d q dv ys (hs.mod hm (by simp) (by simp) (by simp))).mono ?_
    rintro e w' ⟨m, sz, h⟩
    rw [hd] at h
    exact ⟨m, .inl ⟨h.1, rfl, h.2⟩⟩
  · rintro e w' ⟨ok, ⟨rfl, h⟩, rfl, m⟩
    exact ⟨rfl, m, h⟩
theorem tryNo (w : World) (b g d : Nat) (q : Pkt) (dv : Value) (ys : List UInt8) (hs : RSt w b g d q dv ys) (hd : hdS q ys = none) :
    Calls Try.prog 37 #[.func (.func 38) #[.pointer (some ⟨b, 0, none⟩)] #[]] w fun e w' => e = .returned (.int .i64 4) ∧ Mod [b, g] w w' := by
  have hb := hs.lt
  have hg := hs.rdr.lt
  refine (try_mod 38 _ w [b, g] (fun ok w' => ok = false) (fun w => by kernel_rfl) (by simp; omega) (fun _ _ _ h _ => h) ?_).mono ?_
  · intro w1 hm hz
    refine (header_any w1 b g d q dv ys (hs.mod hm (by simp) (by simp) (by simp))).mono ?_
    rintro e w' ⟨m, sz, h⟩
    rw [hd] at h
    exact ⟨m, .inr ⟨h, rfl⟩⟩
  · rintro e w' ⟨ok, rfl, rfl, m⟩
    exact ⟨rfl, m⟩
set_option maxHeartbeats 1000000 in
theorem headers_any (w : World) (b g d : Nat) (p : Pkt) (dv : Value) (xs : List UInt8) (h : RSt w b g d p dv xs) (hw : p.whole = true) :
    Calls Try.prog 32 #[.pointer (some ⟨b, 0, none⟩)] w (HsPost b g d p dv xs w) := by
  have hmf : ∀ (fn : Fn) (first cap : Array Value) (w : World), (Instr.makeFunc fn first cap).run Try.prog w = .ok (.func fn first cap) w := fun _ _ _ _ => rfl
  have H := hid h
  clear h
  have HW := hid hw
  clear hw
  go_enter Try.func32, Try.ntmps32
  go_wp2_with fail
  go_loopw [3] (fun i wr => ∃ k q ys, k ≤ 8 ∧ i = .int .i64 ((k : Nat) : Int) ∧ RSt wr b g d q dv ys ∧ Mod [b, g] w wr ∧ Hid (HInv p xs k q ys)) (fun i _ => 9 - (intOf i).toNat)
  case atStart => exact ⟨0, p, xs, by omega, rfl, H.out, Mod.refl _ _, .inl ⟨HW.out, rfl, rfl⟩⟩
  case round =>
    obtain ⟨k, q, ys, hk, rfl, hs, hm, hi⟩ := hrel
    obtain ⟨c0, c1, c2, c3, c4, c5, c6, c7, cf⟩ := hs.cells
    have hbl := hs.lt
    have hpr := q.proto.toNat_lt
    by_cases hqw : q.whole = true
    · rw [hqw] at c4
      have HQ := hid hqw
      have HI := hid hs
      have hP : isPastS q.proto = true ∨ (isPastS q.proto = false ∧ ((q.proto.toNat : Int) == 44) = true) ∨ (isPastS q.proto = false ∧ ((q.proto.toNat : Int) == 44) = false) := by
        cases isPastS q.proto <;> cases ((q.proto.toNat : Int) == 44) <;> simp
      have h44 : ((q.proto.toNat : Int) == 44) = true ↔ q.proto = 44 := by simp [← UInt8.toNat_inj]; omega
      have h00 : ((q.proto.toNat : Int) == 0) = true ↔ q.proto = 0 := by simp [← UInt8.toNat_inj]
      have H44 := hid h44
      have H00 := hid h00
      clear h44 h00 hqw
      rcases hP with hp | ⟨hp, h4⟩ | ⟨hp, h4⟩
      · have HP := hid hp
        by_cases hk8 : k = 8
        · subst hk8
          have e1 : (((8 : Nat) : Int) == 8) = true := rfl
          go_wp2_with (go_at_call 25; (with_reducible refine Calls.mono (past_any _ _) ?_); rintro e w' ⟨rfl, rfl⟩)
          go_ret
          exact HsPost.err hm (hi.out.many HQ.out (.inr HP.out))
        · have e1 : ((k : Int) == 8) = false := by simp; omega
          have hk' : k < 8 := by omega
          clear hk8
          by_cases hf : 0 < k ∧ q.proto = 0
          · have e2 : decide (0 < k) = true := by simp; omega
            have e3 : ((q.proto.toNat : Int) == 0) = true := H00.out.2 hf.2
            have HF := hid hf
            clear hf
            go_wp2_with (go_at_call 25; (with_reducible refine Calls.mono (past_any _ _) ?_); rintro e w' ⟨rfl, rfl⟩)
            go_ret
            exact HsPost.err hm (hi.out.form hk' HF.out.1 HQ.out HF.out.2)
          · have HF : Hid (0 < k → q.proto ≠ 0) := fun a b => hf ⟨a, b⟩
            have e23 : (decide (0 < k) = false) ∨ (decide (0 < k) = true ∧ ((q.proto.toNat : Int) == 0) = false) := by
              by_cases h0 : 0 < k
              · right
                refine ⟨by simpa using h0, ?_⟩
                rw [Bool.eq_false_iff]
                exact fun h => HF h0 (H00.out.1 h)
              · left; simpa using h0
            clear hf
            obtain ⟨o, ho⟩ : ∃ o, o = hdS q ys := ⟨_, rfl⟩
            cases o with
            | none =>
              have HT := hid (tryNo wr b g d q dv ys hs ho.symm)
              have HO := hid ho
              clear ho
              rcases e23 with e2 | ⟨e2, e3⟩
              all_goals
                go_wp2_with (first
                  | (go_at_call 25; (with_reducible refine Calls.mono (past_any _ _) ?_); rintro e w' ⟨rfl, rfl⟩)
                  | (go_at_call 37; (with_reducible refine Calls.mono HT.out ?_); rintro e w' ⟨rfl, m2⟩))
                go_ret
                exact HsPost.err (hm.trans m2) (hi.out.stop hk' HQ.out (.inr ⟨HP.out, HF⟩) HO.out.symm)
            | some r =>
              obtain ⟨q', zs⟩ := r
              have HT := hid (tryOk wr b g d q q' dv ys zs hs ho.symm)
              have HO := hid ho
              clear ho
              rcases e23 with e2 | ⟨e2, e3⟩
              all_goals
                go_wp2_with (first
                  | (go_at_call 25; (with_reducible refine Calls.mono (past_any _ _) ?_); rintro e w' ⟨rfl, rfl⟩)
                  | (go_at_call 37; (with_reducible refine Calls.mono HT.out ?_); rintro e w' ⟨rfl, m2, hs2⟩))
                go_roundw
                case rel => exact ⟨k + 1, q', zs, by omega, by go_num, hs2, hm.trans m2, hi.out.past hk' HQ.out (.inr ⟨HP.out, HF⟩) HO.out.symm⟩
                case measure => simp [intOf]; omega
      · have HP := hid (H44.out.1 h4)
        by_cases hk8 : k = 8
        · subst hk8
          have e1 : (((8 : Nat) : Int) == 8) = true := rfl
          go_wp2_with (go_at_call 25; (with_reducible refine Calls.mono (past_any _ _) ?_); rintro e w' ⟨rfl, rfl⟩)
          go_ret
          exact HsPost.err hm (hi.out.many HQ.out (.inl HP.out))
        · have e1 : ((k : Int) == 8) = false := by simp; omega
          have hk' : k < 8 := by omega
          clear hk8
          have e3 : ((q.proto.toNat : Int) == 0) = false := by
            rw [Bool.eq_false_iff]
            intro h
            have := H00.out.1 h
            rw [HP.out] at this
            cases this
          have e2 : decide (0 < k) = false ∨ decide (0 < k) = true := by cases decide (0 < k) <;> simp
          obtain ⟨o, ho⟩ : ∃ o, o = hdS q ys := ⟨_, rfl⟩
          cases o with
          | none =>
            have HT := hid (tryNo wr b g d q dv ys hs ho.symm)
            have HO := hid ho
            clear ho
            rcases e2 with e2 | e2
            all_goals
              go_wp2_with (first
                | (go_at_call 25; (with_reducible refine Calls.mono (past_any _ _) ?_); rintro e w' ⟨rfl, rfl⟩)
                | (go_at_call 37; (with_reducible refine Calls.mono HT.out ?_); rintro e w' ⟨rfl, m2⟩))
              go_ret
              exact HsPost.err (hm.trans m2) (hi.out.stop hk' HQ.out (.inl HP.out) HO.out.symm)
          | some r =>
            obtain ⟨q', zs⟩ := r
            have HT := hid (tryOk wr b g d q q' dv ys zs hs ho.symm)
            have HO := hid ho
            clear ho
            rcases e2 with e2 | e2
            all_goals
              go_wp2_with (first
                | (go_at_call 25; (with_reducible refine Calls.mono (past_any _ _) ?_); rintro e w' ⟨rfl, rfl⟩)
                | (go_at_call 37; (with_reducible refine Calls.mono HT.out ?_); rintro e w' ⟨rfl, m2, hs2⟩))
              go_roundw
              case rel => exact ⟨k + 1, q', zs, by omega, by go_num, hs2, hm.trans m2, hi.out.past hk' HQ.out (.inl HP.out) HO.out.symm⟩
              case measure => simp [intOf]; omega
      · have HP := hid hp
        have HN : Hid (q.proto ≠ 44) := by
          intro h
          rw [H44.out.2 h] at h4
          cases h4
        go_wp2_with (go_at_call 25; (with_reducible refine Calls.mono (past_any _ _) ?_); rintro e w' ⟨rfl, rfl⟩)
        go_ret
        have := hi.out.end_ hk HQ.out HN.out HP.out
        exact HsPost.done hm this.1 this.2 hs
    · have hqf : q.whole = false := by simpa using hqw
      rw [hqf] at c4
      have HQ := hid hqf
      clear hqw hqf
      go_wp2_with fail
      go_ret
      rcases hi.out with ⟨h1, _⟩ | ⟨_, x, h1, h2⟩
      · rw [HQ.out] at h1; cases h1
      · exact HsPost.done hm h1 h2 hs
end Go.Proofs.Ytlijgcmcpehplaa
