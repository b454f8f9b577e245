/- Walks: an option's size, whether it is right. Regions that draw their order, taken by hand, whose last operation comes behind all others. What a parse of options leaves as it was. Walk: an option is taken. Walk: an option's Sacks are taken. Walk: one option is read. Walk: options are read one behind the other. Walk: options of bytes. Walk: options of bytes, whole. -/
import Derived.Test.YthnidgiogjehkaaOptA
import Derived.Test.YthnidgiogjehkaaRdr
import Derived.Test.YthnidgiogjehkaaOps
import Derived.Test.YthnidgiogjehkaaRegM
import Derived.Test.YthnidgiogjehkaaBuf
import Derived.Test.YthnidgiogjehkaaKept
import Derived.Deep.DeepCutAuto
import Derived.Test.YthnidgiogjehkaaBlk
import Derived.Test.YthnidgiogjehkaaOctT
namespace Go.Proofs.Ythnidgiogjehkaa
set_option linter.unusedVariables false
set_option linter.unusedSimpArgs false
set_option maxRecDepth 20000
open Go.RowKit

theorem ibeq (a b : Int) : (a == b) = decide (a = b) := by rw [Bool.eq_iff_iff, beq_iff_eq, decide_eq_true_eq]
theorem ne_lit (k : UInt8) (j : Nat) (hj : j < 256) (h : k ≠ UInt8.ofNat j) : ((k.toNat : Int) == (j : Int)) = false := by
  rw [beq_eq_false_iff_ne]
  intro e
  apply h
  have e2 : k.toNat = j := by omega
  rw [← e2, UInt8.ofNat_toNat]
theorem sizes_any (k : UInt8) (w : World) : Calls Try.prog 73 #[.int .u8 (k.toNat : Int)] w fun e w' => e = .returned (.int .i64 (sizesI k)) ∧ w = w' := by
  by_cases h2 : k = 2
  · subst h2
    go_enter Try.func73, Try.ntmps73
    go_wp2_with fail
    go_ret
    exact ⟨rfl, rfl⟩
  by_cases h3 : k = 3
  · subst h3
    go_enter Try.func73, Try.ntmps73
    go_wp2_with fail
    go_ret
    exact ⟨rfl, rfl⟩
  by_cases h4 : k = 4
  · subst h4
    go_enter Try.func73, Try.ntmps73
    go_wp2_with fail
    go_ret
    exact ⟨rfl, rfl⟩
  by_cases h8 : k = 8
  · subst h8
    go_enter Try.func73, Try.ntmps73
    go_wp2_with fail
    go_ret
    exact ⟨rfl, rfl⟩
  by_cases h29 : k = 29
  · subst h29
    go_enter Try.func73, Try.ntmps73
    go_wp2_with fail
    go_ret
    exact ⟨rfl, rfl⟩
  by_cases h5 : k = 5
  · subst h5
    go_enter Try.func73, Try.ntmps73
    go_wp2_with fail
    go_ret
    exact ⟨rfl, rfl⟩
  have b2 : ((k.toNat : Int) == 2) = false := ne_lit k 2 (by decide) h2
  have b3 : ((k.toNat : Int) == 3) = false := ne_lit k 3 (by decide) h3
  have b4 : ((k.toNat : Int) == 4) = false := ne_lit k 4 (by decide) h4
  have b8 : ((k.toNat : Int) == 8) = false := ne_lit k 8 (by decide) h8
  have b29 : ((k.toNat : Int) == 29) = false := ne_lit k 29 (by decide) h29
  have b5 : ((k.toNat : Int) == 5) = false := ne_lit k 5 (by decide) h5
  have hz : sizesI k = -1 := by unfold sizesI; rw [if_neg h2, if_neg h3, if_neg h4, if_neg h8, if_neg h29, if_neg h5]
  rw [hz]
  clear hz h2 h3 h4 h8 h29 h5
  go_enter Try.func73, Try.ntmps73
  go_wp2_with fail
  go_ret
  exact ⟨rfl, rfl⟩
theorem right_any (k : UInt8) (n : Nat) (hn : n < 256) (w : World) : Calls Try.prog 76 #[.int .u8 (k.toNat : Int), .int .i64 (n : Int)] w fun e w' => e = .returned (.bool (rightO k n)) ∧ w = w' := by
  have HS := hid (fun W => sizes_any k W)
  unfold rightO
  generalize sizesI k = z at HS ⊢
  by_cases h1 : n < 2
  · rw [if_pos h1]
    have b1 : decide ((n : Int) < 2) = true := by rw [decide_eq_true_eq]; omega
    go_enter Try.func76, Try.ntmps76
    go_wp2_with fail
    (with_reducible refine Calls.mono (HS.out _) ?_)
    rintro e w1 ⟨rfl, rfl⟩
    go_wp2_with fail
    go_ret
    exact ⟨rfl, rfl⟩
  rw [if_neg h1]
  have b1 : decide ((n : Int) < 2) = false := by rw [decide_eq_false_iff_not]; omega
  by_cases h2 : 0 < z
  · rw [if_pos h2]
    have b2 : decide (0 < z) = true := decide_eq_true h2
    generalize hr : decide ((n : Int) = z) = r
    have b3 : ((n : Int) == z) = r := by rw [← hr]; exact ibeq _ _
    clear hr h2
    go_enter Try.func76, Try.ntmps76
    go_wp2_with fail
    (with_reducible refine Calls.mono (HS.out _) ?_)
    rintro e w1 ⟨rfl, rfl⟩
    go_wp2_with fail
    go_ret
    exact ⟨rfl, rfl⟩
  rw [if_neg h2]
  have b2 : decide (0 < z) = false := decide_eq_false h2
  by_cases h3 : z = 0
  · rw [if_pos h3]
    subst h3
    clear b2 h2
    obtain ⟨r1, e1⟩ : ∃ r, decide (n % 8 = 2) = r := ⟨_, rfl⟩
    obtain ⟨r2, e2⟩ : ∃ r, decide (2 < n) = r := ⟨_, rfl⟩
    obtain ⟨r3, e3⟩ : ∃ r, decide (n ≤ 34) = r := ⟨_, rfl⟩
    rw [e1, e2, e3]
    have b3 : (((n : Int) % 8) == 2) = r1 := by rw [← e1, ibeq, decide_eq_decide]; omega
    have b3' : ((Int.tmod (n : Int) 8) == 2) = r1 := by rw [Int.tmod_eq_emod_of_nonneg (by omega)]; exact b3
    have b4 : decide (2 < (n : Int)) = r2 := by rw [← e2, decide_eq_decide]; omega
    have b5 : decide ((n : Int) ≤ 34) = r3 := by rw [← e3, decide_eq_decide]; omega
    clear e1 e2 e3 h1
    cases r1 <;> cases r2
    all_goals
      go_enter Try.func76, Try.ntmps76
      go_wp2_with fail
      (with_reducible refine Calls.mono (HS.out _) ?_)
      rintro e w1 ⟨rfl, rfl⟩
      go_wp2_with fail
      go_ret
      exact ⟨rfl, rfl⟩
  rw [if_neg h3]
  have b3 : (z == 0) = false := by rw [beq_eq_false_iff_ne]; exact h3
  go_enter Try.func76, Try.ntmps76
  go_wp2_with fail
  (with_reducible refine Calls.mono (HS.out _) ?_)
  rintro e w1 ⟨rfl, rfl⟩
  go_wp2_with fail
  go_ret
  exact ⟨rfl, rfl⟩
end Go.Proofs.Ythnidgiogjehkaa
namespace Go.Proofs.Ythnidgiogjehkaa
set_option linter.unusedVariables false
set_option linter.unusedSimpArgs false
open Go.RowKit

section
variable {P : Program} {ops : Array Oper} {hd : List Oper} {o : Oper} {L : Array Bool} {Q : Exit → Act → World → Prop} {S : World → Prop}
/-- How the head of a region ends: then its last operation comes. -/
def tailQ (P : Program) (ops : Array Oper) (o : Oper) (Q : Exit → Act → World → Prop) : Exit → Act → World → Prop
  | .normal, a, w => wpList P ops Q [o] a w
  | x, a, w => Q x a w
theorem letsOut_tail (h : LetsOut (tailQ P ops o Q)) : LetsOut Q := h
theorem upon_exit {ops' : Array Oper} {o o' : Oper} {K : Act → World → Prop} {a : Act} {w : World} (h : Oper.wp P o' a w K (tailQ P ops' o Q)) : Oper.wp P o' a w K Q := by
  unfold Oper.wp at *
  generalize (execOp a.eval o').run P w = r at *
  cases r with
  | ok n w' =>
    cases n <;> simp only [Oper.upon] at h ⊢
    case value u => exact h
    case skip => exact h
    case defer d => exact h
    case enter f args =>
      refine Calls.mono h fun e w'' he => ?_
      cases e with
      | returned u => exact he
      | panicked c => exact he
      | outgrown => exact letsOut_tail he
    case row row args => exact h
  | halt x w' =>
    cases x <;> simp only [Oper.upon] at h ⊢
    case panic u => exact h
theorem wpOp_exit {ops' : Array Oper} {i : Nat} {K : Act → World → Prop} {a : Act} {w : World} (h : wpOp P ops (tailQ P ops' o Q) i K a w) : wpOp P ops Q i K a w := by
  unfold wpOp at *
  split
  · simpa [*] using h
  · rename_i o' ho
    simp only [ho] at h
    split
    · rename_i hw
      simp only [hw, if_true] at h
      exact h.imp upon_exit fun ⟨h1, h2⟩ => ⟨h1, letsOut_tail h2⟩
    · rename_i hw
      simp only [hw] at h
      exact h
theorem any_tailH (hb : backB (hd ++ [o]) = true) (hg : guardsB hd = true) (hw : awaitedB (hd ++ [o]) hd.length = true) :
    ∀ (f : Nat) (L : Array Bool) (a : Act) (w : World), Shut hd L → wpAny P .any hd.toArray (tailQ P (hd ++ [o]).toArray o Q) f L a w → wpAny P .any (hd ++ [o]).toArray Q (f + 1) (L.push false) a w
  | 0, L, a, w, hs, h => any_last hs.size (all_of_none hb hs.size h.1) hb h.2 0
  | f + 1, L, a, w, hs, h => by
    by_cases hr : Region.ready .any hd.toArray L = []
    · exact any_last hs.size (all_of_none hb hs.size hr) hb (h.1 hr) (f + 1)
    · refine ⟨fun h0 => ?_, fun i hi => ?_⟩
      · obtain ⟨i, hi⟩ := List.exists_mem_of_ne_nil _ hr
        have hlt := in_ready hi
        have := (ready_hd hb hs.size i (by simpa using hlt)).2 hi
        rw [h0] at this; cases this
      · have hlt := in_ready hi
        simp at hlt
        by_cases hil : i = hd.length
        · subst hil
          have hA := all_of_last hw hs hi
          exfalso
          apply hr
          apply List.eq_nil_iff_forall_not_mem.2
          intro j hj
          have hjl := in_ready hj
          obtain ⟨h1, _⟩ := mem_ready.1 hj
          have hj' : j < L.size := by rw [hs.size]; simpa using hjl
          have := hA j (by simpa using hjl)
          simp [hj'] at this h1
          rw [this] at h1; cases h1
        · have hi' : i < hd.length := by omega
          have hir := (ready_hd hb hs.size i hi').1 hi
          rw [push_set L i (by rw [hs.size]; exact hi')]
          exact wpOp_mono (fun a' w' h' => any_tailH hb hg hw f _ a' w' (hs.set hir) h') (wpOp_hd hg hi' (wpOp_exit (h.2 i hir)))
/-- A region taken by hand whose last operation (n stand ahead of it) comes behind all others: S is held up to there alone. -/
theorem wp_region_handT {id : Nat} {a : Act} {w : World} {l : List Oper} (n : Nat) (S : World → Prop) (hd : List Oper) (o : Oper) (hl : l = hd ++ [o]) (hn : hd.length = n) (hm : P.follows .mixedOrders = true) (hb : backB (hd ++ [o]) = true) (hg : guardsB hd = true) (hw : awaitedB (hd ++ [o]) hd.length = true) (hS : S { w with drawn := w.drawn + 1 })
    (h : S { w with drawn := w.drawn + 1 } → wpAnyH P .any hd.toArray (tailQ P (hd ++ [o]).toArray o Q) S n (Array.replicate n false) a { w with drawn := w.drawn + 1 }) : (Code.region id l.toArray true).wp P Q a w := by
  subst hl
  subst hn
  refine wp_region_any hm ?_
  have h1 := wpAny_of_held (S := S) _ _ _ _ (h hS)
  have h2 := any_tailH (o := o) (Q := Q) hb hg hw hd.length (Array.replicate hd.length false) a { w with drawn := w.drawn + 1 } ⟨by simp, fun j oj _ hj => by rw [getD_replicate_f] at hj; cases hj⟩ h1
  have e : (Array.replicate hd.length false).push false = Array.replicate (hd ++ [o]).toArray.size false := by simp [Array.replicate_succ]
  rw [e] at h2
  simpa using h2
/-- The same of a list that is cut behind n operations. -/
theorem wp_region_cut {id : Nat} {a : Act} {w : World} {l : List Oper} (n : Nat) (S : World → Prop) {o : Oper} (ho : l.drop n = [o]) (hn : (l.take n).length = n) (hm : P.follows .mixedOrders = true) (hb : backB l = true) (hg : guardsB (l.take n) = true) (hw : awaitedB l n = true) (hS : S { w with drawn := w.drawn + 1 })
    (h : S { w with drawn := w.drawn + 1 } → wpAnyH P .any (l.take n).toArray (tailQ P l.toArray o Q) S n (Array.replicate n false) a { w with drawn := w.drawn + 1 }) : (Code.region id l.toArray true).wp P Q a w := by
  have hl : l = l.take n ++ [o] := by rw [← ho, List.take_append_drop]
  refine wp_region_handT (l := l) n S (l.take n) o hl hn hm (by rw [← hl]; exact hb) hg (by rw [← hl, hn]; exact hw) hS ?_
  rw [← hl]
  exact h
end
end Go.Proofs.Ythnidgiogjehkaa
namespace Go.Proofs.Ythnidgiogjehkaa
set_option linter.unusedVariables false
set_option linter.unusedSimpArgs false
open Go.RowKit

/-- Below base nothing turned but the blocks of M. -/
structure ModB (base : Nat) (M : List Nat) (w w' : World) : Prop where
  os : w'.os = w.os
  tape : w'.tape = w.tape
  output : w'.output = w.output
  size : w.heap.size ≤ w'.heap.size
  block : ∀ k, k < base → k ∉ M → w'.heap[k]? = w.heap[k]?
section
variable {base : Nat} {M N : List Nat} {w w' w'' : World}
theorem ModB.refl (base : Nat) (M : List Nat) (w : World) : ModB base M w w := ⟨rfl, rfl, rfl, Nat.le_refl _, fun _ _ _ => rfl⟩
theorem ModB.trans (h : ModB base M w w') (h' : ModB base M w' w'') : ModB base M w w'' :=
  ⟨h'.os.trans h.os, h'.tape.trans h.tape, h'.output.trans h.output, Nat.le_trans h.size h'.size, fun k hk hm => (h'.block k hk hm).trans (h.block k hk hm)⟩
theorem ModB.sub (h : ModB base M w w') (hs : ∀ k ∈ M, k ∈ N) : ModB base N w w' := ⟨h.os, h.tape, h.output, h.size, fun k hk hm => h.block k hk fun hx => hm (hs k hx)⟩
theorem ModB.of_mod (h : Mod N w w') (hb : base ≤ w.heap.size) (hN : ∀ k ∈ N, k ∈ M ∨ base ≤ k) : ModB base M w w' :=
  ⟨h.os, h.tape, h.output, h.size, fun k hk hm => h.block k (by omega) fun hx => by rcases hN k hx with h1 | h1; exact hm h1; omega⟩
theorem ModB.of_below (h : Below w.heap.size w w') (hb : base ≤ w.heap.size) : ModB base M w w' := ModB.of_mod (Mod.of_below h) hb (by simp)
theorem ModB.of_grown {q : Option Nat} (h : w.grownBy w' q) (hb : base ≤ w.heap.size) (hq : ∀ k, q = some k → base ≤ k) : ModB base M w w' :=
  ⟨h.os, h.tape, h.output, h.size, fun k hk hm => h.block k (by omega) fun e => by have := hq k e.symm; omega⟩
theorem ModB.keeps {k : Nat} {o : Obj} (h : ModB base M w w') (ho : w.heap[k]? = some o) (hk : k < base) (hm : k ∉ M) : w'.heap[k]? = some o := (h.block k hk hm).trans ho
theorem ModB.below (h : ModB base [] w w') : Below base w w' := ⟨h.os, h.tape, h.output, h.size, fun k hk => h.block k hk (by simp)⟩
theorem RdrD.modB {g d : Nat} {xs : List UInt8} (h : RdrD w g d xs) (hm : ModB base M w w') (h1 : g < base) (h2 : d < base) (h3 : g ∉ M) (h4 : d ∉ M) : RdrD w' g d xs := by
  obtain ⟨A, c, e1, e2, e3⟩ := h
  refine ⟨A, c, hm.keeps e1 h1 h3, ?_, e3⟩
  refine ⟨e2.len, e2.cap, e2.top, fun k v hv => ?_⟩
  obtain ⟨ad, rfl, hc⟩ := e2.at_ k v hv
  have hb : (ad.add k).block = d := by rw [← e3 ad rfl]; unfold Addr.add; split <;> rfl
  exact ⟨ad, rfl, (World.cell?_of_block (hm.block _ (by omega) (by rw [hb]; exact h4))).trans hc⟩
/-- A row of one's own stays where its block does. -/
theorem own_keep {e : TypeId} {sz n : Nat} {v : Value} {xs : List Value} (h : w.ownsRow base e sz v n xs) (hk : ∀ k cs, base ≤ k → w.heap[k]? = some (.cells cs e (0, 0)) → w'.heap[k]? = w.heap[k]?) : w'.ownsRow base e sz v n xs := by
  refine ⟨h.1, ?_⟩
  rcases h.2 with hn | ⟨g, cap, cur, rfl, hb, hgg, rest⟩
  · exact .inl hn
  · exact .inr ⟨g, cap, cur, rfl, hb, (hk g cur hb hgg).trans hgg, rest⟩
theorem own_mod {e : TypeId} {sz n : Nat} {v : Value} {xs : List Value} (h : w.ownsRow base e sz v n xs) (hm : Mod M w w') (hM : ∀ k ∈ M, k < base ∨ ∃ cs T fr, w.heap[k]? = some (.cells cs T fr) ∧ T ≠ e) : w'.ownsRow base e sz v n xs :=
  own_keep h fun k cs hk hc => hm.block k (Array.getElem?_eq_some_iff.1 hc).1 fun hx => by
    rcases hM k hx with h1 | ⟨cs', T, fr, h1, h2⟩
    · omega
    · rw [hc] at h1
      injection h1 with h1
      injection h1 with _ h3 _
      exact h2 h3.symm
theorem own_ne {e T : TypeId} {sz n : Nat} {v : Value} {xs : List Value} {b : Nat} {cs : Array Value} {fr : Nat × Nat} (h : w.ownsRow base e sz v n xs) (hb : w.heap[b]? = some (.cells cs T fr)) (hT : T ≠ e) : v.ownBlock ≠ some b := by
  intro e1
  rcases h.2 with ⟨rfl, _⟩ | ⟨g, cap, cur, rfl, _, hg, _⟩
  · simp [Value.ownBlock] at e1
  · simp only [Value.ownBlock, Option.some.injEq] at e1
    subst e1
    rw [hg] at hb
    injection hb with hb
    injection hb with _ h3 _
    exact hT h3.symm
end
/-- The Sacks of options in a row of their own. -/
def OwnS (w : World) (base : Nat) (o : OptM) : Prop := w.ownsRow base 84 2 (.slice o.A o.sacks.length o.c) o.sacks.length (bcs o.sacks)
theorem OwnS.row {w : World} {base : Nat} {o : OptM} (h : OwnS w base o) : Row w 2 o.A o.sacks.length o.c (bcs o.sacks) := by
  obtain ⟨A, c, e, hr⟩ := Row.of_own h
  injection e with e1 _ e3
  subst e1 e3
  exact hr
/-- A reader whose bytes stand in no block of Blocks. -/
def RdrT (w : World) (g d : Nat) (xs : List UInt8) : Prop := RdrD w g d xs ∧ ∃ cs T fr, w.heap[d]? = some (.cells cs T fr) ∧ T ≠ 84
theorem readT (v : Value) (xs : List UInt8) (w : World) (hr : RB w v xs) (hl : xs.length ≤ 70368744177664) :
    Calls Try.prog 62 #[v] w fun e w' => ∃ g d, e = .returned (.pointer (some ⟨g, 0, none⟩)) ∧ w.heap.size ≤ g ∧ w.heap.size ≤ d ∧ RdrT w' g d xs ∧ Below w.heap.size w w' := by
  go_enter Try.func62, Try.ntmps62
  go_wp2_with fail
  refine (clone_any v xs _ hr hl).mono ?_
  rintro e w1 ⟨A, c, rfl, ho, hb⟩
  have hd : ∃ d, InB A d ∧ w.heap.size ≤ d ∧ ((d = w1.heap.size) ∨ ∃ cs fr, w1.heap[d]? = some (.cells cs 5 fr)) := by
    rcases ho.2 with ⟨e1, _⟩ | ⟨g, cap, cur, e1, h1, h2, _⟩
    · injection e1 with e1 _ _
      subst e1
      exact ⟨w1.heap.size, InB.none _, hb.size, .inl rfl⟩
    · injection e1 with e1 _ _
      subst e1
      exact ⟨g, InB.some _ _, h1, .inr ⟨_, _, h2⟩⟩
  obtain ⟨d, hd1, hd2, hd3⟩ := hd
  have HD3 := hid hd3
  clear hd3
  go_wp2_with fail
  go_ret
  obtain ⟨A', c', e1, hrow⟩ := ho.rb
  injection e1 with e1 _ e3
  subst e1 e3
  refine ⟨w1.heap.size, d, rfl, hb.size, hd2, ⟨⟨A, c, heap_alloc_new _ _, hrow.alloc _, hd1⟩, ?_⟩, below_alloc hb _ (Nat.le_refl _)⟩
  rcases HD3.out with rfl | ⟨cs, fr, h2⟩
  · exact ⟨_, _, _, heap_alloc_new _ _, by decide⟩
  · exact ⟨_, _, _, ((bl1 w1 _).block _ (Array.getElem?_eq_some_iff.1 h2).1).trans h2, by decide⟩
theorem RdrT.mod {w w' : World} {g d : Nat} {xs : List UInt8} {M : List Nat} (h : RdrT w g d xs) (hm : Mod M w w') (hg : g ∉ M) (hd : d ∉ M) : RdrT w' g d xs := by
  obtain ⟨h1, cs, T, fr, h2, h3⟩ := h
  exact ⟨h1.mod hm hg hd, cs, T, fr, hm.keeps h2 hd, h3⟩
/-- A part of a reader: a reader of its own; or the reading stops. -/
theorem sub_any (g d : Nat) (xs : List UInt8) (k : Nat) (w : World) (h : RdrD w g d xs) (hl : xs.length ≤ 70368744177664) :
    Calls Try.prog 77 #[.pointer (some ⟨g, 0, none⟩), .int .i64 (k : Int)] w fun e w' => (k ≤ xs.length ∧ ∃ gx dx, e = .returned (.pointer (some ⟨gx, 0, none⟩)) ∧ w.heap.size ≤ gx ∧ w.heap.size ≤ dx ∧ RdrT w' gx dx (xs.take k) ∧ RdrD w' g d (xs.drop k) ∧ Mod [g] w w') ∨ (xs.length < k ∧ e = .panicked stopC ∧ w = w') := by
  by_cases hk : k ≤ xs.length
  · have HD := hid h.lt
    by_cases h0 : k = 0
    · subst h0
      have HZ := hid (bytes_zero (some ⟨g, 0, none⟩) 0 (by omega) w ⟨xs.length, by omega, left_any g xs w h.rdr⟩)
      have HR := hid (fun W => readT (.slice none 0 0) [] W (RB.nil W) (by decide))
      have HH := hid h
      clear h hl
      go_enter Try.func77, Try.ntmps77
      go_wp2_with fail
      (with_reducible refine Calls.mono HZ.out ?_)
      rintro e w1 ⟨rfl, rfl⟩
      go_wp2_with fail
      (with_reducible refine Calls.mono (HR.out _) ?_)
      rintro e w2 ⟨gx, dx, rfl, h1, h2, h4, h5⟩
      go_wp2_with fail
      go_ret
      exact .inl ⟨by omega, gx, dx, rfl, h1, h2, by simpa using h4, by simpa using HH.out.below h5, (Mod.of_below h5).sub (by simp)⟩
    · have HB := hid (bytesD g d xs k (by omega) hk w h)
      have HK := hid hk
      have hlk : (xs.take k).length ≤ 70368744177664 := by rw [List.length_take]; omega
      clear h hl hk h0
      go_enter Try.func77, Try.ntmps77
      go_wp2_with fail
      (with_reducible refine Calls.mono HB.out ?_)
      rintro e w1 ⟨A, rfl, hr1, hA, hd1, hg1, hs1⟩
      have HR := hid (readT _ _ _ hr1 hlk)
      have HD1 := hid hd1
      have HM1 := hid (Mod.of_grown hg1)
      have HS1 := hid hs1
      clear hr1 hA hd1 hg1 hs1
      go_wp2_with fail
      (with_reducible refine Calls.mono HR.out ?_)
      rintro e w2 ⟨gx, dx, rfl, h1, h2, h4, h5⟩
      go_wp2_with fail
      go_ret
      refine .inl ⟨HK.out, gx, dx, rfl, ?_, ?_, h4, HD1.out.below h5, HM1.out.trans ((Mod.of_below h5).sub (by simp))⟩
      · rw [← HS1.out]; exact h1
      · rw [← HS1.out]; exact h2
  · have HB := hid (bytes_stop (some ⟨g, 0, none⟩) (k : Int) w xs.length (by omega) (left_any g xs w h.rdr))
    have HK := hid hk
    clear h hk hl
    go_enter Try.func77, Try.ntmps77
    go_wp2_with fail
    (with_reducible refine Calls.mono HB.out ?_)
    rintro e w1 ⟨rfl, rfl⟩
    go_wp2_with fail
    exact ⟨rfl, .inr ⟨by have := HK.out; omega, rfl, rfl⟩⟩
end Go.Proofs.Ythnidgiogjehkaa
namespace Go.Proofs.Ythnidgiogjehkaa
set_option linter.unusedVariables false
set_option linter.unusedSimpArgs false
open Go.RowKit

theorem getS_take (xs : List UInt8) (k : Nat) (hk : k ≤ 8) : getS (xs.take k) = be (xs.take k) := getS_short _ (by rw [List.length_take]; omega)
theorem be_take_lt (xs : List UInt8) (k : Nat) : be (xs.take k) < 256 ^ k := Nat.lt_of_lt_of_le (be_lt _) (Nat.pow_le_pow_right (by omega) (by rw [List.length_take]; omega))
theorem numV (g d : Nat) (xs : List UInt8) (k v : Nat) (hv : be (xs.take k) = v) (hk0 : 0 < k) (hk8 : k ≤ 8) (hk : k ≤ xs.length) (w : World) (h : RdrT w g d xs) :
    Calls Try.prog 68 #[.pointer (some ⟨g, 0, none⟩), .int .i64 (k : Int)] w fun e w' => e = .returned (.int .u64 (v : Int)) ∧ RdrT w' g d (xs.drop k) ∧ Mod [g] w w' ∧ w'.heap.size = w.heap.size := by
  subst hv
  refine (numD g d xs k hk0 hk8 hk w h.1).mono ?_
  rintro e w' ⟨rfl, h1, h2, h3⟩
  refine ⟨by rw [getS_take xs k hk8], ⟨h1, ?_⟩, h2, h3⟩
  obtain ⟨_, cs, T, fr, h4, h5⟩ := h
  by_cases hgd : d = g
  · subst hgd
    obtain ⟨A, c, h6, _⟩ := h1
    exact ⟨_, _, _, h6, by decide⟩
  · exact ⟨cs, T, fr, h2.keeps h4 (by simpa using hgd), h5⟩
theorem RdrT.rdr' {w : World} {g d : Nat} {xs : List UInt8} (h : RdrT w g d xs) : Rdr w g xs := And.left h |>.rdr
theorem RdrT.blk {w : World} {g d : Nat} {xs : List UInt8} (h : RdrT w g d xs) : ∃ cs, w.heap[g]? = some (.cells cs 110 (0, 0)) := by
  obtain ⟨⟨A, c, h, _⟩, _⟩ := h
  exact ⟨_, h⟩
theorem set_s2 (o : OptM) (h : o.mac.length = 12) (v : Nat) : (o.cells.setIfInBounds 0 (.bool true)).setIfInBounds 1 (.int .u16 (v : Int)) = ({ o with hasMSS := true, mss := v } : OptM).cells := by
  unfold OptM.cells OptM.head
  simp
theorem set_s3 (o : OptM) (h : o.mac.length = 12) (v : Nat) : (o.cells.setIfInBounds 2 (.bool true)).setIfInBounds 3 (.int .u8 (v : Int)) = ({ o with hasScale := true, scale := v } : OptM).cells := by
  unfold OptM.cells OptM.head
  simp
theorem set_s4 (o : OptM) (h : o.mac.length = 12) : o.cells.setIfInBounds 4 (.bool true) = ({ o with sackOK := true } : OptM).cells := by
  unfold OptM.cells OptM.head
  simp
theorem set_s8 (o : OptM) (h : o.mac.length = 12) (v u : Nat) : ((o.cells.setIfInBounds 6 (.bool true)).setIfInBounds 7 (.int .u32 (v : Int))).setIfInBounds 8 (.int .u32 (u : Int)) = ({ o with hasTime := true, val := v, echo := u } : OptM).cells := by
  unfold OptM.cells OptM.head
  simp
theorem set_s29 (o : OptM) (h : o.mac.length = 12) (v u : Nat) : ((o.cells.setIfInBounds 9 (.bool true)).setIfInBounds 10 (.int .u8 (v : Int))).setIfInBounds 11 (.int .u8 (u : Int)) = ({ o with hasAO := true, key := v, next := u } : OptM).cells := by
  unfold OptM.cells OptM.head
  simp
theorem set_m29 (o : OptM) (h : o.mac.length = 12) (m : List UInt8) (hm : m.length = 12) : o.cells.toList.take 12 ++ by8 m ++ o.cells.toList.drop (12 + (by8 m).length) = ({ o with mac := m } : OptM).cells.toList := by
  unfold OptM.cells OptM.head
  simp [by8_length, h, hm]
theorem set_s5 (o : OptM) (h : o.mac.length = 12) (A : Option Addr) (c : Nat) (ss : List (Nat × Nat)) : o.cells.setIfInBounds 5 (.slice A ss.length c) = ({ o with A := A, c := c, sacks := ss } : OptM).cells := by
  unfold OptM.cells OptM.head
  simp
theorem exec_arr12 {P : Program} {o : Oper} {a : Act} {w : World} {t e : TypeId} (x : Operand) (ho : o.op = .sliceToArrayPointer t x) (ht : P.underlying t = some (.array 12 e)) (ad : Addr) (hx : a.eval x = .slice (some ad) 12 12) : (execOp a.eval o).run P w = .ok (.value (.pointer (some ad))) w := by
  unfold execOp
  simp [ho, hx, Instr.arrayAt, Go.underlying, ht, Sem.run_bind]
/-- What a take leaves that turned no Sacks. -/
theorem fin_take {w w' : World} {go gx dx base : Nat} {o o' : OptM} {xs : List UInt8} (hown : OwnS w base o) (hb : base ≤ w.heap.size) (h1 : go < base) (h2 : base ≤ gx) (hx : RdrT w gx dx xs) (hm : Mod [go, gx] w w')
    (hg : w'.heap[go]? = some (.cells o'.cells 31 (0, 0))) (e1 : o'.sacks = o.sacks) (e2 : o'.A = o.A) (e3 : o'.c = o.c) :
    ∃ A c, w'.heap[go]? = some (.cells ({ o' with A := A, c := c } : OptM).cells 31 (0, 0)) ∧ OwnS w' base { o' with A := A, c := c } ∧ ModB base [go] w w' := by
  refine ⟨o'.A, o'.c, hg, ?_, ModB.of_mod hm hb ?_⟩
  · show w'.ownsRow base 84 2 (.slice o'.A o'.sacks.length o'.c) o'.sacks.length (bcs o'.sacks)
    rw [e1, e2, e3]
    refine own_mod hown hm ?_
    intro k hk
    simp only [List.mem_cons, List.not_mem_nil, or_false] at hk
    rcases hk with rfl | rfl
    · exact .inl h1
    · obtain ⟨cs, hc⟩ := hx.blk
      exact .inr ⟨cs, _, _, hc, by decide⟩
  · intro k hk
    simp only [List.mem_cons, List.not_mem_nil, or_false] at hk
    rcases hk with rfl | rfl
    · simp
    · exact .inr h2
theorem take2_any (o : OptM) (go gx dx base : Nat) (xs : List UInt8) (w : World) (hgo : w.heap[go]? = some (.cells o.cells 31 (0, 0))) (hm : o.mac.length = 12) (hown : OwnS w base o) (hb : base ≤ w.heap.size) (h1 : go < base) (h2 : base ≤ gx) (h3 : base ≤ dx) (hx : RdrT w gx dx xs) (hl : xs.length = 2) :
    Calls Try.prog 78 #[.pointer (some ⟨go, 0, none⟩), .int .u8 2, .pointer (some ⟨gx, 0, none⟩)] w fun e w' => e = .returned (.tuple #[]) ∧ ∃ A c, w'.heap[go]? = some (.cells ({ takeO o 2 xs with A := A, c := c } : OptM).cells 31 (0, 0)) ∧ OwnS w' base { takeO o 2 xs with A := A, c := c } ∧ ModB base [go] w w' := by
  have HX := hid hx
  have HOWN := hid hown
  have HG := hid hgo
  have HM := hid hm
  have HNW : takeO o 2 xs = { o with hasMSS := true, mss := be (xs.take 2) } := rfl
  obtain ⟨v, hv⟩ : ∃ v, be (xs.take 2) = v := ⟨_, rfl⟩
  have bv : v < 65536 := by rw [← hv]; exact be_take_lt xs 2
  have cv : (v : Int) % 65536 = v := by omega
  have HNv := hid (fun W h => numV gx dx xs 2 v hv (by decide) (by decide) (by (try simp); omega) W h)
  rw [HNW]
  rw [hv]
  clear HNW
  clear hown hgo hm hl hx hv
  go_enter Try.func78, Try.ntmps78
  go_wp2_with fail
  (with_reducible refine Calls.mono (HNv.out _ HX.out) ?_)
  rintro e w1 ⟨rfl, hd1, hm1, hs1⟩
  have HD1 := hid hd1
  have HM1 := hid hm1
  have HG1 := hid (hm1.keeps HG.out (by simp; omega))
  clear hd1 hm1 hs1
  obtain ⟨e0, e1, e2, e3, e4, e5, e6, e7, e8, e9, e10, e11⟩ := opt_cells HG1.out
  have z0 := Lib.frozen_of_heap HG1.out 0
  have z1 := Lib.frozen_of_heap HG1.out 1
  go_wp2_with fail
  go_end0
  refine ⟨rfl, fin_take (o' := { o with hasMSS := true, mss := v }) HOWN.out hb h1 h2 HX.out ((HM1.out.sub (by simp)).trans ((Mod.setCell go 0 _ (by simp)).trans ((Mod.setCell go 1 _ (by simp))))) ?_ rfl rfl rfl⟩
  rw [← set_s2 o HM.out v]
  exact rowSetCell (rowSetCell (HG1.out) 0 _) 1 _
theorem take3_any (o : OptM) (go gx dx base : Nat) (xs : List UInt8) (w : World) (hgo : w.heap[go]? = some (.cells o.cells 31 (0, 0))) (hm : o.mac.length = 12) (hown : OwnS w base o) (hb : base ≤ w.heap.size) (h1 : go < base) (h2 : base ≤ gx) (h3 : base ≤ dx) (hx : RdrT w gx dx xs) (hl : xs.length = 1) :
    Calls Try.prog 78 #[.pointer (some ⟨go, 0, none⟩), .int .u8 3, .pointer (some ⟨gx, 0, none⟩)] w fun e w' => e = .returned (.tuple #[]) ∧ ∃ A c, w'.heap[go]? = some (.cells ({ takeO o 3 xs with A := A, c := c } : OptM).cells 31 (0, 0)) ∧ OwnS w' base { takeO o 3 xs with A := A, c := c } ∧ ModB base [go] w w' := by
  have HX := hid hx
  have HOWN := hid hown
  have HG := hid hgo
  have HM := hid hm
  have HNW : takeO o 3 xs = { o with hasScale := true, scale := min (be (xs.take 1)) 14 } := rfl
  obtain ⟨v, hv⟩ : ∃ v, be (xs.take 1) = v := ⟨_, rfl⟩
  have bv : v < 256 := by rw [← hv]; exact be_take_lt xs 1
  have cv : (v : Int) % 256 = v := by omega
  have HNv := hid (fun W h => numV gx dx xs 1 v hv (by decide) (by decide) (by (try simp); omega) W h)
  rw [HNW]
  rw [hv]
  clear HNW
  clear hown hgo hm hl hx hv
  obtain ⟨m, hmn⟩ : ∃ m, min v 14 = m := ⟨_, rfl⟩
  rw [hmn]
  have hmi : (if (v : Int) < 14 then (v : Int) else 14) = (m : Int) := by split <;> omega
  have hmj : (if (14 : Int) < v then 14 else (v : Int)) = (m : Int) := by split <;> omega
  have hmk : min (v : Int) 14 = (m : Int) := by omega
  have hml : min (14 : Int) v = (m : Int) := by omega
  have hmd : (if (v : Int) ≤ 14 then (v : Int) else 14) = (m : Int) := by split <;> omega
  clear hmn
  go_enter Try.func78, Try.ntmps78
  go_wp2_with fail
  (with_reducible refine Calls.mono (HNv.out _ HX.out) ?_)
  rintro e w1 ⟨rfl, hd1, hm1, hs1⟩
  have HD1 := hid hd1
  have HM1 := hid hm1
  have HG1 := hid (hm1.keeps HG.out (by simp; omega))
  clear hd1 hm1 hs1
  obtain ⟨e0, e1, e2, e3, e4, e5, e6, e7, e8, e9, e10, e11⟩ := opt_cells HG1.out
  have z2 := Lib.frozen_of_heap HG1.out 2
  have z3 := Lib.frozen_of_heap HG1.out 3
  go_wp2_with fail
  go_end0
  refine ⟨rfl, fin_take (o' := { o with hasScale := true, scale := m }) HOWN.out hb h1 h2 HX.out ((HM1.out.sub (by simp)).trans ((Mod.setCell go 2 _ (by simp)).trans ((Mod.setCell go 3 _ (by simp))))) ?_ rfl rfl rfl⟩
  rw [← set_s3 o HM.out m]
  exact rowSetCell (rowSetCell (HG1.out) 2 _) 3 _
theorem take4_any (o : OptM) (go gx dx base : Nat) (xs : List UInt8) (w : World) (hgo : w.heap[go]? = some (.cells o.cells 31 (0, 0))) (hm : o.mac.length = 12) (hown : OwnS w base o) (hb : base ≤ w.heap.size) (h1 : go < base) (h2 : base ≤ gx) (h3 : base ≤ dx) (hx : RdrT w gx dx xs) (hl : xs.length = 0) :
    Calls Try.prog 78 #[.pointer (some ⟨go, 0, none⟩), .int .u8 4, .pointer (some ⟨gx, 0, none⟩)] w fun e w' => e = .returned (.tuple #[]) ∧ ∃ A c, w'.heap[go]? = some (.cells ({ takeO o 4 xs with A := A, c := c } : OptM).cells 31 (0, 0)) ∧ OwnS w' base { takeO o 4 xs with A := A, c := c } ∧ ModB base [go] w w' := by
  have HX := hid hx
  have HOWN := hid hown
  have HG := hid hgo
  have HM := hid hm
  have HNW : takeO o 4 xs = { o with sackOK := true } := rfl
  rw [HNW]
  clear HNW
  clear hown hgo hm hl hx
  go_enter Try.func78, Try.ntmps78
  obtain ⟨e0, e1, e2, e3, e4, e5, e6, e7, e8, e9, e10, e11⟩ := opt_cells HG.out
  have z4 := Lib.frozen_of_heap HG.out 4
  go_wp2_with fail
  go_end0
  refine ⟨rfl, fin_take (o' := { o with sackOK := true }) HOWN.out hb h1 h2 HX.out ((Mod.setCell go 4 _ (by simp))) ?_ rfl rfl rfl⟩
  rw [← set_s4 o HM.out]
  exact rowSetCell (HG.out) 4 _
theorem take8_any (o : OptM) (go gx dx base : Nat) (xs : List UInt8) (w : World) (hgo : w.heap[go]? = some (.cells o.cells 31 (0, 0))) (hm : o.mac.length = 12) (hown : OwnS w base o) (hb : base ≤ w.heap.size) (h1 : go < base) (h2 : base ≤ gx) (h3 : base ≤ dx) (hx : RdrT w gx dx xs) (hl : xs.length = 8) :
    Calls Try.prog 78 #[.pointer (some ⟨go, 0, none⟩), .int .u8 8, .pointer (some ⟨gx, 0, none⟩)] w fun e w' => e = .returned (.tuple #[]) ∧ ∃ A c, w'.heap[go]? = some (.cells ({ takeO o 8 xs with A := A, c := c } : OptM).cells 31 (0, 0)) ∧ OwnS w' base { takeO o 8 xs with A := A, c := c } ∧ ModB base [go] w w' := by
  have HX := hid hx
  have HOWN := hid hown
  have HG := hid hgo
  have HM := hid hm
  have HNW : takeO o 8 xs = { o with hasTime := true, val := be (xs.take 4), echo := be ((xs.drop 4).take 4) } := rfl
  obtain ⟨v, hv⟩ : ∃ v, be (xs.take 4) = v := ⟨_, rfl⟩
  have bv : v < 4294967296 := by rw [← hv]; exact be_take_lt xs 4
  have cv : (v : Int) % 4294967296 = v := by omega
  obtain ⟨u, hu⟩ : ∃ v, be ((xs.drop 4).take 4) = v := ⟨_, rfl⟩
  have bu : u < 4294967296 := by rw [← hu]; exact be_take_lt (xs.drop 4) 4
  have cu : (u : Int) % 4294967296 = u := by omega
  have HNv := hid (fun W h => numV gx dx xs 4 v hv (by decide) (by decide) (by (try simp); omega) W h)
  have HNu := hid (fun W h => numV gx dx (xs.drop 4) 4 u hu (by decide) (by decide) (by (try simp); omega) W h)
  rw [HNW]
  rw [hv, hu]
  clear HNW
  clear hown hgo hm hl hx hv hu
  go_enter Try.func78, Try.ntmps78
  go_wp2_with fail
  (with_reducible refine Calls.mono (HNv.out _ HX.out) ?_)
  rintro e w1 ⟨rfl, hd1, hm1, hs1⟩
  have HD1 := hid hd1
  have HM1 := hid hm1
  have HG1 := hid (hm1.keeps HG.out (by simp; omega))
  clear hd1 hm1 hs1
  go_wp2_with fail
  (with_reducible refine Calls.mono (HNu.out _ HD1.out) ?_)
  rintro e w2 ⟨rfl, hd2, hm2, hs2⟩
  have HD2 := hid hd2
  have HM2 := hid hm2
  have HG2 := hid (hm2.keeps HG1.out (by simp; omega))
  clear hd2 hm2 hs2
  obtain ⟨e0, e1, e2, e3, e4, e5, e6, e7, e8, e9, e10, e11⟩ := opt_cells HG2.out
  have z6 := Lib.frozen_of_heap HG2.out 6
  have z7 := Lib.frozen_of_heap HG2.out 7
  have z8 := Lib.frozen_of_heap HG2.out 8
  go_wp2_with fail
  go_end0
  refine ⟨rfl, fin_take (o' := { o with hasTime := true, val := v, echo := u }) HOWN.out hb h1 h2 HX.out ((HM1.out.sub (by simp)).trans ((HM2.out.sub (by simp)).trans ((Mod.setCell go 6 _ (by simp)).trans ((Mod.setCell go 7 _ (by simp)).trans ((Mod.setCell go 8 _ (by simp))))))) ?_ rfl rfl rfl⟩
  rw [← set_s8 o HM.out v u]
  exact rowSetCell (rowSetCell (rowSetCell (HG2.out) 6 _) 7 _) 8 _
theorem bytesV (g d : Nat) (xs m : List UInt8) (k : Nat) (hk0 : 0 < k) (hm : xs.take k = m) (hk : k ≤ xs.length) (w : World) (h : RdrT w g d xs) :
    Calls Try.prog 80 #[.pointer (some ⟨g, 0, none⟩), .int .i64 (k : Int)] w fun e w' => ∃ ad, e = .returned (.slice (some ad) k k) ∧ (∀ (j : Nat) u, (by8 m).toArray[j]? = some u → w'.cell? (ad.add j) = some u) ∧ Mod [g] w w' ∧ w'.heap.size = w.heap.size := by
  subst hm
  refine (bytesD g d xs k hk0 hk w h.1).mono ?_
  rintro e w' ⟨A, rfl, h1, _, _, h4, h5⟩
  obtain ⟨A', c', e1, hrow⟩ := h1
  injection e1 with e1 _ _
  subst e1
  have hl : (by8 (xs.take k)).length = k := by rw [by8_length, List.length_take]; omega
  obtain ⟨ad, rfl, _⟩ := hrow.at_ 0 _ (List.getElem?_eq_getElem (by omega))
  refine ⟨ad, rfl, fun j u hu => ?_, Mod.of_grown h4, h5⟩
  obtain ⟨ad2, e2, hc⟩ := hrow.at_ j u (by simpa using hu)
  injection e2 with e2
  subst e2
  exact hc
theorem take29_any (o : OptM) (go gx dx base : Nat) (xs : List UInt8) (w : World) (hgo : w.heap[go]? = some (.cells o.cells 31 (0, 0))) (hm : o.mac.length = 12) (hown : OwnS w base o) (hb : base ≤ w.heap.size) (h1 : go < base) (h2 : base ≤ gx) (h3 : base ≤ dx) (hx : RdrT w gx dx xs) (hl : xs.length = 14) :
    Calls Try.prog 78 #[.pointer (some ⟨go, 0, none⟩), .int .u8 29, .pointer (some ⟨gx, 0, none⟩)] w fun e w' => e = .returned (.tuple #[]) ∧ ∃ A c, w'.heap[go]? = some (.cells ({ takeO o 29 xs with A := A, c := c } : OptM).cells 31 (0, 0)) ∧ OwnS w' base { takeO o 29 xs with A := A, c := c } ∧ ModB base [go] w w' := by
  have HX := hid hx
  have HOWN := hid hown
  have HG := hid hgo
  have HM := hid hm
  have HNW : takeO o 29 xs = { o with hasAO := true, key := be (xs.take 1), next := be ((xs.drop 1).take 1), mac := (xs.drop 2).take 12 } := rfl
  obtain ⟨v, hv⟩ : ∃ v, be (xs.take 1) = v := ⟨_, rfl⟩
  have bv : v < 256 := by rw [← hv]; exact be_take_lt xs 1
  have cv : (v : Int) % 256 = v := by omega
  obtain ⟨u, hu⟩ : ∃ v, be ((xs.drop 1).take 1) = v := ⟨_, rfl⟩
  have bu : u < 256 := by rw [← hu]; exact be_take_lt (xs.drop 1) 1
  have cu : (u : Int) % 256 = u := by omega
  have HNv := hid (fun W h => numV gx dx xs 1 v hv (by decide) (by decide) (by (try simp); omega) W h)
  have HNu := hid (fun W h => numV gx dx (xs.drop 1) 1 u hu (by decide) (by decide) (by (try simp); omega) W h)
  rw [HNW]
  rw [hv, hu]
  clear HNW
  obtain ⟨m, hmn⟩ : ∃ m, (xs.drop 2).take 12 = m := ⟨_, rfl⟩
  rw [hmn]
  have HML := hid (show m.length = 12 by rw [← hmn, List.length_take, List.length_drop]; omega)
  have HBY := hid (fun W h => bytesV gx dx ((xs.drop 1).drop 1) m 12 (by decide) (by rw [List.drop_drop]; exact hmn) (by simp; omega) W h)
  clear hmn
  clear hown hgo hm hl hx hv hu
  go_enter Try.func78, Try.ntmps78
  go_wp2_with fail
  (with_reducible refine Calls.mono (HNv.out _ HX.out) ?_)
  rintro e w1 ⟨rfl, hd1, hm1, hs1⟩
  have HD1 := hid hd1
  have HM1 := hid hm1
  have HG1 := hid (hm1.keeps HG.out (by simp; omega))
  clear hd1 hm1 hs1
  go_wp2_with fail
  (with_reducible refine Calls.mono (HNu.out _ HD1.out) ?_)
  rintro e w2 ⟨rfl, hd2, hm2, hs2⟩
  have HD2 := hid hd2
  have HM2 := hid hm2
  have HG2 := hid (hm2.keeps HG1.out (by simp; omega))
  clear hd2 hm2 hs2
  obtain ⟨e0, e1, e2, e3, e4, e5, e6, e7, e8, e9, e10, e11⟩ := opt_cells HG2.out
  have z9 := Lib.frozen_of_heap HG2.out 9
  have z10 := Lib.frozen_of_heap HG2.out 10
  have z11 := Lib.frozen_of_heap HG2.out 11
  go_wp2_with fail
  have hg4 : (((w2.setCell ⟨go, 9, none⟩ (.bool true)).setCell ⟨go, 10, none⟩ (.int .u8 (v : Int))).setCell ⟨go, 11, none⟩ (.int .u8 (u : Int))).heap[go]? = some (.cells ({ o with hasAO := true, key := v, next := u } : OptM).cells 31 (0, 0)) := by rw [← set_s29 o HM.out v u]; exact rowSetCell (rowSetCell (rowSetCell HG2.out 9 _) 10 _) 11 _
  have m4 : Mod [go] w2 (((w2.setCell ⟨go, 9, none⟩ (.bool true)).setCell ⟨go, 10, none⟩ (.int .u8 (v : Int))).setCell ⟨go, 11, none⟩ (.int .u8 (u : Int))) := (Mod.setCell go 9 _ (by simp)).trans ((Mod.setCell go 10 _ (by simp)).trans (Mod.setCell go 11 _ (by simp)))
  clear e0 e1 e2 e3 e4 e5 e6 e7 e8 e9 e10 e11 z9 z10 z11
  generalize ((w2.setCell ⟨go, 9, none⟩ (.bool true)).setCell ⟨go, 10, none⟩ (.int .u8 (v : Int))).setCell ⟨go, 11, none⟩ (.int .u8 (u : Int)) = w4 at hg4 m4 ⊢
  have hd4 : RdrT w4 gx dx ((xs.drop 1).drop 1) := by
    refine HD2.out.mod m4 (by simp; omega) ?_
    simp only [List.mem_cons, List.not_mem_nil, or_false]
    omega
  (with_reducible refine Calls.mono (HBY.out _ hd4) ?_)
  rintro e w5 ⟨ad, rfl, hc5, hm5, hs5⟩
  have HG5 := hid (hm5.keeps hg4 (by simp; omega))
  have HM4 := hid m4
  have HM5 := hid hm5
  have HF := hid (show (by8 m).toArray.size = 12 by simp [by8_length, HML.out])
  have HMO : ({ o with hasAO := true, key := v, next := u } : OptM).mac.length = 12 := HM.out
  have HNW := hid (set_m29 { o with hasAO := true, key := v, next := u } HM.out m HML.out)
  have HSZ := hid (show 12 + (by8 m).length ≤ ({ o with hasAO := true, key := v, next := u } : OptM).cells.size by rw [OptM.size { o with hasAO := true, key := v, next := u } HM.out, by8_length, HML.out]; decide)
  have HI12 := hid (show (Try.prog.info? 29).map (·.size) = some (by8 m).toArray.size by rw [HF.out]; kernel_rfl)
  have HI12' := hid (show (Try.prog.info? 29).map (·.size) = some (by8 m).length by rw [by8_length, HML.out]; kernel_rfl)
  clear hd4 hg4 m4 hm5 hs5 HMO
  go_wp2_with (first
    | ((with_reducible refine at_slot 72 ?_); refine wpList_yield rfl (exec_arr12 (.tmp 71) rfl Try.underlying29 ad rfl) ?_; simp only [Act.put, List.setIfInBounds_toArray, List.set_cons_zero, List.set_cons_succ])
    | ((with_reducible refine at_slot 73 ?_); refine wpList_load_at 29 (.tmp 72) rfl rfl ad rfl (by8 m).toArray _ hc5 Try.underlying29 rfl HI12.out ?_)
    | ((with_reducible refine at_store 75 73 ?_); refine wpList_partF rfl 29 (.tmp 75) (.tmp 73) rfl go 12 31 _ _ (by8 m) rfl rfl HG5.out HSZ.out (by8_one _) HI12'.out HNW.out ?_; intro w6 h6 m6 z6))
  go_end0
  refine ⟨rfl, fin_take (o' := { o with hasAO := true, key := v, next := u, mac := m }) HOWN.out hb h1 h2 HX.out ((HM1.out.sub (by simp)).trans ((HM2.out.sub (by simp)).trans ((HM4.out.sub (by simp)).trans ((HM5.out.sub (by simp)).trans ((m6.sub (by simp))))))) h6 rfl rfl rfl⟩
end Go.Proofs.Ythnidgiogjehkaa
namespace Go.Proofs.Ythnidgiogjehkaa
set_option linter.unusedVariables false
set_option linter.unusedSimpArgs false
open Go.RowKit

theorem info_blkO : ∃ i z, Try.prog.info? 84 = some i ∧ i.zero = some z ∧ i.size = 2 ∧ i.bytes = 8 ∧ z.cells.size = 2 := by
  have h : (Try.prog.info? 84).bind (fun i => i.zero.map fun z => (i.size, i.bytes, z.cells.size)) = some (2, 8, 2) := by kernel_rfl
  cases hi : Try.prog.info? 84 with
  | none => rw [hi] at h; cases h
  | some i =>
    rw [hi] at h
    cases hz : i.zero with
    | none => simp [hz] at h
    | some z =>
      simp [hz] at h
      exact ⟨i, z, rfl, hz, h.1, h.2.1, h.2.2⟩
theorem one_bcsO (bs : List (Nat × Nat)) : ∀ u ∈ bcs bs, u.oneCell' = true := by
  intro u hu
  simp only [bcs, List.mem_flatMap, List.mem_cons, List.not_mem_nil, or_false] at hu
  obtain ⟨r, _, rfl | rfl⟩ := hu <;> rfl
theorem bcs_snoc (bs : List (Nat × Nat)) (b : Nat × Nat) : bcs (bs ++ [b]) = bcs bs ++ bcs [b] := by simp [bcs]
theorem Row.one_blkO {w : World} {b x y : Nat} {T : TypeId} {fz : Nat × Nat} (h : w.heap[b]? = some (.cells #[.int .u32 (x : Int), .int .u32 (y : Int)] T fz)) : Row w 2 (some ⟨b, 0, none⟩) 1 1 (bcs [(x, y)]) := by
  refine ⟨rfl, Nat.le_refl _, by decide, fun k v hv => ⟨_, rfl, ?_⟩⟩
  have : (⟨b, 0, none⟩ : Addr).add k = ⟨b, k, none⟩ := by unfold Addr.add; split <;> simp_all
  rw [this]
  simp only [World.cell?, h]
  simpa [bcs] using hv
theorem lit_blk (x y : Int) : ∀ w, (Instr.buildSlice 28 1 #[(0, .agg #[.int .u32 x, .int .u32 y])]).run Try.prog w = .ok (.slice (some ⟨w.heap.size, 0, none⟩) 1 1) (w.alloc (.cells #[.int .u32 x, .int .u32 y] 84)) := by intro w; kernel_rfl
theorem blocksO_snoc (k : Nat) : ∀ xs : List UInt8, blocksO (k + 1) xs = blocksO k xs ++ [(be ((xs.drop (8 * k)).take 4), be (((xs.drop (8 * k)).drop 4).take 4))] := by
  induction k with
  | zero => intro xs; rfl
  | succ k ih =>
    intro xs
    show (be (xs.take 4), be ((xs.drop 4).take 4)) :: blocksO (k + 1) (xs.drop 8) = _
    rw [ih, List.drop_drop, show 8 + 8 * k = 8 * (k + 1) by omega]
    rfl
theorem blocksO_len (k : Nat) : ∀ xs : List UInt8, (blocksO k xs).length = k := by
  induction k with
  | zero => intro xs; rfl
  | succ k ih => intro xs; simp [blocksO, ih]
/-- How many are left at a cell. -/
def lenAt (w : World) (a : Addr) : Nat := match w.cell? a with
  | some (.slice _ n _) => n
  | _ => 0
theorem lenAt_rdr {w : World} {g d : Nat} {xs : List UInt8} (h : RdrT w g d xs) : lenAt w ⟨g, 0, none⟩ = xs.length := by
  obtain ⟨⟨A, c, h, _⟩, _⟩ := h
  have hc := cell_of_row w g 0 _ _ _ h
  simp only [List.getElem?_toArray, List.getElem?_cons_zero] at hc
  simp [lenAt, hc]
theorem mod_grown {w w' : World} {q : Option Nat} (h : w.grownBy w' q) : ∃ M, Mod M w w' ∧ ∀ k ∈ M, q = some k := by
  cases q with
  | none => exact ⟨[], ⟨h.os, h.tape, h.output, h.size, fun k hk _ => h.block k hk (by simp)⟩, by simp⟩
  | some b => exact ⟨[b], Mod.of_grown h, by simp⟩
theorem RdrT.ownGrown {w w' : World} {g d base n : Nat} {v : Value} {vs : List Value} {xs : List UInt8} (h : RdrT w g d xs) (ho : w.ownsRow base 84 2 v n vs) (hg : w.grownBy w' v.ownBlock) : RdrT w' g d xs := by
  obtain ⟨M, hm, hM⟩ := mod_grown hg
  obtain ⟨cs, hb⟩ := h.blk
  obtain ⟨_, cs2, T, fr, h4, h5⟩ := id h
  exact h.mod hm (fun hx => own_ne ho hb (by decide) (hM _ hx)) (fun hx => own_ne ho h4 h5 (hM _ hx))
set_option maxRecDepth 20000 in
set_option maxHeartbeats 4000000 in
theorem take5_any (o : OptM) (n : Nat) (hn : n ≤ 4) (hsl : o.sacks.length ≤ 1000) (go gx dx base : Nat) (xs : List UInt8) (w : World) (hgo : w.heap[go]? = some (.cells o.cells 31 (0, 0))) (hm : o.mac.length = 12) (hown : OwnS w base o) (hb : base ≤ w.heap.size) (h1 : go < base) (h2 : base ≤ gx) (h3 : base ≤ dx) (hx : RdrT w gx dx xs) (hl : xs.length = 8 * n) :
    Calls Try.prog 78 #[.pointer (some ⟨go, 0, none⟩), .int .u8 5, .pointer (some ⟨gx, 0, none⟩)] w fun e w' => e = .returned (.tuple #[]) ∧ ∃ A c, w'.heap[go]? = some (.cells ({ takeO o 5 xs with A := A, c := c } : OptM).cells 31 (0, 0)) ∧ OwnS w' base { takeO o 5 xs with A := A, c := c } ∧ ModB base [go] w w' := by
  have HNW : takeO o 5 xs = { o with sacks := o.sacks ++ blocksO n xs } := by
    show { o with sacks := o.sacks ++ blocksO (xs.length / 8) xs } = _
    rw [hl, show 8 * n / 8 = n by omega]
  rw [HNW]
  clear HNW
  obtain ⟨ib, zb, hib, hzb, hb1, hb2, hb3⟩ := info_blkO
  have HX := hid hx
  have HOWN := hid hown
  have HG := hid hgo
  have HM := hid hm
  have HL := hid hl
  clear hown hgo hm hl hx
  go_enter Try.func78, Try.ntmps78
  go_wp2_with fail
  go_loopw [] (fun wr => ∃ (k : Nat) (o1 : OptM), k ≤ n ∧ (∃ A c, o1 = { o with A := A, c := c, sacks := o.sacks ++ blocksO k xs }) ∧ wr.heap[go]? = some (.cells o1.cells 31 (0, 0)) ∧ OwnS wr base o1 ∧ RdrT wr gx dx (xs.drop (8 * k)) ∧ ModB base [go] w wr) (fun wr => lenAt wr ⟨gx, 0, none⟩)
  case atStart => exact ⟨0, o, Nat.zero_le _, ⟨o.A, o.c, by simp [blocksO]⟩, HG.out, HOWN.out, HX.out, ModB.refl _ _ _⟩
  case round =>
    obtain ⟨k, o1, hk, ⟨A1, c1, ho1⟩, hg1, hw1, hr1, hm1⟩ := hrel
    obtain ⟨ys, hys⟩ : ∃ ys, xs.drop (8 * k) = ys := ⟨_, rfl⟩
    have hyl : ys.length = 8 * (n - k) := by rw [← hys, List.length_drop, HL.out]; omega
    rw [hys] at hr1
    have HLE := hid (lenAt_rdr hr1)
    have HYS := hid hys
    have HO1 := hid ho1
    have HML := hid (show o1.mac.length = 12 by rw [ho1]; exact HM.out)
    have HSN := hid (show o1.sacks.length ≤ 1000 + k by rw [ho1]; show (o.sacks ++ blocksO k xs).length ≤ _; rw [List.length_append, blocksO_len]; omega)
    have HLF := hid (fun W h => left_any gx ys W h)
    have HG1 := hid hg1
    have HW1 := hid hw1
    have HR1 := hid hr1
    have HM1 := hid hm1
    have HYL := hid hyl
    clear hys ho1 hg1 hw1 hr1 hm1
    by_cases hlt : k < n
    · have t1 : decide ((8 : Int) ≤ (ys.length : Int)) = true := by rw [decide_eq_true_eq, hyl]; omega
      clear hyl
      go_wp2_with fail
      (with_reducible refine Calls.mono (HLF.out _ HR1.out.rdr') ?_)
      rintro e w2 ⟨rfl, rfl⟩
      obtain ⟨x, hx⟩ : ∃ x, be (ys.take 4) = x := ⟨_, rfl⟩
      obtain ⟨y, hy⟩ : ∃ y, be ((ys.drop 4).take 4) = y := ⟨_, rfl⟩
      have HXL := hid (show x < 4294967296 by rw [← hx]; exact be_take_lt ys 4)
      have HYY := hid (show y < 4294967296 by rw [← hy]; exact be_take_lt (ys.drop 4) 4)
      have HNX := hid (fun W h => numV gx dx ys 4 x hx (by decide) (by decide) (by have := HYL.out; omega) W h)
      have HNY := hid (fun W h => numV gx dx (ys.drop 4) 4 y hy (by decide) (by decide) (by have := HYL.out; rw [List.length_drop]; omega) W h)
      have HQX := hid (show IntKind.u32.wrap (x : Int) = (x : Int) by have := HXL.out; simp [IntKind.wrap, IntKind.bits, IntKind.signed]; omega)
      have HQY := hid (show IntKind.u32.wrap (y : Int) = (y : Int) by have := HYY.out; simp [IntKind.wrap, IntKind.bits, IntKind.signed]; omega)
      have HXY := hid (show blocksO (k + 1) xs = blocksO k xs ++ [(x, y)] by rw [blocksO_snoc, HYS.out, hx, hy])
      clear hx hy
      go_upto_region 14 with fail
      have hS0 : ({ wr with drawn := wr.drawn + 1 } : World).heap[go]? = some (.cells o1.cells 31 (0, 0)) := HG1.out
      refine wp_region_cut 16 (fun W' => W'.heap[go]? = some (.cells o1.cells 31 (0, 0))) rfl rfl (by kernel_rfl) (by kernel_rfl) (by kernel_rfl) (by kernel_rfl) hS0 ?_
      intro hS
      have hr : RdrT ({ wr with drawn := wr.drawn + 1 } : World) gx dx ys := HR1.out.mod (M := []) Mod.drew (by simp) (by simp)
      have ho : OwnS ({ wr with drawn := wr.drawn + 1 } : World) base o1 := HW1.out
      have hmb : ModB base [go] w ({ wr with drawn := wr.drawn + 1 } : World) := ⟨HM1.out.os, HM1.out.tape, HM1.out.output, HM1.out.size, HM1.out.block⟩
      clear hS0 HR1 HW1 HM1 HG1
      generalize ({ wr with drawn := wr.drawn + 1 } : World) = u at hS hr ho hmb ⊢
      refine wpAnyH_take (i := 0) (oi := ⟨some 81, _, _, _, _, _⟩) (v := ?_) rfl (by kernel_rfl) (by kernel_rfl) (by kernel_rfl) (fun _ _ _ h => h) (Or.inl ⟨by rfl, ?_⟩) hS ?_
      rotate_left 1
      focus ((intro W' hS'; go_simp) <;> with_reducible rfl)
      try simp only [Act.put, List.setIfInBounds_toArray, List.set_cons_zero, List.set_cons_succ]
      refine wpAnyH_take (i := 1) (oi := ⟨some 82, _, _, _, _, _⟩) (v := ?_) rfl (by kernel_rfl) (by kernel_rfl) (by kernel_rfl) (fun _ _ _ h => h) (Or.inl ⟨by rfl, ?_⟩) hS ?_
      rotate_left 1
      focus ((intro W' hS'; go_simp) <;> with_reducible rfl)
      try simp only [Act.put, List.setIfInBounds_toArray, List.set_cons_zero, List.set_cons_succ]
      refine wpAnyH_take (i := 2) (oi := ⟨some 83, _, _, _, _, _⟩) (v := ?_) rfl (by kernel_rfl) (by kernel_rfl) (by kernel_rfl) (fun _ _ _ h => h) (Or.inl ⟨by rfl, ?_⟩) hS ?_
      rotate_left 1
      focus ((intro W' hS'; go_simp) <;> with_reducible rfl)
      try simp only [Act.put, List.setIfInBounds_toArray, List.set_cons_zero, List.set_cons_succ]
      refine wpAnyH_take (i := 3) (oi := ⟨some 84, _, _, _, _, _⟩) (v := ?_) rfl (by kernel_rfl) (by kernel_rfl) (by kernel_rfl) (fun _ _ _ h => h) (Or.inl ⟨by rfl, ?_⟩) hS ?_
      rotate_left 1
      focus ((intro W' hS'; go_simp) <;> with_reducible rfl)
      try simp only [Act.put, List.setIfInBounds_toArray, List.set_cons_zero, List.set_cons_succ]
      refine wpAnyH_take (i := 4) (oi := ⟨some 85, _, _, _, _, _⟩) (v := ?_) rfl (by kernel_rfl) (by kernel_rfl) (by kernel_rfl) (fun _ _ _ h => h) (Or.inl ⟨by rfl, ?_⟩) hS ?_
      rotate_left 1
      focus ((intro W' hS'; have q1 := (opt_cells hS').2.2.2.2.2.1; go_simp) <;> with_reducible rfl)
      try simp only [Act.put, List.setIfInBounds_toArray, List.set_cons_zero, List.set_cons_succ]
      refine wpAnyH_take (i := 5) (oi := ⟨some 86, _, _, _, _, _⟩) (v := ?_) rfl (by kernel_rfl) (by kernel_rfl) (by kernel_rfl) (fun _ _ _ h => h) (Or.inl ⟨by rfl, ?_⟩) hS ?_
      rotate_left 1
      focus ((intro W' hS'; go_simp) <;> with_reducible rfl)
      try simp only [Act.put, List.setIfInBounds_toArray, List.set_cons_zero, List.set_cons_succ]
      refine wpAnyH_take (i := 8) (oi := ⟨some 89, _, _, _, _, _⟩) (v := ?_) rfl (by kernel_rfl) (by kernel_rfl) (by kernel_rfl) (fun _ _ _ h => h) (Or.inl ⟨by rfl, ?_⟩) hS ?_
      rotate_left 1
      focus ((intro W' hS'; go_simp) <;> with_reducible rfl)
      try simp only [Act.put, List.setIfInBounds_toArray, List.set_cons_zero, List.set_cons_succ]
      refine anyH_one (i := 6) (by kernel_rfl) ⟨some 87, _, _, _, _, _⟩ rfl (by rfl) ?_
      go_simp
      with_reducible refine Calls.mono (HNX.out _ hr) ?_
      rintro e u3 ⟨rfl, hr3, hm3, hs3⟩
      replace hS := hm3.keeps hS (by simp; omega)
      replace ho := own_mod ho hm3 (by intro j hj; obtain rfl : j = gx := (by simpa using hj); obtain ⟨cs, hc⟩ := hr.blk; exact .inr ⟨cs, _, _, hc, by decide⟩)
      replace hmb := hmb.trans (ModB.of_mod hm3 (Nat.le_trans hb hmb.size) (by intro j hj; obtain rfl : j = gx := (by simpa using hj); exact .inr h2))
      clear hr
      have hr := hr3
      clear hr3
      clear hm3 hs3
      refine ⟨hS, ?_⟩
      try simp only [Act.put, List.setIfInBounds_toArray, List.set_cons_zero, List.set_cons_succ]
      refine wpAnyH_take (i := 7) (oi := ⟨some 88, _, _, _, _, _⟩) (v := ?_) rfl (by kernel_rfl) (by kernel_rfl) (by kernel_rfl) (fun _ _ _ h => h) (Or.inl ⟨by rfl, ?_⟩) hS ?_
      rotate_left 1
      focus ((intro W' hS'; have q1 := HQX.out; go_simp) <;> with_reducible rfl)
      try simp only [Act.put, List.setIfInBounds_toArray, List.set_cons_zero, List.set_cons_succ]
      refine anyH_one (i := 9) (by kernel_rfl) ⟨some 90, _, _, _, _, _⟩ rfl (by rfl) ?_
      go_simp
      with_reducible refine Calls.mono (HNY.out _ hr) ?_
      rintro e u4 ⟨rfl, hr4, hm4, hs4⟩
      replace hS := hm4.keeps hS (by simp; omega)
      replace ho := own_mod ho hm4 (by intro j hj; obtain rfl : j = gx := (by simpa using hj); obtain ⟨cs, hc⟩ := hr.blk; exact .inr ⟨cs, _, _, hc, by decide⟩)
      replace hmb := hmb.trans (ModB.of_mod hm4 (Nat.le_trans hb hmb.size) (by intro j hj; obtain rfl : j = gx := (by simpa using hj); exact .inr h2))
      clear hr
      have hr := hr4
      clear hr4
      clear hm4 hs4
      refine ⟨hS, ?_⟩
      try simp only [Act.put, List.setIfInBounds_toArray, List.set_cons_zero, List.set_cons_succ]
      refine wpAnyH_take (i := 10) (oi := ⟨some 91, _, _, _, _, _⟩) (v := ?_) rfl (by kernel_rfl) (by kernel_rfl) (by kernel_rfl) (fun _ _ _ h => h) (Or.inl ⟨by rfl, ?_⟩) hS ?_
      rotate_left 1
      focus ((intro W' hS'; have q1 := HQY.out; go_simp) <;> with_reducible rfl)
      try simp only [Act.put, List.setIfInBounds_toArray, List.set_cons_zero, List.set_cons_succ]
      refine wpAnyH_take (i := 11) (oi := ⟨some 92, _, _, _, _, _⟩) (v := ?_) rfl (by kernel_rfl) (by kernel_rfl) (by kernel_rfl) (fun _ _ _ h => h) (Or.inl ⟨by rfl, ?_⟩) hS ?_
      rotate_left 1
      focus ((intro W' hS'; go_simp) <;> with_reducible rfl)
      try simp only [Act.put, List.setIfInBounds_toArray, List.set_cons_zero, List.set_cons_succ]
      refine anyH_one (i := 12) (by kernel_rfl) ⟨some 93, _, _, _, _, _⟩ rfl (by rfl) ?_
      refine wp_litF 28 84 1 _ rfl #[(0, .agg #[.int .u32 (x : Int), .int .u32 (y : Int)])] (by simp [Act.eval, Act.put]) _ (lit_blk _ _) ?_
      intro u5 h5 hb5 z5
      replace hS := ((hb5.block _ (Array.getElem?_eq_some_iff.1 hS).1).trans hS)
      replace ho := own_below ho hb5
      replace hr := hr.mod (Mod.of_below hb5) (by simp) (by simp)
      replace hmb := hmb.trans (ModB.of_below hb5 (Nat.le_trans hb hmb.size))
      clear hb5 z5
      refine ⟨hS, ?_⟩
      try simp only [Act.put, List.setIfInBounds_toArray, List.set_cons_zero, List.set_cons_succ]
      refine anyH_one (i := 13) (by kernel_rfl) ⟨some 94, _, _, _, _, _⟩ rfl (by rfl) ?_
      refine wp_append_row u5 (.tmp 85) (.tmp 93) 28 rfl base 84 ib zb 2 8 Try.underlying28 hib hzb hb1 hb2 hb3 (by decide) _ o1.sacks.length (bcs o1.sacks) rfl ho _ 1 1 (bcs [(x, y)]) rfl (Row.one_blkO h5) (one_bcsO _) (by have := HSN.out; show o1.sacks.length + 1 ≤ 9223372036854775807; omega) (by have := HSN.out; omega) (Nat.le_trans hb hmb.size) ?_
      intro v3 u6 ho6 hg6 hk6
      rw [← bcs_snoc] at ho6
      replace hS := (hg6.block _ (Array.getElem?_eq_some_iff.1 hS).1 (by intro e; have := own_ge ho go e.symm; omega)).trans hS
      replace hr := hr.ownGrown ho hg6
      replace hmb := hmb.trans (ModB.of_grown hg6 (Nat.le_trans hb hmb.size) (fun j hj => own_ge ho j hj))
      obtain ⟨A6, c6, e6, _⟩ := Row.of_own ho6
      subst e6
      clear ho hg6 hk6 h5
      have ho := ho6
      clear ho6
      refine ⟨hS, ?_⟩
      try simp only [Act.put, List.setIfInBounds_toArray, List.set_cons_zero, List.set_cons_succ]
      refine wpAnyH_take (i := 14) (oi := ⟨some 95, _, _, _, _, _⟩) (v := ?_) rfl (by kernel_rfl) (by kernel_rfl) (by kernel_rfl) (fun _ _ _ h => h) (Or.inl ⟨by rfl, ?_⟩) hS ?_
      rotate_left 1
      focus ((intro W' hS'; go_simp) <;> with_reducible rfl)
      try simp only [Act.put, List.setIfInBounds_toArray, List.set_cons_zero, List.set_cons_succ]
      refine wpAnyH_take (i := 15) (oi := ⟨some 96, _, _, _, _, _⟩) (v := ?_) rfl (by kernel_rfl) (by kernel_rfl) (by kernel_rfl) (fun _ _ _ h => h) (Or.inl ⟨by rfl, ?_⟩) hS ?_
      rotate_left 1
      focus ((intro W' hS'; go_simp) <;> with_reducible rfl)
      try simp only [Act.put, List.setIfInBounds_toArray, List.set_cons_zero, List.set_cons_succ]
      refine wpAnyH_done (by kernel_rfl) ?_ _
      change wpList _ _ _ _ _ _
      have hz := Lib.frozen_of_heap hS 5
      have hc5 := (opt_cells hS).2.2.2.2.2.1
      have HS6 := hid hS
      have HO6 := hid ho
      have HR6 := hid hr
      have HB6 := hid hmb
      clear hS ho hr hmb HNX HNY HLF
      go_wp2_with fail
      go_roundw
      case rel =>
        have hm7 : Mod [go] u6 (u6.setCell ⟨go, 5, none⟩ (.slice A6 (o1.sacks.length + 1) c6)) := Mod.setCell go 5 _ (by simp)
        have hl7 : o1.sacks.length + 1 = (o1.sacks ++ [(x, y)]).length := by simp
        have hg7 := rowSetCell HS6.out 5 (.slice A6 (o1.sacks.length + 1) c6)
        have ho7 := own_mod HO6.out hm7 (by intro j hj; obtain rfl : j = go := (by simpa using hj); exact .inl h1)
        have hr7 := HR6.out.mod hm7 (by simp; omega) (by simp; omega)
        have hb7 := HB6.out.trans (ModB.of_mod hm7 (Nat.le_trans hb HB6.out.size) (by simp))
        rw [hl7] at hg7 ho7 hr7 hb7 ⊢
        rw [set_s5 o1 HML.out] at hg7
        rw [List.drop_drop] at hr7
        refine ⟨k + 1, { o1 with A := A6, c := c6, sacks := o1.sacks ++ [(x, y)] }, by omega, ⟨A6, c6, ?_⟩, hg7, ho7, ?_, hb7⟩
        · rw [HXY.out, ← List.append_assoc, HO1.out]
        · rw [show 8 * (k + 1) = 8 * k + 8 by omega, ← List.drop_drop, HYS.out]; exact hr7
      case measure =>
        rw [HLE.out]
        have hm7 : Mod [go] u6 (u6.setCell ⟨go, 5, none⟩ (.slice A6 (o1.sacks.length + 1) c6)) := Mod.setCell go 5 _ (by simp)
        rw [lenAt_rdr (HR6.out.mod hm7 (by simp; omega) (by simp; omega)), List.length_drop, List.length_drop]
        have := HYL.out
        omega
    · have hkn : k = n := by omega
      subst hkn
      have t1 : decide ((8 : Int) ≤ (ys.length : Int)) = false := by rw [decide_eq_false_iff_not, hyl]; omega
      clear hyl
      go_wp2_with fail
      (with_reducible refine Calls.mono (HLF.out _ HR1.out.rdr') ?_)
      rintro e w2 ⟨rfl, rfl⟩
      go_wp2_with fail
      go_end0
      have e1 := HO1.out
      have e2 := HG1.out
      have e3 := HW1.out
      rw [e1] at e2 e3
      exact ⟨rfl, A1, c1, e2, e3, HM1.out⟩
end Go.Proofs.Ythnidgiogjehkaa
namespace Go.Proofs.Ythnidgiogjehkaa
set_option linter.unusedVariables false
set_option linter.unusedSimpArgs false
open Go.RowKit

/-- An option is taken, of whatever kind. -/
theorem take_any (o : OptM) (k : UInt8) (go gx dx base : Nat) (xs : List UInt8) (w : World) (hgo : w.heap[go]? = some (.cells o.cells 31 (0, 0))) (hm : o.mac.length = 12) (hown : OwnS w base o) (hb : base ≤ w.heap.size) (h1 : go < base) (h2 : base ≤ gx) (h3 : base ≤ dx) (hx : RdrT w gx dx xs) (hr : rightO k (xs.length + 2) = true) (hsl : o.sacks.length ≤ 1000) :
    Calls Try.prog 78 #[.pointer (some ⟨go, 0, none⟩), .int .u8 (k.toNat : Int), .pointer (some ⟨gx, 0, none⟩)] w fun e w' => e = .returned (.tuple #[]) ∧ ∃ A c, w'.heap[go]? = some (.cells ({ takeO o k xs with A := A, c := c } : OptM).cells 31 (0, 0)) ∧ OwnS w' base { takeO o k xs with A := A, c := c } ∧ ModB base [go] w w' := by
  by_cases k2 : k = 2
  · subst k2
    have hl : xs.length = 2 := by
      have h : rightO 2 (xs.length + 2) = decide (((xs.length + 2 : Nat) : Int) = 4) := by unfold rightO; rw [if_neg (by omega)]; rfl
      rw [h] at hr
      have := of_decide_eq_true hr
      omega
    exact take2_any o go gx dx base xs w hgo hm hown hb h1 h2 h3 hx hl
  by_cases k3 : k = 3
  · subst k3
    have hl : xs.length = 1 := by
      have h : rightO 3 (xs.length + 2) = decide (((xs.length + 2 : Nat) : Int) = 3) := by unfold rightO; rw [if_neg (by omega)]; rfl
      rw [h] at hr
      have := of_decide_eq_true hr
      omega
    exact take3_any o go gx dx base xs w hgo hm hown hb h1 h2 h3 hx hl
  by_cases k4 : k = 4
  · subst k4
    have hl : xs.length = 0 := by
      have h : rightO 4 (xs.length + 2) = decide (((xs.length + 2 : Nat) : Int) = 2) := by unfold rightO; rw [if_neg (by omega)]; rfl
      rw [h] at hr
      have := of_decide_eq_true hr
      omega
    exact take4_any o go gx dx base xs w hgo hm hown hb h1 h2 h3 hx hl
  by_cases k8 : k = 8
  · subst k8
    have hl : xs.length = 8 := by
      have h : rightO 8 (xs.length + 2) = decide (((xs.length + 2 : Nat) : Int) = 10) := by unfold rightO; rw [if_neg (by omega)]; rfl
      rw [h] at hr
      have := of_decide_eq_true hr
      omega
    exact take8_any o go gx dx base xs w hgo hm hown hb h1 h2 h3 hx hl
  by_cases k29 : k = 29
  · subst k29
    have hl : xs.length = 14 := by
      have h : rightO 29 (xs.length + 2) = decide (((xs.length + 2 : Nat) : Int) = 16) := by unfold rightO; rw [if_neg (by omega)]; rfl
      rw [h] at hr
      have := of_decide_eq_true hr
      omega
    exact take29_any o go gx dx base xs w hgo hm hown hb h1 h2 h3 hx hl
  by_cases k5 : k = 5
  · subst k5
    have h : rightO 5 (xs.length + 2) = (decide ((xs.length + 2) % 8 = 2) && decide (2 < xs.length + 2) && decide (xs.length + 2 ≤ 34)) := by unfold rightO; rw [if_neg (by omega)]; rfl
    rw [h] at hr
    simp only [Bool.and_eq_true, decide_eq_true_eq] at hr
    exact take5_any o (xs.length / 8) (by omega) hsl go gx dx base xs w hgo hm hown hb h1 h2 h3 hx (by omega)
  have b2 : ((k.toNat : Int) == 2) = false := ne_lit k 2 (by decide) k2
  have b3 : ((k.toNat : Int) == 3) = false := ne_lit k 3 (by decide) k3
  have b4 : ((k.toNat : Int) == 4) = false := ne_lit k 4 (by decide) k4
  have b8 : ((k.toNat : Int) == 8) = false := ne_lit k 8 (by decide) k8
  have b29 : ((k.toNat : Int) == 29) = false := ne_lit k 29 (by decide) k29
  have b5 : ((k.toNat : Int) == 5) = false := ne_lit k 5 (by decide) k5
  have hz : takeO o k xs = o := by unfold takeO; rw [if_neg k2, if_neg k3, if_neg k4, if_neg k8, if_neg k29, if_neg k5]
  rw [hz]
  clear hz k2 k3 k4 k8 k29 k5 hr
  have HG := hid hgo
  have HOWN := hid hown
  clear hgo hown hx
  go_enter Try.func78, Try.ntmps78
  go_wp2_with fail
  go_end0
  exact ⟨rfl, o.A, o.c, HG.out, HOWN.out, ModB.refl _ _ _⟩
def metc (met : List Bool) : Array Value := (met.map Value.bool).toArray
theorem metc_at (met : List Bool) (k : Nat) (hk : k < met.length) : (metc met)[k]? = some (.bool (met.getD k false)) := by
  simp [metc, List.getD_eq_getElem?_getD, List.getElem?_eq_getElem hk]
theorem metc_set (met : List Bool) (k : Nat) : (metc met).setIfInBounds k (.bool true) = metc (met.set k true) := by
  unfold metc
  rw [List.setIfInBounds_toArray, List.map_set]
/-- What stands in memory while options are read. -/
structure POk (w : World) (base go gm g d : Nat) (o : OptM) (met : List Bool) (xs : List UInt8) : Prop where
  bo : w.heap[go]? = some (.cells o.cells 31 (0, 0))
  bm : w.heap[gm]? = some (.cells (metc met) 93 (0, 0))
  rd : RdrD w g d xs
  own : OwnS w base o
  mac : o.mac.length = 12
  ml : met.length = 256
  sl : o.sacks.length ≤ 900
  hb : base ≤ w.heap.size
/-- The blocks stand apart, below base. -/
structure PApart (base go gm g d : Nat) : Prop where
  lo : go < base
  lm : gm < base
  lg : g < base
  ld : d < base
  om : go ≠ gm
  og : go ≠ g
  od : go ≠ d
  mg : gm ≠ g
  md : gm ≠ d
theorem blocks_le (n : Nat) (xs : List UInt8) : (blocksO n xs).length ≤ n := by rw [blocksO_len]; exact Nat.le_refl _
theorem take_sl (o : OptM) (k : UInt8) (xs : List UInt8) : (takeO o k xs).sacks.length ≤ o.sacks.length + xs.length / 8 := by
  unfold takeO
  repeat' split
  all_goals try exact Nat.le_add_right _ _
  show (o.sacks ++ blocksO (xs.length / 8) xs).length ≤ _
  rw [List.length_append, blocksO_len]
  exact Nat.le_refl _
theorem take_mac (o : OptM) (k : UInt8) (xs : List UInt8) (h : o.mac.length = 12) (hr : rightO k (xs.length + 2) = true) : (takeO o k xs).mac.length = 12 := by
  unfold takeO
  repeat' split
  all_goals try exact h
  rename_i hk
  subst hk
  have h : rightO 29 (xs.length + 2) = decide (((xs.length + 2 : Nat) : Int) = 16) := by unfold rightO; rw [if_neg (by omega)]; rfl
  rw [h] at hr
  have := of_decide_eq_true hr
  show ((xs.drop 2).take 12).length = 12
  rw [List.length_take, List.length_drop]
  omega
def OneEnd (base go gm g d : Nat) (o : OptM) (met : List Bool) (xs : List UInt8) (w : World) (e : Ending) (w' : World) : Prop :=
  ModB base [go, gm, g] w w' ∧ match oneO o met xs with
  | none => e = .panicked stopC
  | some (more, er, o', met', ys) => e = .returned (.tuple #[.bool more, .int .i64 (er : Int)]) ∧ ∃ A c, POk w' base go gm g d { o' with A := A, c := c } met' ys
theorem one_none {base go gm g d : Nat} {o : OptM} {met : List Bool} {xs : List UInt8} {w w' : World} (h : oneO o met xs = none) (hm : ModB base [go, gm, g] w w') : OneEnd base go gm g d o met xs w (.panicked stopC) w' := by
  unfold OneEnd; rw [h]; exact ⟨hm, rfl⟩
theorem one_some {base go gm g d : Nat} {o o' : OptM} {met met' : List Bool} {xs ys : List UInt8} {w w' : World} {more : Bool} {er : Nat} (h : oneO o met xs = some (more, er, o', met', ys)) (hm : ModB base [go, gm, g] w w') (hp : ∃ A c, POk w' base go gm g d { o' with A := A, c := c } met' ys) :
    OneEnd base go gm g d o met xs w (.returned (.tuple #[.bool more, .int .i64 (er : Int)])) w' := by
  unfold OneEnd; rw [h]; exact ⟨hm, rfl, hp⟩
theorem numB (g d : Nat) (k : UInt8) (xs : List UInt8) (w : World) (h : RdrD w g d (k :: xs)) :
    Calls Try.prog 68 #[.pointer (some ⟨g, 0, none⟩), .int .i64 1] w fun e w' => e = .returned (.int .u64 (k.toNat : Int)) ∧ RdrD w' g d xs ∧ Mod [g] w w' ∧ w'.heap.size = w.heap.size := by
  refine (numD g d (k :: xs) 1 (by decide) (by decide) (by simp) w h).mono ?_
  rintro e w' ⟨rfl, h1, h2, h3⟩
  refine ⟨?_, h1, h2, h3⟩
  show Ending.returned (.int .u64 (getS [k] : Int)) = _
  have : getS [k] = k.toNat := by rw [getS_short _ (by simp)]; simp [be]
  rw [this]
theorem numB_stop (g d : Nat) (w : World) (h : RdrD w g d []) : Calls Try.prog 68 #[.pointer (some ⟨g, 0, none⟩), .int .i64 1] w fun e w' => e = .panicked stopC ∧ w = w' :=
  num_stop _ 1 w 0 (by decide) (left_any g [] w h.rdr)
theorem POk.rdOnly {w w' : World} {base go gm g d : Nat} {o : OptM} {met : List Bool} {xs ys : List UInt8} (h : POk w base go gm g d o met xs) (ha : PApart base go gm g d) (hm : Mod [g] w w') (hr : RdrD w' g d ys) : POk w' base go gm g d o met ys :=
  ⟨hm.keeps h.bo (by simpa using ha.og), hm.keeps h.bm (by simpa using ha.mg), hr, own_mod h.own hm (by simp; exact .inl ha.lg), h.mac, h.ml, h.sl, Nat.le_trans h.hb hm.size⟩
theorem ModB.of_g {w w' : World} {base go gm g : Nat} (hm : Mod [g] w w') (hb : base ≤ w.heap.size) : ModB base [go, gm, g] w w' := ModB.of_mod hm hb (by simp)
set_option maxRecDepth 20000 in
set_option maxHeartbeats 4000000 in
theorem one_any (base go gm g d : Nat) (o : OptM) (met : List Bool) (xs : List UInt8) (w : World) (ha : PApart base go gm g d) (h : POk w base go gm g d o met xs) (hxl : xs.length ≤ 40) (hsl : o.sacks.length ≤ 800) :
    Calls Try.prog 66 #[.pointer (some ⟨go, 0, none⟩), .pointer (some ⟨gm, 0, none⟩), .pointer (some ⟨g, 0, none⟩)] w (OneEnd base go gm g d o met xs w) := by
  have P0 := hid h
  clear h
  cases xs with
  | nil =>
    go_enter Try.func66, Try.ntmps66
    go_wp2_with fail
    (with_reducible refine Calls.mono (numB_stop g d w P0.out.rd) ?_)
    rintro e w1 ⟨rfl, rfl⟩
    go_wp2_with fail
    exact ⟨rfl, one_none rfl (ModB.refl _ _ _)⟩
  | cons k ys =>
    have ck : (k.toNat : Int) % 256 = (k.toNat : Int) := by have := k.toNat_lt; omega
    have hk1 : (k.toNat : Int) < 256 := by have := k.toNat_lt; omega
    by_cases k0 : k = 0
    · subst k0
      go_enter Try.func66, Try.ntmps66
      go_wp2_with fail
      (with_reducible refine Calls.mono (numB g d 0 ys w P0.out.rd) ?_)
      rintro e w1 ⟨rfl, hr1, hm1, hs1⟩
      have P1 := hid (P0.out.rdOnly ha hm1 hr1)
      have M1 := hid (ModB.of_g (go := go) (gm := gm) hm1 P0.out.hb)
      clear hr1 hm1 hs1
      go_wp2_with fail
      go_ret2
      exact one_some rfl M1.out ⟨o.A, o.c, P1.out⟩
    by_cases k1 : k = 1
    · subst k1
      go_enter Try.func66, Try.ntmps66
      go_wp2_with fail
      (with_reducible refine Calls.mono (numB g d 1 ys w P0.out.rd) ?_)
      rintro e w1 ⟨rfl, hr1, hm1, hs1⟩
      have P1 := hid (P0.out.rdOnly ha hm1 hr1)
      have M1 := hid (ModB.of_g (go := go) (gm := gm) hm1 P0.out.hb)
      clear hr1 hm1 hs1
      go_wp2_with fail
      go_ret2
      exact one_some rfl M1.out ⟨o.A, o.c, P1.out⟩
    have b0 : ((k.toNat : Int) == 0) = false := ne_lit k 0 (by decide) k0
    have b1 : ((k.toNat : Int) == 1) = false := ne_lit k 1 (by decide) k1
    have d0 := decide_eq_false k0
    have d1 := decide_eq_false k1
    clear k0 k1
    cases ys with
    | nil =>
      have HO := hid (show oneO o met [k] = none by simp only [oneO]; rw [d0, d1]; rfl)
      clear d0 d1
      go_enter Try.func66, Try.ntmps66
      go_wp2_with fail
      (with_reducible refine Calls.mono (numB g d k [] w P0.out.rd) ?_)
      rintro e w1 ⟨rfl, hr1, hm1, hs1⟩
      have P1 := hid (P0.out.rdOnly ha hm1 hr1)
      have M1 := hid (ModB.of_g (go := go) (gm := gm) hm1 P0.out.hb)
      clear hr1 hm1 hs1
      go_wp2_with fail
      (with_reducible refine Calls.mono (numB_stop g d w1 P1.out.rd) ?_)
      rintro e w2 ⟨rfl, rfl⟩
      go_wp2_with fail
      exact ⟨rfl, one_none HO.out M1.out⟩
    | cons n zs =>
      have hn256 := n.toNat_lt
      have HRT := hid (fun W => right_any k n.toNat (by omega) W)
      have cn : (n.toNat : Int) % 18446744073709551616 = (n.toNat : Int) := by omega
      have cn2 : ¬ (9223372036854775808 : Int) ≤ (n.toNat : Int) := by omega
      have cn3 : ((n.toNat : Int) + 9223372036854775808) % 18446744073709551616 - 9223372036854775808 = (n.toNat : Int) := by omega
      have cn4 : IntKind.i64.wrap (n.toNat : Int) = (n.toNat : Int) := by simp [IntKind.wrap, IntKind.bits, IntKind.signed]; omega
      have hzl : zs.length ≤ 38 := by simp at hxl; omega
      have HO := hid (show oneO o met (k :: n :: zs) = if !rightO k n.toNat then some (false, 3, o, met, zs) else if decide (zs.length < n.toNat - 2) then none else if decide (0 ≤ sizesI k) && met.getD k.toNat false then some (false, 7, o, met, zs.drop (n.toNat - 2)) else some (true, 0, takeO o k (zs.take (n.toNat - 2)), met.set k.toNat true, zs.drop (n.toNat - 2)) by simp only [oneO]; rw [d0, d1]; rfl)
      clear d0 d1 hxl
      go_enter Try.func66, Try.ntmps66
      go_wp2_with fail
      (with_reducible refine Calls.mono (numB g d k (n :: zs) w P0.out.rd) ?_)
      rintro e w1 ⟨rfl, hr1, hm1, hs1⟩
      have P1 := hid (P0.out.rdOnly ha hm1 hr1)
      have M1 := hid (ModB.of_g (go := go) (gm := gm) hm1 P0.out.hb)
      clear hr1 hm1 hs1
      go_wp2_with fail
      (with_reducible refine Calls.mono (numB g d n zs w1 P1.out.rd) ?_)
      rintro e w2 ⟨rfl, hr2, hm2, hs2⟩
      have P2 := hid (P1.out.rdOnly ha hm2 hr2)
      have M2 := hid (ModB.of_g (go := go) (gm := gm) hm2 P1.out.hb)
      clear hr2 hm2 hs2
      go_wp2_with fail
      (with_reducible refine Calls.mono (HRT.out _) ?_)
      rintro e w3 ⟨rfl, rfl⟩
      obtain ⟨r, hr⟩ : ∃ r, rightO k n.toNat = r := ⟨_, rfl⟩
      rw [hr] at HO ⊢
      have HRR := hid hr
      clear hr
      cases r
      case false =>
        go_wp2_with fail
        go_ret2
        exact one_some HO.out (M1.out.trans M2.out) ⟨o.A, o.c, P2.out⟩
      have hn2 : 2 ≤ n.toNat := by have := HRR.out; unfold rightO at this; split at this; cases this; omega
      obtain ⟨m, hm⟩ : ∃ m, n.toNat - 2 = m := ⟨_, rfl⟩
      rw [hm] at HO
      have hsub : (n.toNat : Int) - 2 = (m : Int) := by omega
      have HRM := hid (show rightO k (m + 2) = true by rw [show m + 2 = n.toNat by omega]; exact HRR.out)
      clear hm hn2
      go_wp2_with fail
      (with_reducible refine Calls.mono (sub_any g d zs m _ P2.out.rd (by omega)) ?_)
      rintro e w3 (⟨hle, gx, dx, rfl, hg1, hg2, hrx, hrd, hm3⟩ | ⟨hlt, rfl, rfl⟩)
      case inr =>
        go_wp2_with fail
        exact ⟨rfl, one_none (by rw [HO.out, decide_eq_true hlt]; rfl) (M1.out.trans M2.out)⟩
      have P3 := hid (P2.out.rdOnly ha hm3 hrd)
      have M3 := hid (M1.out.trans (M2.out.trans (ModB.of_g (go := go) (gm := gm) hm3 P2.out.hb)))
      have HRX := hid hrx
      have hgx : base ≤ gx := Nat.le_trans P2.out.hb hg1
      have hdx : base ≤ dx := Nat.le_trans P2.out.hb hg2
      have HXL := hid (show (zs.take m).length = m by rw [List.length_take]; omega)
      rw [decide_eq_false (by omega : ¬ zs.length < m)] at HO
      clear hrx hrd hm3 hg1 hg2 M1 M2 P1 P2
      have HSZ := hid (fun W => sizes_any k W)
      obtain ⟨tz, htz⟩ : ∃ t, decide (0 ≤ sizesI k) = t := ⟨_, rfl⟩
      rw [htz] at HO
      generalize sizesI k = z at HSZ htz
      obtain ⟨tm, htm⟩ : ∃ t, met.getD k.toNat false = t := ⟨_, rfl⟩
      have hmc := cellRow P3.out.bm k.toNat
      rw [metc_at met _ (by rw [P3.out.ml]; omega), htm] at hmc
      rw [htm] at HO
      clear htm
      have hfz := Lib.frozen_of_heap P3.out.bm k.toNat
      go_wp2_with fail
      (with_reducible refine Calls.mono (HSZ.out _) ?_)
      rintro e w4 ⟨rfl, rfl⟩
      cases tz
      case true =>
        cases tm
        case true =>
          go_wp2_with fail
          go_ret2
          exact one_some HO.out M3.out ⟨o.A, o.c, P3.out⟩
        case false =>
          go_wp2_with fail
          have hm5 : Mod [gm] w3 (w3.setCell ⟨gm, k.toNat, none⟩ (.bool true)) := Mod.setCell gm _ _ (by simp)
          have hbm := rowSetCell P3.out.bm k.toNat (.bool true)
          rw [metc_set] at hbm
          have hgo5 := hm5.keeps P3.out.bo (by simpa using ha.om)
          have hrd5 := P3.out.rd.mod hm5 (by simpa using ha.mg.symm) (by simpa using ha.md.symm)
          have how5 : OwnS (w3.setCell ⟨gm, k.toNat, none⟩ (.bool true)) base o := own_mod P3.out.own hm5 (by simp; exact .inl ha.lm)
          have hrx5 := HRX.out.mod hm5 (by simp; have := ha.lm; omega) (by simp; have := ha.lm; omega)
          have hb5 := Nat.le_trans P3.out.hb hm5.size
          have M5 := hid (M3.out.trans (ModB.of_mod hm5 P3.out.hb (by simp)))
          have hmac := P3.out.mac
          have hml := P3.out.ml
          clear hm5 hmc hfz P3 M3
          generalize w3.setCell ⟨gm, k.toNat, none⟩ (.bool true) = w5 at hbm hgo5 hrd5 how5 hrx5 hb5 M5 ⊢
          (with_reducible refine Calls.mono (take_any o k go gx dx base (zs.take m) w5 hgo5 hmac how5 hb5 ha.lo hgx hdx hrx5 (by rw [HXL.out]; exact HRM.out) (by omega)) ?_)
          rintro e w6 ⟨rfl, A, c, hgo6, how6, hm6⟩
          have P6 := hid (show POk w6 base go gm g d { takeO o k (zs.take m) with A := A, c := c } (met.set k.toNat true) (zs.drop m) from ⟨hgo6, hm6.keeps hbm ha.lm (by simpa using ha.om.symm), hrd5.modB hm6 ha.lg ha.ld (by simpa using ha.og.symm) (by simpa using ha.od.symm), how6, take_mac o k _ hmac (by rw [HXL.out]; exact HRM.out), by rw [List.length_set]; exact hml, (by have := take_sl o k (zs.take m); rw [HXL.out] at this; show (takeO o k (zs.take m)).sacks.length ≤ 900; omega), Nat.le_trans hb5 hm6.size⟩)
          have M6 := hid (M5.out.trans (hm6.sub (by simp)))
          clear hgo6 how6 hm6 hbm hgo5 hrd5 how5 hrx5
          go_wp2_with fail
          go_ret2
          exact one_some HO.out M6.out ⟨A, c, P6.out⟩
      case false =>
        go_wp2_with fail
        have hm5 : Mod [gm] w3 (w3.setCell ⟨gm, k.toNat, none⟩ (.bool true)) := Mod.setCell gm _ _ (by simp)
        have hbm := rowSetCell P3.out.bm k.toNat (.bool true)
        rw [metc_set] at hbm
        have hgo5 := hm5.keeps P3.out.bo (by simpa using ha.om)
        have hrd5 := P3.out.rd.mod hm5 (by simpa using ha.mg.symm) (by simpa using ha.md.symm)
        have how5 : OwnS (w3.setCell ⟨gm, k.toNat, none⟩ (.bool true)) base o := own_mod P3.out.own hm5 (by simp; exact .inl ha.lm)
        have hrx5 := HRX.out.mod hm5 (by simp; have := ha.lm; omega) (by simp; have := ha.lm; omega)
        have hb5 := Nat.le_trans P3.out.hb hm5.size
        have M5 := hid (M3.out.trans (ModB.of_mod hm5 P3.out.hb (by simp)))
        have hmac := P3.out.mac
        have hml := P3.out.ml
        clear hm5 hmc hfz P3 M3
        generalize w3.setCell ⟨gm, k.toNat, none⟩ (.bool true) = w5 at hbm hgo5 hrd5 how5 hrx5 hb5 M5 ⊢
        (with_reducible refine Calls.mono (take_any o k go gx dx base (zs.take m) w5 hgo5 hmac how5 hb5 ha.lo hgx hdx hrx5 (by rw [HXL.out]; exact HRM.out) (by omega)) ?_)
        rintro e w6 ⟨rfl, A, c, hgo6, how6, hm6⟩
        have P6 := hid (show POk w6 base go gm g d { takeO o k (zs.take m) with A := A, c := c } (met.set k.toNat true) (zs.drop m) from ⟨hgo6, hm6.keeps hbm ha.lm (by simpa using ha.om.symm), hrd5.modB hm6 ha.lg ha.ld (by simpa using ha.og.symm) (by simpa using ha.od.symm), how6, take_mac o k _ hmac (by rw [HXL.out]; exact HRM.out), by rw [List.length_set]; exact hml, (by have := take_sl o k (zs.take m); rw [HXL.out] at this; show (takeO o k (zs.take m)).sacks.length ≤ 900; omega), Nat.le_trans hb5 hm6.size⟩)
        have M6 := hid (M5.out.trans (hm6.sub (by simp)))
        clear hgo6 how6 hm6 hbm hgo5 hrd5 how5 hrx5
        go_wp2_with fail
        go_ret2
        exact one_some HO.out M6.out ⟨A, c, P6.out⟩
end Go.Proofs.Ythnidgiogjehkaa
namespace Go.Proofs.Ythnidgiogjehkaa
set_option linter.unusedVariables false
set_option linter.unusedSimpArgs false
open Go.RowKit

theorem takeO_addr (o : OptM) (A : Option Addr) (c : Nat) (k : UInt8) (xs : List UInt8) : takeO { o with A := A, c := c } k xs = { takeO o k xs with A := A, c := c } := by
  unfold takeO
  by_cases h2 : k = 2
  · rw [if_pos h2, if_pos h2]
  rw [if_neg h2, if_neg h2]
  by_cases h3 : k = 3
  · rw [if_pos h3, if_pos h3]
  rw [if_neg h3, if_neg h3]
  by_cases h4 : k = 4
  · rw [if_pos h4, if_pos h4]
  rw [if_neg h4, if_neg h4]
  by_cases h8 : k = 8
  · rw [if_pos h8, if_pos h8]
  rw [if_neg h8, if_neg h8]
  by_cases h29 : k = 29
  · rw [if_pos h29, if_pos h29]
  rw [if_neg h29, if_neg h29]
  by_cases h5 : k = 5
  · rw [if_pos h5, if_pos h5]
  rw [if_neg h5, if_neg h5]
theorem oneO_addr (o : OptM) (A : Option Addr) (c : Nat) (met : List Bool) (xs : List UInt8) : oneO { o with A := A, c := c } met xs = (oneO o met xs).map fun r => (r.1, r.2.1, { r.2.2.1 with A := A, c := c }, r.2.2.2.1, r.2.2.2.2) := by
  cases xs with
  | nil => rfl
  | cons k ys =>
    simp only [oneO]
    split
    · rfl
    · cases ys with
      | nil => rfl
      | cons n zs =>
        simp only
        split
        · rfl
        · split
          · rfl
          · split
            · rfl
            · rw [takeO_addr]
              rfl
theorem oneO_more {o o' : OptM} {met met' : List Bool} {xs ys : List UInt8} {e : Nat} (h : oneO o met xs = some (true, e, o', met', ys)) : e = 0 := by
  cases xs with
  | nil => simp [oneO] at h
  | cons k xs =>
    simp only [oneO] at h
    split at h
    · simp only [Option.some.injEq, Prod.mk.injEq] at h
      exact h.2.1.symm
    · cases xs with
      | nil => simp at h
      | cons n zs =>
        simp only at h
        split at h
        · simp at h
        · split at h
          · simp at h
          · split at h
            · simp at h
            · simp only [Option.some.injEq, Prod.mk.injEq] at h
              exact h.2.1.symm
theorem oneO_sl {o o' : OptM} {met met' : List Bool} {xs ys : List UInt8} {m : Bool} {e : Nat} (h : oneO o met xs = some (m, e, o', met', ys)) : o'.sacks.length + ys.length ≤ o.sacks.length + xs.length := by
  have hs := oneO_short h
  cases xs with
  | nil => simp [oneO] at h
  | cons k xs =>
    simp only [oneO] at h
    split at h
    · simp only [Option.some.injEq, Prod.mk.injEq] at h
      obtain ⟨_, _, rfl, _, rfl⟩ := h
      omega
    · cases xs with
      | nil => simp at h
      | cons n zs =>
        simp only at h
        split at h
        · simp only [Option.some.injEq, Prod.mk.injEq] at h
          obtain ⟨_, _, rfl, _, rfl⟩ := h
          omega
        · split at h
          · simp at h
          · split at h
            · simp only [Option.some.injEq, Prod.mk.injEq] at h
              obtain ⟨_, _, rfl, _, rfl⟩ := h
              omega
            · rename_i hc _
              simp only [Option.some.injEq, Prod.mk.injEq] at h
              obtain ⟨_, _, rfl, _, rfl⟩ := h
              have h1 := take_sl o k (zs.take (n.toNat - 2))
              have h2 : ¬ zs.length < n.toNat - 2 := by simpa using hc
              rw [List.length_take] at h1
              rw [List.length_drop]
              simp only [List.length_cons]
              omega
theorem lenAt_rd {w : World} {g d : Nat} {xs : List UInt8} (h : RdrD w g d xs) : lenAt w ⟨g, 0, none⟩ = xs.length := by
  obtain ⟨A, c, h, _⟩ := h
  have hc := cell_of_row w g 0 _ _ _ h
  simp only [List.getElem?_toArray, List.getElem?_cons_zero] at hc
  simp [lenAt, hc]
theorem POk.mod1 {w w' : World} {base go gm g d n : Nat} {o : OptM} {met : List Bool} {xs : List UInt8} (h : POk w base go gm g d o met xs) (hm : Mod [n] w w') (e1 : go ≠ n) (e2 : gm ≠ n) (e3 : g ≠ n) (e4 : d ≠ n) (hn : n < base) : POk w' base go gm g d o met xs :=
  ⟨hm.keeps h.bo (by simpa using e1), hm.keeps h.bm (by simpa using e2), h.rd.mod hm (by simpa using e3) (by simpa using e4), own_mod h.own hm (by simp; exact .inl hn), h.mac, h.ml, h.sl, Nat.le_trans h.hb hm.size⟩
def CloRes (base ge go : Nat) (e : Ending) (w' : World) : Option (Nat × OptM) → Prop
  | none => e = .panicked stopC
  | some (er, o') => e = .returned (.tuple #[]) ∧ w'.heap[ge]? = some (.cells #[.int .i64 (er : Int)] 37 (0, 0)) ∧ o'.mac.length = 12 ∧ ∃ A c, w'.heap[go]? = some (.cells ({ o' with A := A, c := c } : OptM).cells 31 (0, 0)) ∧ OwnS w' base { o' with A := A, c := c }
theorem clo_none {base ge go : Nat} {w' : World} {R : Option (Nat × OptM)} (h : none = R) : CloRes base ge go (.panicked stopC) w' R := by rw [← h]; rfl
theorem clo_some {base ge go er : Nat} {o' : OptM} {w' : World} {R : Option (Nat × OptM)} (h : some (er, o') = R) (h1 : w'.heap[ge]? = some (.cells #[.int .i64 (er : Int)] 37 (0, 0))) (h2 : o'.mac.length = 12) (h3 : ∃ A c, w'.heap[go]? = some (.cells ({ o' with A := A, c := c } : OptM).cells 31 (0, 0)) ∧ OwnS w' base { o' with A := A, c := c }) :
    CloRes base ge go (.returned (.tuple #[])) w' R := by rw [← h]; exact ⟨rfl, h1, h2, h3⟩
def CloEnd (base ge go gm g : Nat) (o : OptM) (met : List Bool) (xs : List UInt8) (w : World) (e : Ending) (w' : World) : Prop :=
  ModB base [ge, go, gm, g] w w' ∧ base ≤ w'.heap.size ∧ CloRes base ge go e w' (parseX o met xs)
set_option maxRecDepth 20000 in
set_option maxHeartbeats 4000000 in
theorem clo12_any (base ge gh go gm g d : Nat) (o : OptM) (met : List Bool) (xs : List UInt8) (w : World) (ha : PApart base go gm g d) (h : POk w base go gm g d o met xs) (hxl : xs.length ≤ 40) (hsl : o.sacks.length ≤ 700)
    (he : w.heap[ge]? = some (.cells #[.int .i64 0] 37 (0, 0))) (hh : w.heap[gh]? = some (.cells #[.pointer (some ⟨g, 0, none⟩)] 94 (0, 0)))
    (a1 : ge < base) (a2 : gh < base) (a3 : go ≠ ge) (a4 : gm ≠ ge) (a5 : g ≠ ge) (a6 : d ≠ ge) (a7 : gh ≠ ge) (a8 : gh ≠ go) (a9 : gh ≠ gm) (a10 : gh ≠ g) :
    Calls Try.prog 64 #[.pointer (some ⟨ge, 0, none⟩), .pointer (some ⟨gh, 0, none⟩), .pointer (some ⟨go, 0, none⟩), .pointer (some ⟨gm, 0, none⟩)] w (CloEnd base ge go gm g o met xs w) := by
  obtain ⟨R, hR⟩ : ∃ R, parseX o met xs = R := ⟨_, rfl⟩
  unfold CloEnd
  rw [hR]
  have P0 := hid h
  have HE := hid he
  have HH := hid hh
  have HR := hid hR
  have HXL := hid hxl
  have HSL := hid hsl
  have HA := hid ha
  clear h he hh hR hxl hsl ha
  go_enter Try.func64, Try.ntmps64
  go_wp2_with fail
  go_loopw [4] (fun mo wr => ∃ (more : Bool) (er : Nat) (o1 : OptM) (met1 : List Bool) (ys : List UInt8) (A : Option Addr) (c : Nat), mo = .bool more ∧ ModB base [ge, go, gm, g] w wr ∧ wr.heap[ge]? = some (.cells #[.int .i64 (er : Int)] 37 (0, 0)) ∧ POk wr base go gm g d { o1 with A := A, c := c } met1 ys ∧ ys.length ≤ 40 ∧ o1.sacks.length + ys.length ≤ 750 ∧ (more = true → er = 0) ∧ (if more then parseX o1 met1 ys else some (er, o1)) = R) (fun _ wr => lenAt wr ⟨g, 0, none⟩)
  case atStart => exact ⟨true, 0, o, met, xs, o.A, o.c, rfl, ModB.refl _ _ _, HE.out, P0.out, HXL.out, (by have := HXL.out; have := HSL.out; omega), (fun _ => rfl), HR.out⟩
  case round =>
    obtain ⟨more, er, o1, met1, ys, A, c, rfl, hm1, he1, hp1, hy1, hs1, hme, hR1⟩ := hrel
    have HM1 := hid hm1
    have HE1 := hid he1
    have HP1 := hid hp1
    have HR1 := hid hR1
    have HY1 := hid hy1
    have HS1 := hid hs1
    have HH1 := hid (hm1.keeps HH.out a2 (by simp; exact ⟨a7, a8, a9, a10⟩))
    have ce := cellRow he1 0
    have cz := Lib.frozen_of_heap he1 0
    have ch := cellRow HH1.out 0
    simp only [List.getElem?_toArray, List.getElem?_cons_zero] at ce ch
    clear hm1 he1 hp1 hR1 hy1 hs1
    cases more
    case false =>
      clear hme
      have hR2 : some (er, o1) = R := HR1.out
      have HR2 := hid hR2
      clear hR2
      go_wp2_with fail
      go_end0
      exact ⟨HM1.out, HP1.out.hb, clo_some (o' := o1) (by first | exact HR2.out | exact (parseX_nil _ _).symm.trans HR2.out) HE1.out HP1.out.mac ⟨A, c, HP1.out.bo, HP1.out.own⟩⟩
    have her := hme rfl
    subst her
    clear hme
    have hR2 : parseX o1 met1 ys = R := HR1.out
    have HR2 := hid hR2
    clear hR2
    have HLF := hid (left_any g ys wr HP1.out.rd.rdr)
    cases ys with
    | nil =>
      go_wp2_with fail
      (with_reducible refine Calls.mono HLF.out ?_)
      rintro e w2 ⟨rfl, rfl⟩
      go_wp2_with fail
      go_end0
      exact ⟨HM1.out, HP1.out.hb, clo_some (o' := o1) (by first | exact HR2.out | exact (parseX_nil _ _).symm.trans HR2.out) HE1.out HP1.out.mac ⟨A, c, HP1.out.bo, HP1.out.own⟩⟩
    | cons y ys =>
      have t1 : decide ((0 : Int) < ((y :: ys).length : Int)) = true := by rw [decide_eq_true_eq, List.length_cons]; omega
      have t2 : decide ((0 : Nat) < ((y :: ys).length)) = true := by rw [decide_eq_true_eq, List.length_cons]; omega
      have t3 : (0 : Int) < (ys.length : Int) + 1 := by omega
      have t4 : decide ((0 : Int) < (ys.length : Int) + 1) = true := decide_eq_true t3
      go_wp2_with fail
      (with_reducible refine Calls.mono HLF.out ?_)
      rintro e w2 ⟨rfl, rfl⟩
      have ce := cellRow HE1.out 0
      have cz := Lib.frozen_of_heap HE1.out 0
      have ch := cellRow HH1.out 0
      simp only [List.getElem?_toArray, List.getElem?_cons_zero] at ce ch
      go_wp2_with fail
      (with_reducible refine Calls.mono (one_any base go gm g d { o1 with A := A, c := c } met1 (y :: ys) wr HA.out HP1.out HY1.out (by have := HS1.out; show o1.sacks.length ≤ 800; omega)) ?_)
      intro e w2 h2
      unfold OneEnd at h2
      rw [oneO_addr] at h2
      cases hx : oneO o1 met1 (y :: ys) with
      | none =>
        rw [hx] at h2
        obtain ⟨hm2, rfl⟩ := h2
        have HN := hid ((parseX_cut (by simp) hx).symm.trans HR2.out)
        have HM2 := hid hm2
        clear hx hm2 ce cz ch
        go_wp2_with fail
        exact ⟨rfl, HM1.out.trans (HM2.out.sub (by simp)), Nat.le_trans HP1.out.hb HM2.out.size, clo_none HN.out⟩
      | some r =>
        obtain ⟨m2, e2, o2, met2, zs⟩ := r
        rw [hx] at h2
        obtain ⟨hm2, rfl, A2, c2, hp2⟩ := h2
        have HP2 := hid (show POk w2 base go gm g d { o2 with A := A2, c := c2 } met2 zs from hp2)
        have HX := hid (oneO_short hx)
        have HXS := hid (oneO_sl hx)
        have HMO := hid (show m2 = true → e2 = 0 from fun hm => by subst hm; exact oneO_more hx)
        have HPX := hid ((parseX_one hx).symm.trans HR2.out)
        have HM2 := hid hm2
        have he2 := hm2.keeps HE1.out a1 (by simp; exact ⟨a3.symm, a4.symm, a5.symm⟩)
        have HE2 := hid he2
        clear hp2 hx hm2 ce cz ch
        have ce := cellRow he2 0
        have cz := Lib.frozen_of_heap he2 0
        simp only [List.getElem?_toArray, List.getElem?_cons_zero] at ce
        clear he2
        go_wp2_with fail
        go_roundw
        case rel =>
          have hm3 : Mod [ge] w2 (w2.setCell ⟨ge, 0, none⟩ (.int .i64 (e2 : Int))) := Mod.setCell ge 0 _ (by simp)
          have he3 := rowSetCell HE2.out 0 (.int .i64 (e2 : Int))
          refine ⟨m2, e2, o2, met2, zs, A2, c2, rfl, HM1.out.trans ((HM2.out.sub (by simp)).trans (ModB.of_mod hm3 HP2.out.hb (by simp))), by simpa using he3, HP2.out.mod1 hm3 a3 a4 a5 a6 a1, (by have := HX.out; have := HY1.out; omega), (by have := HXS.out; have := HS1.out; omega), HMO.out, ?_⟩
          rw [← HPX.out]
          cases m2
          · rfl
          · rw [HMO.out rfl]; rfl
        case measure =>
          have hm3 : Mod [ge] w2 (w2.setCell ⟨ge, 0, none⟩ (.int .i64 (e2 : Int))) := Mod.setCell ge 0 _ (by simp)
          rw [lenAt_rd (HP2.out.mod1 hm3 a3 a4 a5 a6 a1).rd, lenAt_rd HP1.out.rd]
          exact HX.out
end Go.Proofs.Ythnidgiogjehkaa
namespace Go.Proofs.Ythnidgiogjehkaa
set_option linter.unusedVariables false
set_option linter.unusedSimpArgs false
open Go.RowKit

def TryRes (base ge go : Nat) (e : Ending) (w' : World) : Option (Nat × OptM) → Prop
  | none => e = .returned (.int .i64 4)
  | some (er, o') => e = .returned (.int .i64 0) ∧ w'.heap[ge]? = some (.cells #[.int .i64 (er : Int)] 37 (0, 0)) ∧ o'.mac.length = 12 ∧ ∃ A c, w'.heap[go]? = some (.cells ({ o' with A := A, c := c } : OptM).cells 31 (0, 0)) ∧ OwnS w' base { o' with A := A, c := c }
theorem PApart.mono {b b' go gm g d : Nat} (h : PApart b go gm g d) (hb : b ≤ b') : PApart b' go gm g d := ⟨Nat.lt_of_lt_of_le h.lo hb, Nat.lt_of_lt_of_le h.lm hb, Nat.lt_of_lt_of_le h.lg hb, Nat.lt_of_lt_of_le h.ld hb, h.om, h.og, h.od, h.mg, h.md⟩
theorem try12_any (ge gh go gm g d : Nat) (b : List UInt8) (w : World) (ha : PApart w.heap.size go gm g d) (hb40 : b.length ≤ 40)
    (ho : w.heap[go]? = some (.cells noOpt.cells 31 (0, 0))) (hm : w.heap[gm]? = some (.cells (metc met0) 93 (0, 0))) (hr : RdrD w g d b)
    (he : w.heap[ge]? = some (.cells #[.int .i64 0] 37 (0, 0))) (hh : w.heap[gh]? = some (.cells #[.pointer (some ⟨g, 0, none⟩)] 94 (0, 0)))
    (a3 : go ≠ ge) (a4 : gm ≠ ge) (a5 : g ≠ ge) (a6 : d ≠ ge) (a7 : gh ≠ ge) (a8 : gh ≠ go) (a9 : gh ≠ gm) (a10 : gh ≠ g) :
    Calls Try.prog 63 #[.func (.func 64) #[] #[.pointer (some ⟨ge, 0, none⟩), .pointer (some ⟨gh, 0, none⟩), .pointer (some ⟨go, 0, none⟩), .pointer (some ⟨gm, 0, none⟩)]] w fun e w' =>
      ModB w.heap.size [ge, go, gm, g] w w' ∧ TryRes (w.heap.size + 1) ge go e w' (parseX noOpt met0 b) := by
  have a1 := (Array.getElem?_eq_some_iff.1 he).1
  have a2 := (Array.getElem?_eq_some_iff.1 hh).1
  have hb1 := bl1 w (.cells #[.int .i64 0] 37)
  have hz1 : (w.alloc (.cells #[.int .i64 0] 37)).heap.size = w.heap.size + 1 := by simp
  have hp : POk (w.alloc (.cells #[.int .i64 0] 37)) (w.heap.size + 1) go gm g d noOpt met0 b :=
    ⟨(hb1.block _ ha.lo).trans ho, (hb1.block _ ha.lm).trans hm, hr.below hb1, own_nil _ _ _ 2, rfl, List.length_replicate, by decide, Nat.le_of_eq hz1.symm⟩
  have hm0 : ModB w.heap.size [ge, go, gm, g] w (w.alloc (.cells #[.int .i64 0] 37)) := ModB.of_below hb1 (Nat.le_refl _)
  refine (try_any 64 _ w (fun ok w' => ModB w.heap.size [ge, go, gm, g] w w' ∧ ∃ e, CloRes (w.heap.size + 1) ge go e w' (parseX noOpt met0 b) ∧ (ok = true ↔ e = .returned (.tuple #[]))) (fun w => by kernel_rfl) ?_).mono ?_
  · refine (clo12_any (w.heap.size + 1) ge gh go gm g d noOpt met0 b _ (ha.mono (by omega)) hp hb40 (by decide) ((hb1.block _ a1).trans he) ((hb1.block _ a2).trans hh) (by omega) (by omega) a3 a4 a5 a6 a7 a8 a9 a10).mono ?_
    rintro e w' ⟨h1, h2, h3⟩
    have hmm := hm0.trans (show ModB w.heap.size [ge, go, gm, g] _ w' from ⟨h1.os, h1.tape, h1.output, h1.size, fun k hk hx => h1.block k (by omega) hx⟩)
    refine ⟨h1.keeps (nw1 w _) (by omega) ?_, ?_⟩
    · have := ha.lo
      have := ha.lm
      have := ha.lg
      simp
      omega
    · cases hR : parseX noOpt met0 b with
      | none =>
        rw [hR] at h3
        have he3 : e = .panicked stopC := h3
        exact .inr ⟨he3, hmm, e, by rw [he3]; rfl, by rw [he3]; simp⟩
      | some r =>
        obtain ⟨er, o'⟩ := r
        rw [hR] at h3
        have he3 : e = .returned (.tuple #[]) := h3.1
        exact .inl ⟨he3, hmm, e, h3, by rw [he3]; simp⟩
  · rintro e w'' ⟨ok, w', ⟨h1, e', h3, h4⟩, rfl, hg, hB⟩
    have hm2 : ModB w.heap.size [ge, go, gm, g] w' w'' := ModB.of_grown hg h1.size (by intro k hk; injection hk with hk; omega)
    refine ⟨h1.trans hm2, ?_⟩
    cases hR : parseX noOpt met0 b with
    | none =>
      rw [hR] at h3
      have he3 : e' = .panicked stopC := h3
      have : ok = false := by
        cases ok with
        | false => rfl
        | true => have := h4.1 rfl; rw [he3] at this; cases this
      subst this
      rfl
    | some r =>
      obtain ⟨er, o'⟩ := r
      rw [hR] at h3
      obtain ⟨he3, q1, q2, A, c, q3, q4⟩ := h3
      have : ok = true := h4.2 he3
      subst this
      have hlt : w.heap.size < w'.heap.size := (Array.getElem?_eq_some_iff.1 hB).1
      refine ⟨rfl, (hg.block _ (by omega) (by simp; omega)).trans q1, q2, A, c, (hg.block _ (by have := ha.lo; omega) (by have := ha.lo; simp; omega)).trans q3, ?_⟩
      exact own_keep q4 fun k cs hk hc => hg.block k (Array.getElem?_eq_some_iff.1 hc).1 (by simp; omega)
theorem met_cells : ∀ w, (Instr.alloc 93 true (.tuple #[])).run Try.prog w = .ok (.pointer (some ⟨w.heap.size, 0, none⟩)) (w.alloc (.cells (metc met0) 93)) := by intro w; kernel_rfl
theorem ptr_cells : ∀ w, (Instr.alloc 94 true (.tuple #[])).run Try.prog w = .ok (.pointer (some ⟨w.heap.size, 0, none⟩)) (w.alloc (.cells #[.pointer none] 94)) := by intro w; kernel_rfl
theorem build_noOpt : ∀ w, (Instr.build 31 #[]).run Try.prog w = .ok (.agg noOpt.cells) w := by intro w; kernel_rfl
end Go.Proofs.Ythnidgiogjehkaa
namespace Go.Proofs.Ythnidgiogjehkaa
set_option linter.unusedVariables false
set_option linter.unusedSimpArgs false
open Go.RowKit

theorem errno_cell : ∀ w, (Instr.alloc 37 true (.tuple #[])).run Try.prog w = .ok (.pointer (some ⟨w.heap.size, 0, none⟩)) (w.alloc (.cells #[.int .i64 0] 37)) := by intro w; kernel_rfl
theorem exec_buildO {P : Program} {o : Oper} {a : Act} {w : World} (t : TypeId) (parts : Array (Nat × Operand)) (ho : o.op = .build t parts) (vals : Array (Nat × Value)) (hp : parts.map (fun (i, x) => (i, a.eval x)) = vals) (v : Value) (hz : ∀ w, (Instr.build t vals).run P w = .ok v w) :
    (execOp a.eval o).run P w = .ok (.value v) w := by
  unfold execOp; simp only [ho, hp, Sem.run_bind, hz, Result.andThen_ok, Sem.run_pure]
def ParseRes (B : Nat) (w : World) (b : List UInt8) (e : Ending) (w' : World) : Prop :=
  ∃ A c, e = .returned (.tuple #[.agg ({ (parseO b).2 with A := A, c := c } : OptM).cells, .int .i64 ((parseO b).1 : Int)]) ∧ OptOk w' { (parseO b).2 with A := A, c := c } ∧ Below B w w'
theorem parse_res {B er : Nat} {w w' : World} {b : List UInt8} {o : OptM} {A : Option Addr} {c : Nat} (h : parseO b = (er, o)) (hb : Below B w w') (hr : Row w' 2 A o.sacks.length c (bcs o.sacks)) : ParseRes B w b (.returned (.tuple #[.agg ({ o with A := A, c := c } : OptM).cells, .int .i64 (er : Int)])) w' := by
  have hp := parseO_ok b
  unfold ParseRes
  rw [h] at hp ⊢
  exact ⟨A, c, rfl, (hp.addr A c).opt hr, hb⟩
/-- The same, with where the blocks stand. -/
def ParseResI (B : Nat) (w : World) (b : List UInt8) (e : Ending) (w' : World) : Prop :=
  ∃ A c, e = .returned (.tuple #[.agg ({ (parseO b).2 with A := A, c := c } : OptM).cells, .int .i64 ((parseO b).1 : Int)]) ∧ OptOk w' { (parseO b).2 with A := A, c := c } ∧ Below B w w' ∧ ∃ d, InB A d ∧ B ≤ d
theorem OwnS.inb {w : World} {base : Nat} {o : OptM} (h : OwnS w base o) : ∃ d, InB o.A d ∧ base ≤ d := by
  rcases h.2 with ⟨e, _⟩ | ⟨g, cap, cur, e, hb, _⟩
  · injection e with e1 e2 e3
    rw [e1]
    exact ⟨base, InB.none _, Nat.le_refl _⟩
  · injection e with e1 e2 e3
    rw [e1]
    exact ⟨g, InB.some g 0, hb⟩
theorem parse_resI {B er : Nat} {w w' : World} {b : List UInt8} {o : OptM} {A : Option Addr} {c : Nat} (h : parseO b = (er, o)) (hb : Below B w w') (hr : Row w' 2 A o.sacks.length c (bcs o.sacks)) (hi : ∃ d, InB A d ∧ B ≤ d) : ParseResI B w b (.returned (.tuple #[.agg ({ o with A := A, c := c } : OptM).cells, .int .i64 (er : Int)])) w' := by
  obtain ⟨A', c', e, h1, h2⟩ := parse_res h hb hr
  have hp := parseO_ok b
  unfold ParseResI
  rw [h] at hp ⊢
  exact ⟨A, c, rfl, (hp.addr A c).opt hr, hb, hi⟩
set_option maxRecDepth 20000 in
set_option maxHeartbeats 4000000 in
theorem parse12I_any (v : Value) (b : List UInt8) (w : World) (hb : RB w v b) :
    Calls Try.prog 40 #[v] w (ParseResI w.heap.size w b) := by
  obtain ⟨A0, c0, rfl, hrow⟩ := hb
  have HBR := hid (show RB w (.slice A0 b.length c0) b from ⟨A0, c0, rfl, hrow⟩)
  clear hrow
  have HI := hid (show (Try.prog.info? 31).map (·.size) = some noOpt.cells.size by kernel_rfl)
  have H1 := hid noOpt.one
  have hal := alloc_noOpt
  have hbn := build_noOpt
  generalize hnc : noOpt.cells = nc at HI H1 hal hbn
  have HNC := hid hnc
  have HAL := hid hal
  have HBN := hid hbn
  clear hnc hal hbn
  obtain ⟨B, hB⟩ : ∃ B, w.heap.size = B := ⟨_, rfl⟩
  have HB := hid hB
  rw [hB]
  clear hB
  obtain ⟨t, ht⟩ : ∃ t, decide (40 < b.length) = t := ⟨_, rfl⟩
  have ht2 : decide ((40 : Int) < (b.length : Int)) = t := by rw [← ht, decide_eq_decide]; omega
  have HT := hid ht
  clear ht
  have hmf : ∀ (fn : Fn) (first cap : Array Value) (w : World), (Instr.makeFunc fn first cap).run Try.prog w = .ok (.func fn first cap) w := fun _ _ _ _ => rfl
  go_enter Try.func40, Try.ntmps40
  cases t
  case true =>
    go_wp2_with (first
      | ((with_reducible refine at_slot 2 ?_); refine wpList_allocF rfl 31 rfl _ HAL.out ?_; intro w1 hx1 hb1 hz1; rw [HB.out] at hx1 hb1 hz1 ⊢)
      | ((with_reducible refine at_build 31 ?_); refine wpList_buildF rfl 31 _ rfl #[] (by simp) _ HBN.out ?_)
      | ((with_reducible refine at_store 2 12 ?_); refine wpList_rowF rfl 31 (.tmp 2) (.tmp 12) rfl B 31 _ nc rfl rfl hx1 HI.out rfl H1.out ?_; intro w2 h2 m2 z2))
    try simp only [Act.put, List.setIfInBounds_toArray, List.set_cons_zero, List.set_cons_succ]
    refine ret_cell_tmp (p := 2) (q := 3) rfl rfl rfl h2 Try.underlying31 rfl HI.out ?_
    rw [← HNC.out]
    exact parse_resI (A := none) (c := 0) (show parseO b = (3, noOpt) by unfold parseO; rw [if_pos (of_decide_eq_true HT.out)]) (Mod.below hb1 m2 (Nat.le_of_eq HB.out.symm) (by simp)) (Row.nil _ 2) ⟨_, InB.none _, Nat.le_refl _⟩
  have HP := hid (show parseO b = endO (parseX noOpt met0 b) by unfold parseO; rw [if_neg (of_decide_eq_false HT.out)])
  have HBL := hid (show b.length ≤ 40 by have := of_decide_eq_false HT.out; omega)
  go_wp2_with (first
    | ((with_reducible refine at_slot 2 ?_); refine wpList_allocF rfl 31 rfl _ HAL.out ?_; intro w1 hx1 hb1 hz1; rw [HB.out] at hx1 hb1 hz1 ⊢)
    | ((with_reducible refine at_slot 4 ?_); refine wpList_allocF rfl 31 rfl _ HAL.out ?_; intro w2 hx2 hb2 hz2; rw [hz1] at hx2 hb2 hz2 ⊢; have HX2 := hid ((hb2.block _ (by omega)).trans hx1); have HY2 := hid hx2; have HB2 := hid (hb1.trans (hb2.mono (by omega))); have HZ2 := hid hz2; clear hx1 hb1 hz1 hx2 hb2 hz2)
    | ((with_reducible refine at_slot 5 ?_); refine wpList_allocF rfl 93 rfl _ met_cells ?_; intro w3 hx3 hb3 hz3; rw [HZ2.out] at hx3 hb3 hz3 ⊢; have HX3 := hid ((hb3.block _ (by omega)).trans HX2.out); have HY3 := hid ((hb3.block _ (by omega)).trans HY2.out); have HM3 := hid hx3; have HB3 := hid (HB2.out.trans (hb3.mono (by omega))); have HZ3 := hid hz3; clear hx3 hb3 hz3 HX2 HY2 HB2 HZ2)
    | ((with_reducible refine at_slot 6 ?_); refine wpList_allocF rfl 37 rfl _ errno_cell ?_; intro w4 hx4 hb4 hz4; rw [HZ3.out] at hx4 hb4 hz4 ⊢; have HX4 := hid ((hb4.block _ (by omega)).trans HX3.out); have HY4 := hid ((hb4.block _ (by omega)).trans HY3.out); have HM4 := hid ((hb4.block _ (by omega)).trans HM3.out); have HE4 := hid hx4; have HB4 := hid (HB3.out.trans (hb4.mono (by omega))); have HZ4 := hid hz4; have ce := cellRow hx4 0; have cz := Lib.frozen_of_heap hx4 0; simp only [List.getElem?_toArray, List.getElem?_cons_zero] at ce; clear hx4 hb4 hz4 HX3 HY3 HM3 HB3 HZ3))
  have HM5 := hid (show Mod [B + 1 + 1 + 1] w4 (w4.setCell ⟨B + 1 + 1 + 1, 0, none⟩ (.int .i64 0)) from Mod.setCell _ _ _ (by simp))
  have he5 := rowSetCell HE4.out 0 (.int .i64 0)
  have he5 : (w4.setCell ⟨B + 1 + 1 + 1, 0, none⟩ (.int .i64 0)).heap[B + 1 + 1 + 1]? = some (.cells #[.int .i64 0] 37 (0, 0)) := by simpa using he5
  have hz5 : (w4.setCell ⟨B + 1 + 1 + 1, 0, none⟩ (.int .i64 0)).heap.size = B + 1 + 1 + 1 + 1 := by rw [size_setCell, HZ4.out]
  have HX5 := hid (HM5.out.keeps HX4.out (by simp <;> omega))
  have HY5 := hid (HM5.out.keeps HY4.out (by simp <;> omega))
  have HMM5 := hid (HM5.out.keeps HM4.out (by simp <;> omega))
  have HE5 := hid he5
  have HZ5 := hid hz5
  have HB5 := hid (Mod.below HB4.out HM5.out (Nat.le_of_eq HB.out.symm) (by simp <;> omega))
  clear he5 hz5 ce cz HM5 HX4 HY4 HM4 HE4 HB4 HZ4
  generalize w4.setCell ⟨B + 1 + 1 + 1, 0, none⟩ (.int .i64 0) = w5 at HX5 HY5 HMM5 HE5 HZ5 HB5 ⊢
  (with_reducible refine Calls.mono (readD _ b w5 (HBR.out.below (by rw [HB.out]; exact HB5.out)) (by have := HBL.out; omega)) ?_)
  rintro e w6 ⟨g, d, rfl, hg1, hd1, hdg, hr6, hb6⟩
  rw [HZ5.out] at hg1 hd1
  have HX6 := hid ((hb6.block _ (Array.getElem?_eq_some_iff.1 HX5.out).1).trans HX5.out)
  have HY6 := hid ((hb6.block _ (Array.getElem?_eq_some_iff.1 HY5.out).1).trans HY5.out)
  have HM6 := hid ((hb6.block _ (Array.getElem?_eq_some_iff.1 HMM5.out).1).trans HMM5.out)
  have HE6 := hid ((hb6.block _ (Array.getElem?_eq_some_iff.1 HE5.out).1).trans HE5.out)
  have HB6 := hid (HB5.out.trans (hb6.mono (by rw [HZ5.out]; omega)))
  have HR6 := hid hr6
  have hgl := hr6.lt
  clear hb6 hr6 HX5 HY5 HMM5 HE5 HB5 HZ5
  go_wp2_with ((with_reducible refine at_slot 7 ?_); refine wpList_allocF rfl 94 rfl _ ptr_cells ?_; intro w7 hx7 hb7 hz7; have ch := cellRow hx7 0; have chz := Lib.frozen_of_heap hx7 0; simp only [List.getElem?_toArray, List.getElem?_cons_zero] at ch; have HX7 := hid ((hb7.block _ (Array.getElem?_eq_some_iff.1 HX6.out).1).trans HX6.out); have HY7 := hid ((hb7.block _ (Array.getElem?_eq_some_iff.1 HY6.out).1).trans HY6.out); have HM7 := hid ((hb7.block _ (Array.getElem?_eq_some_iff.1 HM6.out).1).trans HM6.out); have HE7 := hid ((hb7.block _ (Array.getElem?_eq_some_iff.1 HE6.out).1).trans HE6.out); have HR7 := hid (HR6.out.below hb7); have HB7 := hid (HB6.out.trans (hb7.mono (by have := HB6.out.size; have := HB.out; omega))); have HH7 := hid hx7; have HZ7 := hid hz7; clear hb7 hz7 hx7; have HS6 := hid (Array.getElem?_eq_some_iff.1 HE6.out).1; clear HX6 HY6 HM6 HE6 HR6 HB6)
  obtain ⟨gh, hgh⟩ : ∃ gh, w6.heap.size = gh := ⟨_, rfl⟩
  rw [hgh] at hgl HH7 HZ7 HS6 ch chz ⊢
  clear hgh
  have HM8 := hid (show Mod [gh] w7 (w7.setCell ⟨gh, 0, none⟩ (.pointer (some ⟨g, 0, none⟩))) from Mod.setCell _ _ _ (by simp))
  have hh8 := rowSetCell HH7.out 0 (.pointer (some ⟨g, 0, none⟩))
  have hh8 : (w7.setCell ⟨gh, 0, none⟩ (.pointer (some ⟨g, 0, none⟩))).heap[gh]? = some (.cells #[.pointer (some ⟨g, 0, none⟩)] 94 (0, 0)) := by simpa using hh8
  have hs6 : B + 1 + 1 + 1 + 1 ≤ gh := by have := HS6.out; omega
  have HX8 := hid (HM8.out.keeps HX7.out (by simp <;> omega))
  have HY8 := hid (HM8.out.keeps HY7.out (by simp <;> omega))
  have HMM8 := hid (HM8.out.keeps HM7.out (by simp <;> omega))
  have HE8 := hid (HM8.out.keeps HE7.out (by simp <;> omega))
  have HR8 := hid (HR7.out.mod HM8.out (by simp <;> omega) (by simp <;> omega))
  have HB8 := hid (Mod.below HB7.out HM8.out (Nat.le_of_eq HB.out.symm) (by simp <;> omega))
  have HH8 := hid hh8
  have HZ8 := hid (show (w7.setCell ⟨gh, 0, none⟩ (.pointer (some ⟨g, 0, none⟩))).heap.size = gh + 1 by rw [size_setCell, HZ7.out])
  clear hh8 HX7 HY7 HM7 HE7 HR7 HB7 HM8 HH7 HZ7 ch chz HS6
  generalize w7.setCell ⟨gh, 0, none⟩ (.pointer (some ⟨g, 0, none⟩)) = w8 at HX8 HY8 HMM8 HE8 HR8 HB8 HH8 HZ8 ⊢
  rw [← HNC.out] at HY8
  (with_reducible refine Calls.mono (try12_any (B + 1 + 1 + 1) gh (B + 1) (B + 1 + 1) g d b w8 ⟨by rw [HZ8.out]; omega, by rw [HZ8.out]; omega, by rw [HZ8.out]; omega, by rw [HZ8.out]; omega, by omega, by omega, by omega, by omega, by omega⟩ HBL.out HY8.out HMM8.out HR8.out HE8.out HH8.out (by omega) (by omega) (by omega) (by omega) (by omega) (by omega) (by omega) (by omega)) ?_)
  rintro e w9 ⟨hm9, ht9⟩
  have HX9 := hid (hm9.keeps HX8.out (by rw [HZ8.out]; omega) (by simp <;> omega))
  have HB9 := hid (show Below B w w9 from ⟨hm9.os.trans HB8.out.os, hm9.tape.trans HB8.out.tape, hm9.output.trans HB8.out.output, Nat.le_trans HB8.out.size hm9.size, fun k hk => (hm9.block k (by rw [HZ8.out]; omega) (by simp <;> omega)).trans (HB8.out.block k hk)⟩)
  have HZ9 := hid (show B < w8.heap.size + 1 by rw [HZ8.out]; omega)
  clear hm9 HX8 HY8 HMM8 HE8 HR8 HB8 HH8 HZ8
  cases hR : parseX noOpt met0 b with
  | none =>
    rw [hR] at ht9 HP
    have he9 : e = .returned (.int .i64 4) := ht9
    subst he9
    clear ht9 hR
    go_wp2_with (first
      | ((with_reducible refine at_build 31 ?_); refine wpList_buildF rfl 31 _ rfl #[] (by simp) _ HBN.out ?_)
      | ((with_reducible refine at_store 2 20 ?_); refine wpList_rowF rfl 31 (.tmp 2) (.tmp 20) rfl B 31 _ nc rfl rfl HX9.out HI.out rfl H1.out ?_; intro w10 h10 m10 z10))
    try simp only [Act.put, List.setIfInBounds_toArray, List.set_cons_zero, List.set_cons_succ]
    refine ret_cell_tmp (p := 2) (q := 3) rfl rfl rfl h10 Try.underlying31 rfl HI.out ?_
    rw [← HNC.out]
    exact parse_resI (A := none) (c := 0) (show parseO b = (3, noOpt) from HP.out) (Mod.below HB9.out m10 (Nat.le_of_eq HB.out.symm) (by simp)) (Row.nil _ 2) ⟨_, InB.none _, Nat.le_refl _⟩
  | some r =>
    obtain ⟨er, o'⟩ := r
    rw [hR] at ht9 HP
    obtain ⟨rfl, he9, hmac, A, c, ho9, hr9⟩ := ht9
    clear hR
    have HO9 := hid ho9
    have HR9 := hid hr9
    have HMC := hid hmac
    have ce := cellRow he9 0
    simp only [List.getElem?_toArray, List.getElem?_cons_zero] at ce
    clear ho9 hr9 hmac he9
    by_cases h0 : er = 0
    · subst h0
      have HP2 := hid (show parseO b = (0, o') from HP.out)
      obtain ⟨q, hq⟩ : ∃ q : OptM, ({ o' with A := A, c := c } : OptM) = q := ⟨_, rfl⟩
      rw [hq] at HO9
      have HQ := hid hq
      have HIQ := hid (show (Try.prog.info? 31).map (·.size) = some q.cells.size by rw [OptM.size q (by rw [← hq]; exact HMC.out)]; kernel_rfl)
      have HSQ := hid (show nc.size = q.cells.size by rw [OptM.size q (by rw [← hq]; exact HMC.out), ← HNC.out]; rfl)
      clear hq
      go_wp2_with (first
        | ((with_reducible refine at_slot 26 ?_); refine wpList_load_row rfl 31 (.tmp 4) rfl (B + 1) rfl _ q.cells _ _ HO9.out Try.underlying31 rfl HIQ.out ?_)
        | ((with_reducible refine at_store 2 26 ?_); refine wpList_rowF rfl 31 (.tmp 2) (.tmp 26) rfl B 31 _ q.cells rfl rfl HX9.out HIQ.out HSQ.out q.one ?_; intro w10 h10 m10 z10))
      try simp only [Act.put, List.setIfInBounds_toArray, List.set_cons_zero, List.set_cons_succ]
      refine ret_cell_tmp (p := 2) (q := 3) rfl rfl rfl h10 Try.underlying31 rfl HIQ.out ?_
      rw [← HQ.out]
      exact parse_resI HP2.out (Mod.below HB9.out m10 (Nat.le_of_eq HB.out.symm) (by simp)) (OwnS.row (own_mod HR9.out m10 (by simp; have := HZ9.out; omega))) (by obtain ⟨d, h1, h2⟩ := OwnS.inb (own_mod HR9.out m10 (by simp; have := HZ9.out; omega)); exact ⟨d, h1, by have := HZ9.out; omega⟩)
    · have b0 : ((er : Int) == 0) = false := by rw [beq_eq_false_iff_ne]; omega
      have b1 : ((er : Int) != 0) = true := by rw [bne_iff_ne]; omega
      have HP2 := hid (show parseO b = (er, noOpt) by rw [HP.out]; show (if er = 0 then (0, o') else (er, noOpt)) = _; rw [if_neg h0])
      clear h0
      go_upto_region 11 with fail
      have hS0 : ({ w9 with drawn := w9.drawn + 1 } : World).cell? ⟨B + 1 + 1 + 1, 0, none⟩ = some (.int .i64 (er : Int)) := ce
      refine wp_region_hand (fun W' => W'.cell? ⟨B + 1 + 1 + 1, 0, none⟩ = some (.int .i64 (er : Int))) (by kernel_rfl) hS0 ?_
      intro hS
      have hx : ({ w9 with drawn := w9.drawn + 1 } : World).heap[B]? = some (.cells nc 31 (0, 0)) := HX9.out
      have hb9 : Below B w ({ w9 with drawn := w9.drawn + 1 } : World) := below_drewN HB9.out 1
      clear hS0 ce HX9 HB9
      generalize ({ w9 with drawn := w9.drawn + 1 } : World) = u at hS hx hb9 ⊢
      refine wpAnyH_take (i := 0) (oi := ⟨some 24, _, _, _, _, _⟩) (v := .agg nc) rfl (by kernel_rfl) (by kernel_rfl) (by kernel_rfl) (fun _ _ _ h => h) (Or.inl ⟨by rfl, fun W' hS' => exec_buildO 31 #[] rfl #[] (by simp) _ HBN.out⟩) hS ?_
      try simp only [Act.put, List.setIfInBounds_toArray, List.set_cons_zero, List.set_cons_succ]
      refine wpAnyH_take (i := 1) (oi := ⟨some 25, _, _, _, _, _⟩) (v := ?_) rfl (by kernel_rfl) (by kernel_rfl) (by kernel_rfl) (fun _ _ _ h => h) (Or.inl ⟨by rfl, ?_⟩) hS ?_
      rotate_left 1
      focus ((intro W' hS'; go_simp) <;> with_reducible rfl)
      try simp only [Act.put, List.setIfInBounds_toArray, List.set_cons_zero, List.set_cons_succ]
      refine anyH_one (i := 2) (by kernel_rfl) ⟨none, _, _, _, _, _⟩ rfl (by rfl) ?_
      refine wp_partF 31 (.tmp 2) (.tmp 24) rfl B 0 31 nc nc nc.toList rfl (by rfl) hx (by simp) (by have := H1.out; rw [Array.all_eq_true_iff_forall_mem] at this; intro u hu; exact this u (by simpa using hu)) (by rw [Array.length_toList]; exact HI.out) (by simp) ?_
      intro u1 h1 m1 z1
      replace hS := m1.cell hS (by simp; omega)
      replace hx := h1
      replace hb9 := Mod.below hb9 m1 (Nat.le_of_eq HB.out.symm) (by simp)
      clear h1 m1 z1
      refine ⟨hS, ?_⟩
      try simp only [Act.put, List.setIfInBounds_toArray, List.set_cons_zero, List.set_cons_succ]
      refine wpAnyH_take (i := 3) (oi := ⟨some 3, _, _, _, _, _⟩) (v := ?_) rfl (by kernel_rfl) (by kernel_rfl) (by kernel_rfl) (fun _ _ _ h => h) (Or.inl ⟨by rfl, ?_⟩) hS ?_
      rotate_left 1
      focus ((intro W' hS'; go_simp) <;> with_reducible rfl)
      try simp only [Act.put, List.setIfInBounds_toArray, List.set_cons_zero, List.set_cons_succ]
      refine wpAnyH_done (by kernel_rfl) ?_ _
      go_wp2_with fail
      try simp only [Act.put, List.setIfInBounds_toArray, List.set_cons_zero, List.set_cons_succ]
      refine ret_cell_tmp (p := 2) (q := 3) rfl rfl rfl hx Try.underlying31 rfl HI.out ?_
      rw [← HNC.out]
      exact parse_resI (A := none) (c := 0) HP2.out hb9 (Row.nil _ 2) ⟨_, InB.none _, Nat.le_refl _⟩
theorem parse12_any (v : Value) (b : List UInt8) (w : World) (hb : RB w v b) :
    Calls Try.prog 40 #[v] w (ParseRes w.heap.size w b) :=
  (parse12I_any v b w hb).mono fun _ _ ⟨A, c, h1, h2, h3, _⟩ => ⟨A, c, h1, h2, h3⟩
end Go.Proofs.Ythnidgiogjehkaa
