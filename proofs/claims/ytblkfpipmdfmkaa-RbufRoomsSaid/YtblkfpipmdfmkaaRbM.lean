/- Walks: Out of a buffer, and the laws' alive, layer 26. -/
import Derived.Test.YtblkfpipmdfmkaaRbL
import Derived.Test.YtblkfpipmdfmkaaRbS
import Derived.Test.YtblkfpipmdfmkaaStr
namespace Go.Proofs.Ytblkfpipmdfmkaa
set_option linter.unusedVariables false
set_option linter.unusedSimpArgs false
open Go.RowKit

theorem bufout_any (gb g d : Nat) (m : BufP) (w : World) (h : BufW w gb g d m) (hk : BOk m) : Calls Try.prog 20 #[.pointer (some ⟨gb, 0, none⟩)] w fun e w' => e = .returned (.int .i64 (sumR m.rs : Int)) ∧ Below w.heap.size w w' := by
  have HO := hid (bufok_any gb g d m w h)
  have HF := hid (bytes_any g m.f m.rs w h.brd hk.apart.ok)
  obtain ⟨c0, _⟩ := h.cells
  clear h
  go_enter Try.func20, Try.ntmps20
  go_wp2_with fail
  (with_reducible refine Calls.mono HO.out ?_)
  rintro e w' ⟨rfl, rfl⟩
  go_wp2_with fail
  (with_reducible refine Calls.mono HF.out ?_)
  rintro e w' ⟨rfl, hb⟩
  go_wp2_with fail
  go_ret
  exact ⟨rfl, hb⟩
/-- Insert of bytes that stand in a block of their own. -/
theorem insert_own (gb g d : Nat) (m : BufP) (s : Nat) (nb n : Nat) (p : List UInt8) (w : World) (h : BufW w gb g d m) (hk : BOk m) (hs : s < 4294967296) (hn : n = p.length) (hpl : p.length ≤ 1000000) (hrb : RB w (.slice (some ⟨nb, 0, none⟩) p.length p.length) p) (h1 : nb ≠ gb) (h2 : nb ≠ g) (h3 : nb ≠ d) (m' : BufP) (r : Nat) (hr : insB m s p = (m', r)) :
    Calls Try.prog 12 #[.pointer (some ⟨gb, 0, none⟩), .int .u32 (s : Int), .slice (some ⟨nb, 0, none⟩) n n] w fun e w' => e = .returned (.int .i64 (r : Int)) ∧ BufW w' gb g d m' ∧ Mod [gb, g, d] w w' := by
  subst hn
  have h4 := insert_any gb g d m s (some ⟨nb, 0, none⟩) p.length p w h hk hs hpl (fun W hm => hrb.mod hm (InB.some _ _) (by simp; omega))
  rw [hr] at h4
  exact h4
def alB1 : BufP := (insB (newB 10 5) 7 [99, 100]).1
def alB2 : BufP := (insB alB1 5 [97, 98]).1
theorem alB1_is : insB (newB 10 5) 7 [99, 100] = (alB1, 0) := Prod.ext rfl (by decide +kernel)
theorem alB2_is : insB alB1 5 [97, 98] = (alB2, 4) := Prod.ext rfl (by decide +kernel)
theorem alB1_out : sumR alB1.rs = 2 := by decide +kernel
theorem alB2_cnt : cntB alB2 9 = 4 := by decide +kernel
theorem alB2_get : getB alB2 4 = [97, 98, 99, 100] := by decide +kernel
theorem alB2_f : (readB alB2 9).f = 9 := by decide +kernel
theorem alB1_ok : BOk alB1 := (insB_ok (newB 10 5) 7 [99, 100] (newB_ok 10 5 (by decide) (by decide) (by decide))).1
theorem alB2_ok : BOk alB2 := (insB_ok alB1 5 [97, 98] alB1_ok).1
theorem wpList_markG {ops : Array Oper} {rest : List Oper} {o : Oper} {a : Act} {w : World} {Q : Exit → Act → World → Prop} (hw : Region.wanted o (yielded ops a.tmps) = true) (x : Operand) (ho : o.op = .convert 32 32 x) (g n c : Nat) (hx : a.eval x = .slice (some ⟨g, 0, none⟩) n c) (cs : Array Value) (T : TypeId) (hg : w.heap[g]? = some (.cells cs T (0, 0)))
    (h : ∀ w', w'.heap[g]? = some (.cells cs T (cs.size, cs.size + 1)) → Mod [g] w w' → w'.heap.size = w.heap.size → wpList Try.prog ops Q rest (a.put o.dst (.slice (some ⟨g, 0, none⟩) n c)) w') : wpList Try.prog ops Q (o :: rest) a w := by
  obtain ⟨h1, h2, h3⟩ := freeze_at (k := cs.size) hg
  refine wpList_yieldG hw (v := .slice (some ⟨g, 0, none⟩) n c) (w' := w.freeze ⟨g, cs.size, none⟩ 1) ?_ (h _ h1 h2 h3)
  unfold execOp
  simp only [ho, hx, Sem.run_bind, run_mark hg, Result.andThen_ok, Sem.run_pure]
/-- A marked literal of two bytes. -/
theorem mark_two {w w0 w1 : World} {x y : UInt8} (hb : Below w.heap.size w w0) (m1 : Mod [w.heap.size] w0 w1) (h1 : w1.heap[w.heap.size]? = some (.cells #[.int .u8 (x.toNat : Int), .int .u8 (y.toNat : Int)] 5 (2, 3))) : Below w.heap.size w w1 ∧ RB w1 (.slice (some ⟨w.heap.size, 0, none⟩) 2 2) [x, y] :=
  ⟨Mod.below hb m1 (Nat.le_refl _) (fun k hk => Nat.le_of_eq (List.mem_singleton.1 hk).symm), RB.inBlock h1 rfl (Nat.le_refl _) (by decide) (fun j v hv => by rw [Nat.zero_add, ← hv]; simp [by8, u8])⟩
theorem below_mod3 {w w1 w2 : World} {gb g d : Nat} (hb : Below w.heap.size w w1) (hm : Mod [gb, g, d] w1 w2) (h1 : w.heap.size ≤ gb) (h2 : w.heap.size ≤ g) (h3 : w.heap.size ≤ d) : Below w.heap.size w w2 :=
  Mod.below hb hm (Nat.le_refl _) (fun k hk => by simp at hk; rcases hk with rfl | rfl | rfl <;> assumption)
theorem below_mod1 {w w1 w2 : World} {gb : Nat} (hb : Below w.heap.size w w1) (hm : Mod [gb] w1 w2) (h1 : w.heap.size ≤ gb) : Below w.heap.size w w2 :=
  Mod.below hb hm (Nat.le_refl _) (fun k hk => by simp at hk; rcases hk with rfl; assumption)
set_option maxRecDepth 20000 in
set_option maxHeartbeats 2000000 in
theorem alive26_any (w : World) : Calls Try.prog 9 #[] w fun e w' => e = .returned (.bool true) ∧ Below w.heap.size w w' := by
  have HN := hid (newbuf_any 10 5 w (by decide) (by decide))
  have hst : ((strOf [97, 98, 99, 100]).toList == [97, 98, 99, 100]) = true := by decide +kernel
  go_enter Try.func9, Try.ntmps9
  go_wp2_with fail
  (refine Calls.mono HN.out ?_)
  rintro e w1 ⟨gb, g, d, rfl, h1, g1, g2, g3, hb1⟩
  have hlt := h1.lt
  have H1 := hid h1
  have HB1 := hid hb1
  clear hb1 h1
  go_wp2_with (first
    | ((with_reducible refine at_slot 15 ?_); refine wpList_litF rfl 32 5 2 _ rfl #[(0, .int .u8 99), (1, .int .u8 100)] (by simp [Act.eval, Act.put]) _ (lit8_2 _ _) ?_; intro u0 h0 hb0 s0)
    | ((with_reducible refine at_slot 16 ?_); refine wpList_markG rfl (.tmp 15) rfl w1.heap.size 2 2 rfl _ _ h0 ?_; intro u1 j1 n1 s1))
  obtain ⟨q1, r2⟩ := mark_two (x := 99) (y := 100) hb0 n1 j1
  have h2 := hid (H1.out.below q1)
  have HB1' := hid (below_after HB1.out q1 (Nat.le_refl _))
  clear h0 hb0 s0 j1 n1 H1 HB1 q1
  (refine Calls.mono (insert_own gb g d _ 7 w1.heap.size 2 [99, 100] _ h2.out (newB_ok 10 5 (by decide) (by decide) (by decide)) (by decide) rfl (by decide) r2 (by omega) (by omega) (by omega) _ _ alB1_is) ?_)
  rintro e w2 ⟨rfl, h3, m3⟩
  have HB2 := hid (below_mod3 HB1'.out m3 g1 g2 g3)
  have hlt2 := h3.lt
  have HOUT := hid (bufout_any gb g d _ w2 h3 alB1_ok)
  rw [alB1_out] at HOUT
  have H3 := hid h3
  clear HB1' r2 m3 h2 hlt h3 s1
  go_wp2_with fail
  (refine Calls.mono HOUT.out ?_)
  rintro e w3 ⟨rfl, hb3⟩
  have H4' := hid (H3.out.below hb3)
  have HB3' := hid (below_after HB2.out hb3 (Nat.le_refl _))
  have hs3 := hb3.size
  clear HOUT hb3 HB2 H3
  go_wp2_with (first
    | ((with_reducible refine at_slot 27 ?_); refine wpList_litF rfl 32 5 2 _ rfl #[(0, .int .u8 97), (1, .int .u8 98)] (by simp [Act.eval, Act.put]) _ (lit8_2 _ _) ?_; intro u0 h0 hb0 s0)
    | ((with_reducible refine at_slot 28 ?_); refine wpList_markG rfl (.tmp 27) rfl w3.heap.size 2 2 rfl _ _ h0 ?_; intro u3 j1 n1 s1))
  obtain ⟨q1, r4⟩ := mark_two (x := 97) (y := 98) hb0 n1 j1
  have H4 := hid (H4'.out.below q1)
  have HB3 := hid (below_after HB3'.out q1 (Nat.le_refl _))
  clear h0 hb0 s0 j1 n1 H4' HB3' q1
  (refine Calls.mono (insert_own gb g d _ 5 w3.heap.size 2 [97, 98] _ H4.out alB1_ok (by decide) rfl (by decide) r4 (by omega) (by omega) (by omega) _ _ alB2_is) ?_)
  rintro e w4 ⟨rfl, h5, m5⟩
  have HB4 := hid (below_mod3 HB3.out m5 g1 g2 g3)
  have HRD := hid (readbuf_any gb g d _ 9 w4 h5 alB2_ok)
  rw [alB2_cnt, alB2_get] at HRD
  clear HB3 r4 m5 H4 h5
  go_wp2_with fail
  (refine Calls.mono HRD.out ?_)
  rintro e w5 ⟨A, c, rfl, ho6, h6, m6⟩
  have HB5 := hid (below_mod1 HB4.out m6 g1)
  have r6 := conv_str ho6.rb
  have HNX := hid (bufnext_any gb g d _ w5 h6)
  rw [alB2_f] at HNX
  clear HRD m6 ho6 HB4 h6
  go_wp2_with fail
  (refine Calls.mono HNX.out ?_)
  rintro e w6 ⟨rfl, rfl⟩
  go_wp2_with fail
  go_ret
  exact ⟨rfl, HB5.out⟩
end Go.Proofs.Ytblkfpipmdfmkaa
