/- Walk: octets.Try of a method value. -/
import Derived.Test.YtlijgcmcpehplaaOctT
import Derived.Test.YtlijgcmcpehplaaMod
namespace Go.Proofs.Ytlijgcmcpehplaa
set_option linter.unusedVariables false
set_option linter.unusedSimpArgs false
open Go.RowKit

set_option maxHeartbeats 400000 in
theorem try_meth (f : FuncId) (x : Value) (w : World) (Q : Bool → World → Prop)
    (hen : ∀ w, (callFunc f #[x]).run Try.prog w = .ok (.enter f #[x]) w)
    (hcall : Calls Try.prog f #[x] (w.alloc (.cells #[.int .i64 0] 31)) fun e w' => w'.heap[w.heap.size]? = some (.cells #[.int .i64 0] 31 (0, 0)) ∧ ((e = .returned (.tuple #[]) ∧ Q true w') ∨ (e = .panicked stopC ∧ Q false w'))) :
    Calls Try.prog 37 #[.func (.func f) #[x] #[]] w (TryEnd Q w.heap.size) := by
  have hmf : ∀ (fn : Fn) (first cap : Array Value) (w : World), (Instr.makeFunc fn first cap).run Try.prog w = .ok (.func fn first cap) w := fun _ _ _ _ => rfl
  have HC := hid hcall
  clear hcall
  go_enter_defers Try.func37, Try.ntmps37
  go_wp2_with fail
  refine HC.out.mono ?_
  rintro e w1 ⟨hB, ⟨rfl, hq⟩ | ⟨rfl, hq⟩⟩
  · have hc := cell_of_row w1 _ 0 _ _ _ hB
    have hz : w1.frozen? ⟨w.heap.size, 0, none⟩ = false := by simp [World.frozen?, hB]
    simp only [List.getElem?_toArray, List.getElem?_cons_zero] at hc
    clear hen
    go_wp2_with fail
    refine leaves_cons (f := 39) (args := #[.pointer (some ⟨w.heap.size, 0, none⟩)]) (by simp) (by simp [go_sem]) ?_
    refine (tryD_idle ⟨w.heap.size, 0, none⟩ _).mono ?_
    rintro e u' w'' ⟨rfl, rfl, rfl⟩
    have hb2 : (w1.setCell ⟨w.heap.size, 0, none⟩ (.int .i64 0)).heap[w.heap.size]? = some (.cells #[.int .i64 0] 31 (0, 0)) := by simp [World.setCell, Array.getElem?_modify, hB]
    have hc2 := cell_of_row _ _ 0 _ _ _ hb2
    simp only [List.getElem?_toArray, List.getElem?_cons_zero] at hc2
    simp [Leaves, settle, results, Try.results37, go_sem, hc2]
    exact ⟨true, w1, hq, rfl, grownBy_setCell _ _ _ _, hB⟩
  · have hc := cell_of_row w1 _ 0 _ _ _ hB
    have hz : w1.frozen? ⟨w.heap.size, 0, none⟩ = false := by simp [World.frozen?, hB]
    have hlt : w.heap.size < w1.heap.size := (Array.getElem?_eq_some_iff.1 hB).1
    simp only [List.getElem?_toArray, List.getElem?_cons_zero] at hc
    go_wp2_with fail
    refine leaves_cons (f := 39) (args := #[.pointer (some ⟨w.heap.size, 0, none⟩)]) (by simp) (by simp [go_sem]) ?_
    refine (tryD_stop ⟨w.heap.size, 0, none⟩ _ _ hc hz hlt).mono ?_
    rintro e u' w'' ⟨rfl, rfl, rfl⟩
    have hb2 : ((w1.alloc (.cells #[] 74)).setCell ⟨w.heap.size, 0, none⟩ (.int .i64 4)).heap[w.heap.size]? = some (.cells #[.int .i64 4] 31 (0, 0)) := by
      have h1 := (Below.heap_alloc w1 (.cells #[] 74) _ hlt).trans hB
      simp [World.setCell, Array.getElem?_modify, h1]
    have hc2 := cell_of_row _ _ 0 _ _ _ hb2
    simp only [List.getElem?_toArray, List.getElem?_cons_zero] at hc2
    simp [Leaves, settle, results, Try.results37, go_sem, hc2]
    exact ⟨false, w1, hq, rfl, (World.grownBy_alloc w1 _ _).trans (grownBy_setCell _ _ _ _), hB⟩


/-- Try of a method: what the method leaves, and nothing old turned but the blocks of M. -/
theorem try_mod (f : FuncId) (x : Value) (w : World) (M : List Nat) (Q : Bool → World → Prop)
    (hen : ∀ w, (callFunc f #[x]).run Try.prog w = .ok (.enter f #[x]) w) (hM : ∀ k ∈ M, k < w.heap.size) (hQ : ∀ b w' w'', Q b w' → w'.grownBy w'' (some w.heap.size) → Q b w'')
    (hcall : ∀ w1, Mod [] w w1 → w1.heap.size = w.heap.size + 1 → Calls Try.prog f #[x] w1 fun e w' => Mod M w1 w' ∧ ((e = .returned (.tuple #[]) ∧ Q true w') ∨ (e = .panicked stopC ∧ Q false w'))) :
    Calls Try.prog 37 #[.func (.func f) #[x] #[]] w fun e w' => ∃ b, Q b w' ∧ e = .returned (.int .i64 (if b then 0 else 4)) ∧ Mod M w w' := by
  have h0 : Mod [] w (w.alloc (.cells #[.int .i64 0] 31)) := Mod.alloc _
  refine (try_meth f x w (fun b w' => Q b w' ∧ Mod M w w') hen ?_).mono ?_
  · refine (hcall _ h0 (by simp)).mono ?_
    rintro e w' ⟨hm, h⟩
    refine ⟨hm.keeps (nw1 w _) (fun hx => by have := hM _ hx; omega), ?_⟩
    have hmm : Mod M w w' := (h0.sub (by simp)).trans hm
    rcases h with ⟨h1, h2⟩ | ⟨h1, h2⟩
    · exact .inl ⟨h1, h2, hmm⟩
    · exact .inr ⟨h1, h2, hmm⟩
  · rintro e w'' ⟨b, w', ⟨hq, hm⟩, he, hg, _⟩
    refine ⟨b, hQ _ _ _ hq hg, he, ?_⟩
    exact (hm.sub (N := w.heap.size :: M) (fun k hk => by simp [hk])).trans ((Mod.of_grown hg).sub (by simp)) |>.old (fun k hk => by
      rcases List.mem_cons.1 hk with h | h
      · exact .inr (by omega)
      · exact .inl h)
end Go.Proofs.Ytlijgcmcpehplaa
