/- Walk: Add, with what really joins. -/
import Derived.Test.YtblkfpipmdfmkaaSackW
namespace Go.Proofs.Ytblkfpipmdfmkaa
set_option linter.unusedVariables false
set_option linter.unusedSimpArgs false
open Go.RowKit

theorem add_real (g f next : Nat) (rs bs : List (Nat × Nat)) (A : Option Addr) (c : Nat) (w : World) (h : Brd w g f rs) (ha : Apart rs) (hf : f < 4294967296) (hn : next < 4294967296) (hrow : Row w 2 A bs.length c (bcs bs)) (hrw : ∀ W', Mod [g] w W' → Row W' 2 A bs.length c (bcs bs)) (hB : OkB bs) :
    Calls Try.prog 30 #[.pointer (some ⟨g, 0, none⟩), .int .u32 (next : Int), .slice A bs.length c] w fun e w' =>
      ∃ z : Int, e = .returned (.int .i64 z) ∧ Brd w' g f (addR f (aheadS f next) rs bs) ∧ Mod [g] w w' := by
  refine Calls.mono (add_any g f next rs bs A c w h hf hn hrow hrw hB (fun _ rs' => Apart rs') ha (fun _ _ h => h.ok) (fun k rs' _ h => addR1_apart _ _ _ _ h)
    (fun k rs' x y W _ hi hb hx hy => join_any inserts g f x y rs' W hb hi hx hy)) ?_
  rintro e w' ⟨rfl, hb, _, hm⟩
  exact ⟨_, rfl, hb, hm⟩
end Go.Proofs.Ytblkfpipmdfmkaa
