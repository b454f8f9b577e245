/- Insert: its contract; join and Add on any board whose runs are apart. -/
import Derived.Test.YtblkfpipmdfmkaaSackU
namespace Go.Proofs.Ytblkfpipmdfmkaa
set_option linter.unusedVariables false
set_option linter.unusedSimpArgs false
open Go.RowKit

theorem inserts : InsertsSaid := by
  intro W base v l i r vb hbase ho hl hi hv hne
  have hll := hl.1
  rcases Nat.lt_or_ge i l.length with hlt | hge
  · rcases ho.2 with ⟨_, h0⟩ | ⟨g, c, cur, rfl, hbg, hg, hlc, hcm, hsz, htk⟩
    · omega
    · rcases Nat.lt_or_ge c (l.length + 1) with hc | hc
      · refine (insert_grow W g c i vb cur l r hg htk hsz hlt hc hlc hll hv).mono ?_
        rintro _ _ ⟨G, cur', rfl, hb, hg', h1, h2, h3, h4⟩
        refine ⟨_, rfl, ⟨by simp only [rcs_length, List.length_append, List.length_take, List.length_cons, List.length_drop]; omega, .inr ⟨_, G, cur', rfl, hbase, hg', h1, h2, h3, h4⟩⟩, ?_⟩
        exact hb.mono hbase
      · refine (insert_shift W g c i vb cur l r hg htk hsz hlt hc (by unfold maxLen at hcm; omega) hll hv (fun e => hne (by simp [Value.ownBlock, e]))).mono ?_
        rintro _ _ ⟨rfl, hm, cur', hg', h3, h4⟩
        refine ⟨_, rfl, ⟨by simp only [rcs_length, List.length_append, List.length_take, List.length_cons, List.length_drop]; omega, .inr ⟨g, c, cur', rfl, hbg, hg', hc, hcm, h3, h4⟩⟩, ?_⟩
        exact Mod.below (Below.refl _ W) hm hbase (by intro k hk; simp only [List.mem_singleton] at hk; omega)
  · have e : i = l.length := by omega
    subst e
    exact insert_end W base v l r vb hbase ho hl hv
end Go.Proofs.Ytblkfpipmdfmkaa
