/- Walk of what OctetsBack reads. -/
import Derived.Test.YtechpojcbhnfgaaOct02A
namespace Go.Proofs.Ytechpojcbhnfgaa
set_option linter.unusedVariables false
set_option linter.unusedSimpArgs false
open Go.RowKit

set_option maxHeartbeats 1000000 in
theorem back1_any (p0 p1 b2 p3 : Nat) (v : Value) (ns : List UInt64) (k g : Nat) (hk : k ≤ 8) (behind : List UInt8) (w : World)
    (c0 : w.heap[p0]? = some (.cells #[v] 23 (0, 0))) (hn : RN w v ns) (c1 : w.heap[p1]? = some (.cells #[.int .i64 (k : Int)] 3 (0, 0)))
    (c2 : w.heap[b2]? = some (.cells #[.bool true] 4 (0, 0))) (c3 : w.heap[p3]? = some (.cells #[.pointer (some ⟨g, 0, none⟩)] 31 (0, 0)))
    (hr : Rdr w g (beL k ns ++ behind)) :
    Calls Try.prog 16 #[.pointer (some ⟨p0, 0, none⟩), .pointer (some ⟨p1, 0, none⟩), .pointer (some ⟨b2, 0, none⟩), .pointer (some ⟨p3, 0, none⟩)] w fun e w' =>
      e = .returned (.tuple #[]) ∧ Rdr w' g behind ∧ w.grownBy w' (some g) ∧ w'.heap.size = w.heap.size := by
  obtain ⟨B, cb, rfl, hrown⟩ := hn
  have htop := hrown.top
  have hcap := hrown.cap
  have d0 := cell_of_row w _ 0 _ _ _ c0
  simp only [List.getElem?_toArray, List.getElem?_cons_zero] at d0
  obtain ⟨A, cg, hg, _⟩ := id hr
  have hne : ∀ p T (u : Value), w.heap[p]? = some (.cells #[u] T (0, 0)) → T ≠ 39 → p ≠ g := by
    rintro p T u hp hT rfl
    rw [hg] at hp
    injection hp with hp
    injection hp with _ hp
    exact hT hp.symm
  have n1 := hne _ _ _ c1 (by decide)
  have n2 := hne _ _ _ c2 (by decide)
  have n3 := hne _ _ _ c3 (by decide)
  clear hne hg
  go_enter Try.func16, Try.ntmps16
  go_wp2
  go_loopw [9] (fun i wr => ∃ j : Nat, j ≤ ns.length ∧ i = .int .i64 j ∧ Rdr wr g (beL k (ns.drop j) ++ behind) ∧ w.grownBy wr (some g) ∧ wr.heap.size = w.heap.size) (fun i _ => ns.length - (intOf i).toNat)
  case atStart => exact ⟨0, Nat.zero_le _, rfl, hr, World.grownBy.refl w _, rfl⟩
  case round =>
    obtain ⟨j, hj, rfl, hrd, hgr, hsz⟩ := hrel
    have lt1 := (Array.getElem?_eq_some_iff.1 c1).1
    have lt2 := (Array.getElem?_eq_some_iff.1 c2).1
    have lt3 := (Array.getElem?_eq_some_iff.1 c3).1
    have e1' := (hgr.block p1 lt1 (by simpa using n1)).trans c1
    have e2' := (hgr.block b2 lt2 (by simpa using n2)).trans c2
    have e3' := (hgr.block p3 lt3 (by simpa using n3)).trans c3
    have e1 := cell_of_row wr _ 0 _ _ _ e1'
    have e2 := cell_of_row wr _ 0 _ _ _ e2'
    have e3 := cell_of_row wr _ 0 _ _ _ e3'
    have z2 : wr.frozen? ⟨b2, 0, none⟩ = false := by simp [World.frozen?, e2']
    simp only [List.getElem?_toArray, List.getElem?_cons_zero] at e1 e2 e3
    by_cases hlt : j < ns.length
    · obtain ⟨ad, rfl⟩ := hrown.addr (by rw [hrown.len]; omega)
      have hx := hrown.get j _ (by64_get ns j hlt)
      have hcell : wr.cell? (ad.add j) = some (.int .u64 ((ns.getD j 0).toNat : Int)) := by
        refine hgr.cell hx (fun e => ?_)
        injection e with e
        exact hr.ne hx e
      have hdr := beL_drop k ns j hlt
      generalize ns.getD j 0 = n at hcell hdr hx
      have hn64 := n.toNat_lt
      have htk : (beL k (ns.drop j) ++ behind).take k = beB k n.toNat := by
        rw [hdr, List.append_assoc, List.take_append_of_le_length (by rw [beB_length]; omega), List.take_of_length_le (by rw [beB_length]; omega)]
      have hdk : (beL k (ns.drop j) ++ behind).drop k = beL k (ns.drop (j + 1)) ++ behind := by
        rw [hdr, List.append_assoc, List.drop_append_of_le_length (by rw [beB_length]; omega), List.drop_of_length_le (by rw [beB_length]; omega), List.nil_append]
      have hlk : k ≤ (beL k (ns.drop j) ++ behind).length := by
        rw [hdr, List.append_assoc, List.length_append, beB_length]; omega
      obtain ⟨M, hM⟩ : ∃ M, M = 256 ^ k := ⟨_, rfl⟩
      have hget : (getS ((beL k (ns.drop j) ++ behind).take k) : Int) = ((n.toNat % M : Nat) : Int) := by rw [htk, getS_beB k _ hk, hM]
      have hnum : Hid (Calls Try.prog 17 #[.pointer (some ⟨g, 0, none⟩), .int .i64 (k : Int)] wr fun e w' => e = .returned (.int .u64 ((n.toNat % M : Nat) : Int)) ∧ Rdr w' g (beL k (ns.drop (j + 1)) ++ behind) ∧ wr.grownBy w' (some g) ∧ w'.heap.size = wr.heap.size) := by
        unfold Hid
        rcases Nat.eq_zero_or_pos k with h0 | h0
        · subst h0
          have h1 : n.toNat % M = 0 := by rw [hM]; simp [Nat.mod_one]
          refine (num_zero _ 0 (by omega) wr ⟨_, ?_, left_any g _ wr hrd⟩).mono ?_
          · obtain ⟨A', c', _, hrow⟩ := hrd
            have := hrow.cap; have := hrow.top; omega
          · rintro e w' ⟨rfl, rfl⟩
            exact ⟨by rw [h1]; rfl, hdk ▸ (by simpa using hrd), World.grownBy.refl _ _, rfl⟩
        · refine (num_some g _ (k : Int) k h0 (by unfold numLen; split <;> omega) hlk wr hrd).mono ?_
          rintro e w' ⟨rfl, h2, h3, h4⟩
          exact ⟨by rw [hget], hdk ▸ h2, h3, h4⟩
      clear htk hdk hlk hget hdr hx
      have hfin : ∀ w' : World, wr.grownBy w' (some g) → w'.heap.size = wr.heap.size → w'.cell? ⟨b2, 0, none⟩ = some (.bool true) ∧ w'.frozen? ⟨b2, 0, none⟩ = false ∧ w.grownBy (w'.setCell ⟨b2, 0, none⟩ (.bool true)) (some g) ∧ (∀ ys, Rdr w' g ys → Rdr (w'.setCell ⟨b2, 0, none⟩ (.bool true)) g ys) := by
        intro w' hg' hs'
        have h2 := (hg'.block b2 (by omega) (by simpa using n2)).trans e2'
        have h3 := cell_of_row w' _ 0 _ _ _ h2
        simp only [List.getElem?_toArray, List.getElem?_cons_zero] at h3
        refine ⟨h3, by simp [World.frozen?, h2], ?_, ?_⟩
        · refine (hgr.trans hg').trans ⟨rfl, rfl, rfl, by simp [World.setCell], fun q hq hne => ?_⟩
          by_cases hb : q = b2
          · subst hb; simp [World.setCell, Array.getElem?_modify, h2]
          · exact Below.heap_setCell _ _ _ _ hb
        · rintro ys ⟨A', c', h4, h5⟩
          refine ⟨A', c', (Below.heap_setCell _ _ _ _ (by show g ≠ b2; omega)).trans h4, row_beside h2 h5 (fun v hv e => ?_)⟩
          obtain ⟨x, _, rfl⟩ := List.mem_map.1 hv
          cases e
      by_cases k8 : k < 8
      · have hd8 : decide ((k : Int) < 8) = true := by simp; omega
        have hpow : IntKind.u64.wrap ((2 : Int) ^ (8 * k)) = (M : Int) := by
          have h1 : ((2 : Int) ^ (8 * k)) = ((256 ^ k : Nat) : Int) := by rw [Int.pow_mul, Int.natCast_pow]; rfl
          have h2 : 256 ^ k ≤ 256 ^ 7 := Nat.pow_le_pow_right (by omega) (by omega)
          rw [h1, hM]; exact IntWalk.u64_in _ (by omega)
        have hMp : 0 < M := by rw [hM]; exact Nat.pow_pos (by omega)
        have hMne : ¬ ((M : Int) = 0) := by omega
        have hlow : (n.toNat : Int) % (M : Int) = ((n.toNat % M : Nat) : Int) := (Int.natCast_emod _ _).symm
        generalize n.toNat % M = q at hlow hnum
        clear hM
        go_wp2_with fail
        refine hnum.out.mono ?_
        rintro e w' ⟨rfl, hr', hg', hs'⟩
        obtain ⟨f1, f2, f3, f4⟩ := hfin w' hg' hs'
        have f5 := f4 _ hr'
        go_wp2_with fail
        go_roundw
        case rel => exact ⟨j + 1, by omega, by go_num, f5, f3, by rw [size_setCell]; omega⟩
        case measure => simp [intOf]; omega
      · obtain rfl : k = 8 := by omega
        have hlow : ((n.toNat % M : Nat) : Int) = (n.toNat : Int) := by rw [hM]; congr 1; exact Nat.mod_eq_of_lt (by omega)
        rw [hlow] at hnum
        clear hM hlow
        go_wp2_with fail
        refine hnum.out.mono ?_
        rintro e w' ⟨rfl, hr', hg', hs'⟩
        obtain ⟨f1, f2, f3, f4⟩ := hfin w' hg' hs'
        have f5 := f4 _ hr'
        go_wp2_with fail
        go_roundw
        case rel => exact ⟨j + 1, by omega, by go_num, f5, f3, by rw [size_setCell]; omega⟩
        case measure => simp [intOf]; omega
    · obtain rfl : j = ns.length := by omega
      have hdd : decide (ns.length < ns.length) = false := by simp
      have hrd2 : Rdr wr g behind := by simpa [beL_nil] using hrd
      clear hrd
      go_wp2
      go_end0
      exact ⟨rfl, hrd2, hgr, hsz⟩
end Go.Proofs.Ytechpojcbhnfgaa
