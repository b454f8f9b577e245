/- Walk: the bytes of options, by the document. -/
import Derived.Test.YthnidgiogjehkaaKept
import Derived.Test.YthnidgiogjehkaaOctR
import Derived.Test.YthnidgiogjehkaaBuf
import Derived.Test.YthnidgiogjehkaaRegM
import Derived.Test.YthnidgiogjehkaaBlk
import Derived.Lib.Builder
import Derived.Deep.DeepCutAuto
namespace Go.Proofs.Ythnidgiogjehkaa
set_option linter.unusedVariables false
set_option linter.unusedSimpArgs false
set_option maxRecDepth 20000
open Go.RowKit

/-- Blocks of cells that are no bytes stay. -/
def KeepN (w w' : World) : Prop := ∀ (k : Nat) (cs : Array Value) (T : TypeId) (fr : Nat × Nat), T ≠ 5 → w.heap[k]? = some (.cells cs T fr) → w'.heap[k]? = some (.cells cs T fr)
theorem KeepN.trans {w w' w'' : World} (h : KeepN w w') (h' : KeepN w' w'') : KeepN w w'' := fun k cs T fr hT hc => h' k cs T fr hT (h k cs T fr hT hc)
theorem KeepN.below {w w' : World} (h : Below w.heap.size w w') : KeepN w w' := fun k cs T fr _ hc => (h.block k (Array.getElem?_eq_some_iff.1 hc).1).trans hc
/-- An append of bytes leaves blocks of other cells. -/
theorem wp_append8K {o : Oper} {a : Act} {K : Act → World → Prop} {Q : Exit → Act → World → Prop} (s x : Operand) (base : Nat) (xs ys zs : List UInt8) (hz : xs ++ ys = zs) {v u : Value} {w : World} (hg : o.guard = none)
    (ho : o.op = .call { callee := .builtin .append, args := #[s, x], argTypes := #[32, 32] })
    (hs : a.eval s = v) (hx : a.eval x = u) (hown : OB w base v xs) (hr : RB w u ys) (hlen : xs.length + ys.length ≤ 70368744177664) (hbase : base ≤ w.heap.size)
    (h : ∀ A' c' w', OB w' base (.slice A' zs.length c') zs → Below base w w' → KeepN w w' → K (a.put o.dst (.slice A' zs.length c')) w') : o.wp Try.prog a w K Q := by
  have hw : Region.wanted o (yielded #[] a.tmps) = true := by simp [Region.wanted, hg]
  have h1 := step_append_u8 (ops := #[]) (E := True) (Q := Q) s x base xs ys zs hz hw ho hs hx hown hr hlen hbase fun A' c' w' h1 h2 h3 _ => h A' c' w' h1 h2 fun k cs T fr hT hc => (h3.block k (Array.getElem?_eq_some_iff.1 hc).1 (fun e => Lib.ownBlock_ne hown hc hT e.symm)).trans hc
  rwa [if_pos hw] at h1
theorem lit64_2 (x y : Int) : ∀ w, (Instr.buildSlice 86 2 #[(0, .int .u64 x), (1, .int .u64 y)]).run Try.prog w = .ok (.slice (some ⟨w.heap.size, 0, none⟩) 2 2) (w.alloc (.cells #[.int .u64 x, .int .u64 y] 60)) := by intro w; kernel_rfl
def b1O (o : OptM) : List UInt8 := if o.hasMSS then [2, 4] ++ beB 2 o.mss else []
def b2O (o : OptM) (l : List UInt8) : List UInt8 := if o.hasScale then l ++ [3, 3, UInt8.ofNat o.scale] else l
def b3O (o : OptM) (l : List UInt8) : List UInt8 := if o.sackOK then l ++ [4, 2] else l
def b4O (o : OptM) (l : List UInt8) : List UInt8 := if o.hasTime then (l ++ [8, 10]) ++ (beB 4 o.val ++ beB 4 o.echo) else l
def sackB (ss : List (Nat × Nat)) : List UInt8 := ss.flatMap fun x => beB 4 x.1 ++ beB 4 x.2
def b5O (o : OptM) (l : List UInt8) : List UInt8 := if decide (0 < o.sacks.length) then (l ++ [5, UInt8.ofNat (2 + 8 * o.sacks.length)]) ++ sackB o.sacks else l
def b6O (o : OptM) (l : List UInt8) : List UInt8 := if o.hasAO then (l ++ [29, 16, UInt8.ofNat o.key, UInt8.ofNat o.next]) ++ o.mac else l
def padO (l : List UInt8) : List UInt8 := l ++ List.replicate ((4 - l.length % 4) % 4) 0
/-- The bytes of options. -/
def bytesO (o : OptM) : List UInt8 := padO (b6O o (b5O o (b4O o (b3O o (b2O o (b1O o))))))
theorem sackB_len (ss : List (Nat × Nat)) : (sackB ss).length = 8 * ss.length := by
  induction ss with
  | nil => rfl
  | cons x xs ih => simp only [sackB, List.flatMap_cons, List.length_append, beB_length, List.length_cons] at *; omega
theorem sackB_take (ss : List (Nat × Nat)) (k : Nat) (h : k < ss.length) : sackB (ss.take (k + 1)) = sackB (ss.take k) ++ (beB 4 (ss.getD k (0, 0)).1 ++ beB 4 (ss.getD k (0, 0)).2) := by
  unfold sackB
  rw [List.take_add_one, List.flatMap_append]
  simp [List.getD_eq_getElem?_getD, List.getElem?_eq_getElem h]
theorem slice_mac12 (xb : Nat) (W : World) : (Instr.sliceAt 29 (.pointer (some ⟨xb, 12, none⟩)) none none none).run Try.prog W = .ok (.slice (some ⟨xb, 12, none⟩) 12 12) W := by
  have hl : Try.prog.arrayLen 29 = 12 := by kernel_rfl
  have he : Try.prog.elem 29 = 5 := by kernel_rfl
  have hz : (Go.sizeOf 5).run Try.prog W = .ok 1 W := by kernel_rfl
  rw [run_sliceAt_array_all W 29 ⟨xb, 12, none⟩ (by rw [hl, he]; exact Try.underlying29), hl, he, hz]
  rfl
theorem put4_two (x y : Nat) (hx : x < 18446744073709551616) (hy : y < 18446744073709551616) : beL (clampN 4) [UInt64.ofNat x, UInt64.ofNat y] = beB 4 x ++ beB 4 y := by
  have hn : (UInt64.ofNat x).toNat = x := by rw [UInt64.toNat_ofNat']; omega
  have hm : (UInt64.ofNat y).toNat = y := by rw [UInt64.toNat_ofNat']; omega
  simp only [beL, List.flatMap_cons, List.flatMap_nil, List.append_nil, hn, hm]
  rfl
theorem RN.lit2 {w : World} {b : Nat} {x y : Nat} {T : TypeId} (h : w.heap[b]? = some (.cells #[.int .u64 (x : Int), .int .u64 (y : Int)] T (0, 0))) (hx : x < 18446744073709551616) (hy : y < 18446744073709551616) : RN w (.slice (some ⟨b, 0, none⟩) 2 2) [UInt64.ofNat x, UInt64.ofNat y] := by
  have nx : (UInt64.ofNat x).toNat = x := by rw [UInt64.toNat_ofNat']; omega
  have ny : (UInt64.ofNat y).toNat = y := by rw [UInt64.toNat_ofNat']; omega
  refine ⟨_, 2, rfl, by simp [by64], Nat.le_refl _, by omega, fun k v hv => ⟨_, rfl, ?_⟩⟩
  have : (⟨b, 0, none⟩ : Addr).add k = ⟨b, k, none⟩ := by unfold Addr.add; split <;> simp_all
  rw [this, cell_of_row w b k _ T (0, 0) h]
  simp only [by64, List.map_cons, List.map_nil, v64, nx, ny] at hv
  simpa using hv
set_option maxRecDepth 20000 in
set_option maxHeartbeats 8000000 in
theorem bytes12_any (o : OptM) (w : World) (ho : OptOk w o) (hsl : o.sacks.length ≤ 1000) :
    Calls Try.prog 59 #[.agg o.cells] w fun e w' => ∃ A c, e = .returned (.slice A (bytesO o).length c) ∧ OB w' w.heap.size (.slice A (bytesO o).length c) (bytesO o) ∧ Below w.heap.size w w' := by
  have HPC := hid (fun (W : World) (g : Nat) (h : W.heap[g]? = some (.cells o.cells 31 (0, 0))) => opt_cells h)
  have HPM := hid (fun (W : World) (g : Nat) (h : W.heap[g]? = some (.cells o.cells 31 (0, 0))) => opt_mac h ho.mac)
  obtain ⟨k1, k2, k3, k4, k5, k6⟩ : o.mss < 65536 ∧ o.scale < 256 ∧ o.val < 4294967296 ∧ o.echo < 4294967296 ∧ o.key < 256 ∧ o.next < 256 := ⟨ho.mss, ho.scale, ho.val, ho.echo, ho.key, ho.next⟩
  have HRW := hid (fun W (h : Below w.heap.size w W) => ho.row.below h)
  have HOK := hid ho.ok
  have HML := hid ho.mac
  unfold bytesO
  generalize hl1 : b1O o = l1
  generalize hl2 : b2O o l1 = l2
  generalize hl3 : b3O o l2 = l3
  generalize hl4 : b4O o l3 = l4
  generalize hl5 : b5O o l4 = l5
  generalize hl6 : b6O o l5 = l6
  have H1 := hid hl1
  have H2 := hid hl2
  have H3 := hid hl3
  have H4 := hid hl4
  have H5 := hid hl5
  have H6 := hid hl6
  have HSL := hid hsl
  have n1 : l1.length ≤ 4 := by rw [← hl1, b1O]; split <;> simp [beB_length]
  have n2 : l2.length ≤ 7 := by rw [← hl2, b2O]; split <;> (try simp) <;> omega
  have n3 : l3.length ≤ 9 := by rw [← hl3, b3O]; split <;> (try simp) <;> omega
  have n4 : l4.length ≤ 19 := by rw [← hl4, b4O]; split <;> (try simp [beB_length]) <;> omega
  have BL_l1 := hid (show l1.length ≤ 1000000 by omega)
  have BL_l2 := hid (show l2.length ≤ 1000000 by omega)
  have BL_l3 := hid (show l3.length ≤ 1000000 by omega)
  have BL_l4 := hid (show l4.length ≤ 1000000 by omega)
  have n5 : l5.length ≤ 9000 := by rw [← hl5, b5O]; split <;> (try simp [sackB_len]) <;> omega
  have n6 : l6.length ≤ 9100 := by rw [← hl6, b6O]; split <;> (try simp [ho.mac]) <;> omega
  have LL5 := hid (show l5.length ≤ 1000000 by omega)
  have LL6 := hid (show l6.length ≤ 1000000 by omega)
  clear n1 n2 n3 n4 n5 n6
  clear hl1 hl2 hl3 hl4 hl5 hl6 ho hsl
  obtain ⟨A0, hA0⟩ : ∃ x, o.A = x := ⟨_, rfl⟩
  rw [hA0] at HPC HRW
  clear hA0
  generalize hco : o.cells = co at HPC HPM ⊢
  clear hco
  obtain ⟨B, hB⟩ : ∃ B, w.heap.size = B := ⟨_, rfl⟩
  rw [hB] at HRW
  have HB := hid hB
  clear hB
  go_enter Try.func59, Try.ntmps59
  go_upto_if 6 with ((with_reducible refine at_slot 1 ?_); refine wpList_boxF rfl 31 (.tmp 0) rfl co rfl ?_; intro w1 hx1 hb1 hz1; rw [HB.out] at hx1 hb1 hz1 ⊢; obtain ⟨e0, e1, e2, e3, e4, e5, e6, e7, e8, e9, e10, e11⟩ := HPC.out w1 B hx1)
  have hsz : B + 1 ≤ w1.heap.size := by omega
  go_cut [3] (fun s3 wx => ∃ (A : Option Addr) (c : Nat), s3 = .slice A l1.length c ∧ OB wx (B + 1) (.slice A l1.length c) l1 ∧ wx.heap[B]? = some (.cells co 31 (0, 0)) ∧ Below B w wx)
  case first =>
    cases hm : o.hasMSS
    · have hn : l1 = [] := by rw [← H1.out, b1O, hm]; rfl
      have HN := hid hn
      clear hn hm
      go_wp2_with fail
      go_meet
      case rel => exact ⟨none, 0, by rw [HN.out]; rfl, by rw [HN.out]; exact OB.nil _ _, hx1, hb1⟩
    · obtain ⟨X2, hX2⟩ : ∃ X, ([2, 4] : List UInt8) = X := ⟨_, rfl⟩
      have hn : X2 ++ beB 2 o.mss = l1 := by rw [← hX2, ← H1.out, b1O, hm]; rfl
      have hxl : X2.length = 2 := by rw [← hX2]; rfl
      have HP := hid fun W v1 v2 (g1 : RB W v1 X2) (g2 : RN W v2 [UInt64.ofNat o.mss]) => rput_any v1 v2 X2 2 [UInt64.ofNat o.mss] W g1 g2 (by omega) (by omega) (by rw [hxl]; simp)
      rw [put2_one o.mss (by omega), hn] at HP
      have HX2 := hid hX2
      clear hn hm hz1 hX2 hxl e0 e1 e2 e3 e4 e5 e6 e7 e8 e9 e10 e11
      go_wp2_with fail
      have x1 : IntKind.u64.wrap (o.mss : Int) = (o.mss : Int) := by rw [IntKind.wrap_u64]; omega
      have hS0 : ({ w1 with drawn := w1.drawn + 1 } : World).heap[B]? = some (.cells co 31 (0, 0)) := hx1
      refine wp_region_hand (fun W' => W'.heap[B]? = some (.cells co 31 (0, 0))) (by kernel_rfl) hS0 ?_
      intro hS
      have ho : OB ({ w1 with drawn := w1.drawn + 1 } : World) (B + 1) (.slice none 0 0) [] := OB.nil _ _
      have hb : Below B w ({ w1 with drawn := w1.drawn + 1 } : World) := below_drewN hb1 1
      replace hsz : B + 1 ≤ ({ w1 with drawn := w1.drawn + 1 } : World).heap.size := hsz
      clear hS0 hx1 hb1
      generalize ({ w1 with drawn := w1.drawn + 1 } : World) = u at hS ho hb hsz ⊢
      refine wpAnyH_take (i := 0) (oi := ⟨some 7, _, _, _, _, _⟩) (v := ?_) rfl (by kernel_rfl) (by kernel_rfl) (by kernel_rfl) (fun _ _ _ h => h) (Or.inl ⟨by rfl, ?_⟩) hS ?_
      rotate_left 1
      focus ((intro W' hS'; go_simp) <;> with_reducible rfl)
      try simp only [Act.put, List.setIfInBounds_toArray, List.set_cons_zero, List.set_cons_succ]
      refine wpAnyH_take (i := 3) (oi := ⟨some 10, _, _, _, _, _⟩) (v := ?_) rfl (by kernel_rfl) (by kernel_rfl) (by kernel_rfl) (fun _ _ _ h => h) (Or.inl ⟨by rfl, ?_⟩) hS ?_
      rotate_left 1
      focus ((intro W' hS'; go_simp) <;> with_reducible rfl)
      try simp only [Act.put, List.setIfInBounds_toArray, List.set_cons_zero, List.set_cons_succ]
      refine wpAnyH_take (i := 4) (oi := ⟨some 11, _, _, _, _, _⟩) (v := ?_) rfl (by kernel_rfl) (by kernel_rfl) (by kernel_rfl) (fun _ _ _ h => h) (Or.inl ⟨by rfl, ?_⟩) hS ?_
      rotate_left 1
      focus ((intro W' hS'; have q1 := (HPC.out W' B hS').2.1; go_simp) <;> with_reducible rfl)
      try simp only [Act.put, List.setIfInBounds_toArray, List.set_cons_zero, List.set_cons_succ]
      refine wpAnyH_take (i := 5) (oi := ⟨some 12, _, _, _, _, _⟩) (v := ?_) rfl (by kernel_rfl) (by kernel_rfl) (by kernel_rfl) (fun _ _ _ h => h) (Or.inl ⟨by rfl, ?_⟩) hS ?_
      rotate_left 1
      focus ((intro W' hS'; have q1 := x1; go_simp) <;> with_reducible rfl)
      try simp only [Act.put, List.setIfInBounds_toArray, List.set_cons_zero, List.set_cons_succ]
      refine anyH_two (i := 1) (j := 6) (by kernel_rfl) (op_in ⟨some 8, _, _, _, _, _⟩ rfl (by rfl) ?_) (op_in ⟨some 13, _, _, _, _, _⟩ rfl (by rfl) ?_)
      · refine wp_litF 32 5 2 _ rfl #[(0, .int .u8 2), (1, .int .u8 4)] (by simp [Act.eval, Act.put]) _ (lit8_2 2 4) ?_
        intro u8 h8 hb8 z8
        have hr8 := RB.lit h8 rfl (by simp) rfl (xs := [2, 4])
        replace hS := KeepN.below hb8 B _ _ _ (by decide) hS
        replace ho := OB.below ho hb8
        replace hb := hb.trans (hb8.mono (by have := hb.size; have := HB.out; omega))
        try replace h13 := KeepN.below hb8 _ _ _ _ (by decide) h13
        replace hsz : B + 1 ≤ _ := Nat.le_trans hsz hb8.size
        clear h8 z8 hb8
        refine ⟨hS, ?_⟩
        try simp only [Act.put, List.setIfInBounds_toArray, List.set_cons_zero, List.set_cons_succ]
        refine anyH_two (i := 2) (j := 6) (by kernel_rfl) (op_in ⟨some 9, _, _, _, _, _⟩ rfl (by rfl) ?_) (op_in ⟨some 13, _, _, _, _, _⟩ rfl (by rfl) ?_)
        · refine wp_append8K (.tmp 7) (.tmp 8) (B + 1) [] [2, 4] X2 (HX2.out) rfl rfl rfl rfl ho hr8 (by decide) hsz ?_
          intro A9 c9 u9 ho9 hb9 hk9
          replace hS := hk9 B _ _ _ (by decide) hS
          try replace h13 := hk9 _ _ _ _ (by decide) h13
          replace hb := hb.trans (hb9.mono (by omega))
          replace hsz : B + 1 ≤ _ := Nat.le_trans hsz hb9.size
          clear ho hr8 hb9 hk9
          refine ⟨hS, ?_⟩
          try simp only [Act.put, List.setIfInBounds_toArray, List.set_cons_zero, List.set_cons_succ]
          refine anyH_one (i := 6) (by kernel_rfl) ⟨some 13, _, _, _, _, _⟩ rfl (by rfl) ?_
          refine wp_litF 86 60 1 _ rfl #[(0, .int .u64 (o.mss : Int))] (by simp [Act.eval, Act.put]) _ (lit64_1 _) ?_
          intro u13 h13 hb13 z13
          replace hS := KeepN.below hb13 B _ _ _ (by decide) hS
          try replace ho := OB.below ho hb13
          try replace hr8 := RB.below hr8 hb13
          try replace ho9 := OB.below ho9 hb13
          replace hb := hb.trans (hb13.mono (by have := hb.size; have := HB.out; omega))
          replace hsz : B + 1 ≤ _ := Nat.le_trans hsz hb13.size
          clear z13 hb13
          refine ⟨hS, ?_⟩
          try simp only [Act.put, List.setIfInBounds_toArray, List.set_cons_zero, List.set_cons_succ]
          refine anyH_one (i := 7) (by kernel_rfl) ⟨some 14, _, _, _, _, _⟩ rfl (by rfl) ?_
          go_simp
          with_reducible refine Calls.mono (HP.out _ _ _ ho9.rb (RN.lit1 h13 (by omega))) ?_
          rintro e u14 ⟨A14, c14, rfl, ho14, hb14⟩
          replace hS := KeepN.below hb14 B _ _ _ (by decide) hS
          replace ho14 := OB.lower ho14 hsz
          replace hb := hb.trans (hb14.mono (by have := hb.size; have := HB.out; omega))
          clear hb14 ho9 h13
          refine ⟨hS, ?_⟩
          try simp only [Act.put, List.setIfInBounds_toArray, List.set_cons_zero, List.set_cons_succ]
          refine wpAnyH_take (i := 8) (oi := ⟨some 3, _, _, _, _, _⟩) (v := ?_) rfl (by kernel_rfl) (by kernel_rfl) (by kernel_rfl) (fun _ _ _ h => h) (Or.inl ⟨by rfl, ?_⟩) hS ?_
          rotate_left 1
          focus ((intro W' hS'; go_simp) <;> with_reducible rfl)
          try simp only [Act.put, List.setIfInBounds_toArray, List.set_cons_zero, List.set_cons_succ]
          refine wpAnyH_done (by kernel_rfl) ?_ _
          go_wp2_with fail
          go_meet
          case rel => exact ⟨A14, c14, rfl, ho14, hS, hb⟩
        · refine wp_litF 86 60 1 _ rfl #[(0, .int .u64 (o.mss : Int))] (by simp [Act.eval, Act.put]) _ (lit64_1 _) ?_
          intro u13 h13 hb13 z13
          replace hS := KeepN.below hb13 B _ _ _ (by decide) hS
          try replace ho := OB.below ho hb13
          try replace hr8 := RB.below hr8 hb13
          try replace ho9 := OB.below ho9 hb13
          replace hb := hb.trans (hb13.mono (by have := hb.size; have := HB.out; omega))
          replace hsz : B + 1 ≤ _ := Nat.le_trans hsz hb13.size
          clear z13 hb13
          refine ⟨hS, ?_⟩
          try simp only [Act.put, List.setIfInBounds_toArray, List.set_cons_zero, List.set_cons_succ]
          refine anyH_one (i := 2) (by kernel_rfl) ⟨some 9, _, _, _, _, _⟩ rfl (by rfl) ?_
          refine wp_append8K (.tmp 7) (.tmp 8) (B + 1) [] [2, 4] X2 (HX2.out) rfl rfl rfl rfl ho hr8 (by decide) hsz ?_
          intro A9 c9 u9 ho9 hb9 hk9
          replace hS := hk9 B _ _ _ (by decide) hS
          try replace h13 := hk9 _ _ _ _ (by decide) h13
          replace hb := hb.trans (hb9.mono (by omega))
          replace hsz : B + 1 ≤ _ := Nat.le_trans hsz hb9.size
          clear ho hr8 hb9 hk9
          refine ⟨hS, ?_⟩
          try simp only [Act.put, List.setIfInBounds_toArray, List.set_cons_zero, List.set_cons_succ]
          refine anyH_one (i := 7) (by kernel_rfl) ⟨some 14, _, _, _, _, _⟩ rfl (by rfl) ?_
          go_simp
          with_reducible refine Calls.mono (HP.out _ _ _ ho9.rb (RN.lit1 h13 (by omega))) ?_
          rintro e u14 ⟨A14, c14, rfl, ho14, hb14⟩
          replace hS := KeepN.below hb14 B _ _ _ (by decide) hS
          replace ho14 := OB.lower ho14 hsz
          replace hb := hb.trans (hb14.mono (by have := hb.size; have := HB.out; omega))
          clear hb14 ho9 h13
          refine ⟨hS, ?_⟩
          try simp only [Act.put, List.setIfInBounds_toArray, List.set_cons_zero, List.set_cons_succ]
          refine wpAnyH_take (i := 8) (oi := ⟨some 3, _, _, _, _, _⟩) (v := ?_) rfl (by kernel_rfl) (by kernel_rfl) (by kernel_rfl) (fun _ _ _ h => h) (Or.inl ⟨by rfl, ?_⟩) hS ?_
          rotate_left 1
          focus ((intro W' hS'; go_simp) <;> with_reducible rfl)
          try simp only [Act.put, List.setIfInBounds_toArray, List.set_cons_zero, List.set_cons_succ]
          refine wpAnyH_done (by kernel_rfl) ?_ _
          go_wp2_with fail
          go_meet
          case rel => exact ⟨A14, c14, rfl, ho14, hS, hb⟩
      · refine wp_litF 86 60 1 _ rfl #[(0, .int .u64 (o.mss : Int))] (by simp [Act.eval, Act.put]) _ (lit64_1 _) ?_
        intro u13 h13 hb13 z13
        replace hS := KeepN.below hb13 B _ _ _ (by decide) hS
        try replace ho := OB.below ho hb13
        try replace hr8 := RB.below hr8 hb13
        try replace ho9 := OB.below ho9 hb13
        replace hb := hb.trans (hb13.mono (by have := hb.size; have := HB.out; omega))
        replace hsz : B + 1 ≤ _ := Nat.le_trans hsz hb13.size
        clear z13 hb13
        refine ⟨hS, ?_⟩
        try simp only [Act.put, List.setIfInBounds_toArray, List.set_cons_zero, List.set_cons_succ]
        refine anyH_one (i := 1) (by kernel_rfl) ⟨some 8, _, _, _, _, _⟩ rfl (by rfl) ?_
        refine wp_litF 32 5 2 _ rfl #[(0, .int .u8 2), (1, .int .u8 4)] (by simp [Act.eval, Act.put]) _ (lit8_2 2 4) ?_
        intro u8 h8 hb8 z8
        have hr8 := RB.lit h8 rfl (by simp) rfl (xs := [2, 4])
        replace hS := KeepN.below hb8 B _ _ _ (by decide) hS
        replace ho := OB.below ho hb8
        replace hb := hb.trans (hb8.mono (by have := hb.size; have := HB.out; omega))
        try replace h13 := KeepN.below hb8 _ _ _ _ (by decide) h13
        replace hsz : B + 1 ≤ _ := Nat.le_trans hsz hb8.size
        clear h8 z8 hb8
        refine ⟨hS, ?_⟩
        try simp only [Act.put, List.setIfInBounds_toArray, List.set_cons_zero, List.set_cons_succ]
        refine anyH_one (i := 2) (by kernel_rfl) ⟨some 9, _, _, _, _, _⟩ rfl (by rfl) ?_
        refine wp_append8K (.tmp 7) (.tmp 8) (B + 1) [] [2, 4] X2 (HX2.out) rfl rfl rfl rfl ho hr8 (by decide) hsz ?_
        intro A9 c9 u9 ho9 hb9 hk9
        replace hS := hk9 B _ _ _ (by decide) hS
        try replace h13 := hk9 _ _ _ _ (by decide) h13
        replace hb := hb.trans (hb9.mono (by omega))
        replace hsz : B + 1 ≤ _ := Nat.le_trans hsz hb9.size
        clear ho hr8 hb9 hk9
        refine ⟨hS, ?_⟩
        try simp only [Act.put, List.setIfInBounds_toArray, List.set_cons_zero, List.set_cons_succ]
        refine anyH_one (i := 7) (by kernel_rfl) ⟨some 14, _, _, _, _, _⟩ rfl (by rfl) ?_
        go_simp
        with_reducible refine Calls.mono (HP.out _ _ _ ho9.rb (RN.lit1 h13 (by omega))) ?_
        rintro e u14 ⟨A14, c14, rfl, ho14, hb14⟩
        replace hS := KeepN.below hb14 B _ _ _ (by decide) hS
        replace ho14 := OB.lower ho14 hsz
        replace hb := hb.trans (hb14.mono (by have := hb.size; have := HB.out; omega))
        clear hb14 ho9 h13
        refine ⟨hS, ?_⟩
        try simp only [Act.put, List.setIfInBounds_toArray, List.set_cons_zero, List.set_cons_succ]
        refine wpAnyH_take (i := 8) (oi := ⟨some 3, _, _, _, _, _⟩) (v := ?_) rfl (by kernel_rfl) (by kernel_rfl) (by kernel_rfl) (fun _ _ _ h => h) (Or.inl ⟨by rfl, ?_⟩) hS ?_
        rotate_left 1
        focus ((intro W' hS'; go_simp) <;> with_reducible rfl)
        try simp only [Act.put, List.setIfInBounds_toArray, List.set_cons_zero, List.set_cons_succ]
        refine wpAnyH_done (by kernel_rfl) ?_ _
        go_wp2_with fail
        go_meet
        case rel => exact ⟨A14, c14, rfl, ho14, hS, hb⟩
  case rest =>
    obtain ⟨A, c, rfl, ho, hS, hb⟩ := hcut
    clear e0 e1 e2 e3 e4 e5 e6 e7 e8 e9 e10 e11
    obtain ⟨e0, e1, e2, e3, e4, e5, e6, e7, e8, e9, e10, e11⟩ := HPC.out _ B hS
    have hsz : B + 1 ≤ wc.heap.size := (Array.getElem?_eq_some_iff.1 hS).1
    obtain ⟨D, hD⟩ : ∃ D, UInt8.ofNat o.scale = D := ⟨_, rfl⟩
    have hDn : (o.scale : Int) = (D.toNat : Int) := by rw [← hD, UInt8.toNat_ofNat']; omega
    rw [hDn] at e3
    have H2' := hid (show (if o.hasScale then l1 ++ [3, 3, D] else l1) = l2 by rw [← H2.out, b2O, hD])
    clear hDn hD
    go_upto_if 16 with fail
    go_cut [3] (fun s3 wx => ∃ (A : Option Addr) (c : Nat), s3 = .slice A l2.length c ∧ OB wx (B + 1) (.slice A l2.length c) l2 ∧ wx.heap[B]? = some (.cells co 31 (0, 0)) ∧ Below B w wx)
    case first =>
      cases hm : o.hasScale
      · have hn : l2 = l1 := by rw [← H2'.out, hm]; rfl
        have HN := hid hn
        clear hn hm
        go_wp2_with fail
        go_meet
        case rel => exact ⟨A, c, by rw [HN.out], by rw [HN.out]; exact ho, hS, hb⟩
      · have hn : l1 ++ [3, 3, D] = l2 := by rw [← H2'.out, hm]; rfl
        have HN := hid hn
        clear hn hm
        have HO2 := hid (OB.below ho (bl1 wc (.cells #[.int .u8 3, .int .u8 3, .int .u8 (D.toNat : Int)] 5)))
        have HR2 := hid (RB.lit (nw1 wc (.cells #[.int .u8 3, .int .u8 3, .int .u8 (D.toNat : Int)] 5)) rfl (by simp) rfl (xs := [3, 3, D]))
        have HS2 := hid (KeepN.below (bl1 wc (.cells #[.int .u8 3, .int .u8 3, .int .u8 (D.toNat : Int)] 5)) B _ _ _ (by decide) hS)
        have HB2 := hid (hb.trans ((bl1 wc (.cells #[.int .u8 3, .int .u8 3, .int .u8 (D.toNat : Int)] 5)).mono (by have := hb.size; have := HB.out; omega)))
        have HZ2 := hid (show B + 1 ≤ (wc.alloc (.cells #[.int .u8 3, .int .u8 3, .int .u8 (D.toNat : Int)] 5)).heap.size from Nat.le_trans hsz (bl1 wc (.cells #[.int .u8 3, .int .u8 3, .int .u8 (D.toNat : Int)] 5)).size)
        have HLN := hid (show l1.length ≤ 1000000 from BL_l1.out)
        clear ho hS hb hsz
        go_wp2_with ((with_reducible refine at_slot 21 ?_); refine append_u8 (.tmp 17) (.tmp 20) (B + 1) l1 [3, 3, D] l2 HN.out rfl rfl rfl rfl HO2.out HR2.out (by have := HLN.out; simp only [List.length_cons, List.length_nil]; omega) HZ2.out ?_; intro A3 c3 w3 ho3 hb3 hg3 _; have hS3 := (hb3.block B (by omega)).trans HS2.out; have hbb3 := HB2.out.trans (hb3.mono (by omega)); clear hb3 hg3)
        go_meet
        case rel => exact ⟨A3, c3, rfl, ho3, hS3, hbb3⟩
    case rest =>
      obtain ⟨A, c, rfl, ho, hS, hb⟩ := hcut
      clear e0 e1 e2 e3 e4 e5 e6 e7 e8 e9 e10 e11
      obtain ⟨e0, e1, e2, e3, e4, e5, e6, e7, e8, e9, e10, e11⟩ := HPC.out _ B hS
      have hsz : B + 1 ≤ wc.heap.size := (Array.getElem?_eq_some_iff.1 hS).1
      go_upto_if 23 with fail
      go_cut [3] (fun s3 wx => ∃ (A : Option Addr) (c : Nat), s3 = .slice A l3.length c ∧ OB wx (B + 1) (.slice A l3.length c) l3 ∧ wx.heap[B]? = some (.cells co 31 (0, 0)) ∧ Below B w wx)
      case first =>
        cases hm : o.sackOK
        · have hn : l3 = l2 := by rw [← H3.out, b3O, hm]; rfl
          have HN := hid hn
          clear hn hm
          go_wp2_with fail
          go_meet
          case rel => exact ⟨A, c, by rw [HN.out], by rw [HN.out]; exact ho, hS, hb⟩
        · have hn : l2 ++ [4, 2] = l3 := by rw [← H3.out, b3O, hm]; rfl
          have HN := hid hn
          clear hn hm
          have HO2 := hid (OB.below ho (bl1 wc (.cells #[.int .u8 4, .int .u8 2] 5)))
          have HR2 := hid (RB.lit (nw1 wc (.cells #[.int .u8 4, .int .u8 2] 5)) rfl (by simp) rfl (xs := [4, 2]))
          have HS2 := hid (KeepN.below (bl1 wc (.cells #[.int .u8 4, .int .u8 2] 5)) B _ _ _ (by decide) hS)
          have HB2 := hid (hb.trans ((bl1 wc (.cells #[.int .u8 4, .int .u8 2] 5)).mono (by have := hb.size; have := HB.out; omega)))
          have HZ2 := hid (show B + 1 ≤ (wc.alloc (.cells #[.int .u8 4, .int .u8 2] 5)).heap.size from Nat.le_trans hsz (bl1 wc (.cells #[.int .u8 4, .int .u8 2] 5)).size)
          have HLN := hid (show l2.length ≤ 1000000 from BL_l2.out)
          clear ho hS hb hsz
          go_wp2_with ((with_reducible refine at_slot 26 ?_); refine append_u8 (.tmp 24) (.tmp 25) (B + 1) l2 [4, 2] l3 HN.out rfl rfl rfl rfl HO2.out HR2.out (by have := HLN.out; simp only [List.length_cons, List.length_nil]; omega) HZ2.out ?_; intro A3 c3 w3 ho3 hb3 hg3 _; have hS3 := (hb3.block B (by omega)).trans HS2.out; have hbb3 := HB2.out.trans (hb3.mono (by omega)); clear hb3 hg3)
          go_meet
          case rel => exact ⟨A3, c3, rfl, ho3, hS3, hbb3⟩
      case rest =>
        obtain ⟨A, c, rfl, ho, hS, hb⟩ := hcut
        clear e0 e1 e2 e3 e4 e5 e6 e7 e8 e9 e10 e11
        obtain ⟨e0, e1, e2, e3, e4, e5, e6, e7, e8, e9, e10, e11⟩ := HPC.out _ B hS
        have hsz : B + 1 ≤ wc.heap.size := (Array.getElem?_eq_some_iff.1 hS).1
        go_upto_if 28 with fail
        go_cut [3] (fun s3 wx => ∃ (A : Option Addr) (c : Nat), s3 = .slice A l4.length c ∧ OB wx (B + 1) (.slice A l4.length c) l4 ∧ wx.heap[B]? = some (.cells co 31 (0, 0)) ∧ Below B w wx)
        case first =>
          cases hm : o.hasTime
          · have hn : l4 = l3 := by rw [← H4.out, b4O, hm]; rfl
            have HN := hid hn
            clear hn hm
            go_wp2_with fail
            go_meet
            case rel => exact ⟨A, c, by rw [HN.out], by rw [HN.out]; exact ho, hS, hb⟩
          · obtain ⟨X4, hX4⟩ : ∃ X, l3 ++ ([8, 10] : List UInt8) = X := ⟨_, rfl⟩
            have hn : X4 ++ (beB 4 o.val ++ beB 4 o.echo) = l4 := by rw [← hX4, ← H4.out, b4O, hm]; rfl
            have hxl : X4.length ≤ 1000002 := by rw [← hX4, List.length_append]; have := BL_l3.out; simp only [List.length_cons, List.length_nil]; omega
            have HP := hid fun W v1 v2 (g1 : RB W v1 X4) (g2 : RN W v2 [UInt64.ofNat o.val, UInt64.ofNat o.echo]) => rput_any v1 v2 X4 4 [UInt64.ofNat o.val, UInt64.ofNat o.echo] W g1 g2 (by omega) (by omega) (by simp only [List.length_cons, List.length_nil]; omega)
            rw [put4_two o.val o.echo (by omega) (by omega), hn] at HP
            have HX4 := hid hX4
            clear hn hm hX4 hxl e0 e1 e2 e3 e4 e5 e6 e7 e8 e9 e10 e11
            go_wp2_with fail
            have x1 : IntKind.u64.wrap (o.val : Int) = (o.val : Int) := by rw [IntKind.wrap_u64]; omega
            have x2 : IntKind.u64.wrap (o.echo : Int) = (o.echo : Int) := by rw [IntKind.wrap_u64]; omega
            have hS0 : ({ wc with drawn := wc.drawn + 1 } : World).heap[B]? = some (.cells co 31 (0, 0)) := hS
            refine wp_region_hand (fun W' => W'.heap[B]? = some (.cells co 31 (0, 0))) (by kernel_rfl) hS0 ?_
            clear hS
            intro hS
            replace ho : OB ({ wc with drawn := wc.drawn + 1 } : World) (B + 1) (.slice A l3.length c) l3 := OB.drewN ho 1
            replace hb : Below B w ({ wc with drawn := wc.drawn + 1 } : World) := below_drewN hb 1
            replace hsz : B + 1 ≤ ({ wc with drawn := wc.drawn + 1 } : World).heap.size := hsz
            clear hS0
            generalize ({ wc with drawn := wc.drawn + 1 } : World) = u at hS ho hb hsz ⊢
            refine wpAnyH_take (i := 0) (oi := ⟨some 29, _, _, _, _, _⟩) (v := ?_) rfl (by kernel_rfl) (by kernel_rfl) (by kernel_rfl) (fun _ _ _ h => h) (Or.inl ⟨by rfl, ?_⟩) hS ?_
            rotate_left 1
            focus ((intro W' hS'; go_simp) <;> with_reducible rfl)
            try simp only [Act.put, List.setIfInBounds_toArray, List.set_cons_zero, List.set_cons_succ]
            refine wpAnyH_take (i := 3) (oi := ⟨some 32, _, _, _, _, _⟩) (v := ?_) rfl (by kernel_rfl) (by kernel_rfl) (by kernel_rfl) (fun _ _ _ h => h) (Or.inl ⟨by rfl, ?_⟩) hS ?_
            rotate_left 1
            focus ((intro W' hS'; go_simp) <;> with_reducible rfl)
            try simp only [Act.put, List.setIfInBounds_toArray, List.set_cons_zero, List.set_cons_succ]
            refine wpAnyH_take (i := 4) (oi := ⟨some 33, _, _, _, _, _⟩) (v := ?_) rfl (by kernel_rfl) (by kernel_rfl) (by kernel_rfl) (fun _ _ _ h => h) (Or.inl ⟨by rfl, ?_⟩) hS ?_
            rotate_left 1
            focus ((intro W' hS'; have q1 := (HPC.out W' B hS').2.2.2.2.2.2.2.1; go_simp) <;> with_reducible rfl)
            try simp only [Act.put, List.setIfInBounds_toArray, List.set_cons_zero, List.set_cons_succ]
            refine wpAnyH_take (i := 5) (oi := ⟨some 34, _, _, _, _, _⟩) (v := ?_) rfl (by kernel_rfl) (by kernel_rfl) (by kernel_rfl) (fun _ _ _ h => h) (Or.inl ⟨by rfl, ?_⟩) hS ?_
            rotate_left 1
            focus ((intro W' hS'; have q1 := x1; go_simp) <;> with_reducible rfl)
            try simp only [Act.put, List.setIfInBounds_toArray, List.set_cons_zero, List.set_cons_succ]
            refine wpAnyH_take (i := 6) (oi := ⟨some 35, _, _, _, _, _⟩) (v := ?_) rfl (by kernel_rfl) (by kernel_rfl) (by kernel_rfl) (fun _ _ _ h => h) (Or.inl ⟨by rfl, ?_⟩) hS ?_
            rotate_left 1
            focus ((intro W' hS'; go_simp) <;> with_reducible rfl)
            try simp only [Act.put, List.setIfInBounds_toArray, List.set_cons_zero, List.set_cons_succ]
            refine wpAnyH_take (i := 7) (oi := ⟨some 36, _, _, _, _, _⟩) (v := ?_) rfl (by kernel_rfl) (by kernel_rfl) (by kernel_rfl) (fun _ _ _ h => h) (Or.inl ⟨by rfl, ?_⟩) hS ?_
            rotate_left 1
            focus ((intro W' hS'; have q1 := (HPC.out W' B hS').2.2.2.2.2.2.2.2.1; go_simp) <;> with_reducible rfl)
            try simp only [Act.put, List.setIfInBounds_toArray, List.set_cons_zero, List.set_cons_succ]
            refine wpAnyH_take (i := 8) (oi := ⟨some 37, _, _, _, _, _⟩) (v := ?_) rfl (by kernel_rfl) (by kernel_rfl) (by kernel_rfl) (fun _ _ _ h => h) (Or.inl ⟨by rfl, ?_⟩) hS ?_
            rotate_left 1
            focus ((intro W' hS'; have q1 := x2; go_simp) <;> with_reducible rfl)
            try simp only [Act.put, List.setIfInBounds_toArray, List.set_cons_zero, List.set_cons_succ]
            refine anyH_two (i := 1) (j := 9) (by kernel_rfl) (op_in ⟨some 30, _, _, _, _, _⟩ rfl (by rfl) ?_) (op_in ⟨some 38, _, _, _, _, _⟩ rfl (by rfl) ?_)
            · refine wp_litF 32 5 2 _ rfl #[(0, .int .u8 8), (1, .int .u8 10)] (by simp [Act.eval, Act.put]) _ (lit8_2 8 10) ?_
              intro u8 h8 hb8 z8
              have hr8 := RB.lit h8 rfl (by simp) rfl (xs := [8, 10])
              replace hS := KeepN.below hb8 B _ _ _ (by decide) hS
              replace ho := OB.below ho hb8
              replace hb := hb.trans (hb8.mono (by have := hb.size; have := HB.out; omega))
              try replace h13 := KeepN.below hb8 _ _ _ _ (by decide) h13
              replace hsz : B + 1 ≤ _ := Nat.le_trans hsz hb8.size
              clear h8 z8 hb8
              refine ⟨hS, ?_⟩
              try simp only [Act.put, List.setIfInBounds_toArray, List.set_cons_zero, List.set_cons_succ]
              refine anyH_two (i := 2) (j := 9) (by kernel_rfl) (op_in ⟨some 31, _, _, _, _, _⟩ rfl (by rfl) ?_) (op_in ⟨some 38, _, _, _, _, _⟩ rfl (by rfl) ?_)
              · refine wp_append8K (.tmp 29) (.tmp 30) (B + 1) l3 [8, 10] X4 (HX4.out) rfl rfl rfl rfl ho hr8 (by have := BL_l3.out; simp only [List.length_cons, List.length_nil]; omega) hsz ?_
                intro A9 c9 u9 ho9 hb9 hk9
                replace hS := hk9 B _ _ _ (by decide) hS
                try replace h13 := hk9 _ _ _ _ (by decide) h13
                replace hb := hb.trans (hb9.mono (by omega))
                replace hsz : B + 1 ≤ _ := Nat.le_trans hsz hb9.size
                clear ho hr8 hb9 hk9
                refine ⟨hS, ?_⟩
                try simp only [Act.put, List.setIfInBounds_toArray, List.set_cons_zero, List.set_cons_succ]
                refine anyH_one (i := 9) (by kernel_rfl) ⟨some 38, _, _, _, _, _⟩ rfl (by rfl) ?_
                refine wp_litF 86 60 2 _ rfl #[(0, .int .u64 (o.val : Int)), (1, .int .u64 (o.echo : Int))] (by simp [Act.eval, Act.put]) _ (lit64_2 _ _) ?_
                intro u13 h13 hb13 z13
                replace hS := KeepN.below hb13 B _ _ _ (by decide) hS
                try replace ho := OB.below ho hb13
                try replace hr8 := RB.below hr8 hb13
                try replace ho9 := OB.below ho9 hb13
                replace hb := hb.trans (hb13.mono (by have := hb.size; have := HB.out; omega))
                replace hsz : B + 1 ≤ _ := Nat.le_trans hsz hb13.size
                clear z13 hb13
                refine ⟨hS, ?_⟩
                try simp only [Act.put, List.setIfInBounds_toArray, List.set_cons_zero, List.set_cons_succ]
                refine anyH_one (i := 10) (by kernel_rfl) ⟨some 39, _, _, _, _, _⟩ rfl (by rfl) ?_
                go_simp
                with_reducible refine Calls.mono (HP.out _ _ _ ho9.rb (RN.lit2 h13 (by omega) (by omega))) ?_
                rintro e u14 ⟨A14, c14, rfl, ho14, hb14⟩
                replace hS := KeepN.below hb14 B _ _ _ (by decide) hS
                replace ho14 := OB.lower ho14 hsz
                replace hb := hb.trans (hb14.mono (by have := hb.size; have := HB.out; omega))
                clear hb14 ho9 h13
                refine ⟨hS, ?_⟩
                try simp only [Act.put, List.setIfInBounds_toArray, List.set_cons_zero, List.set_cons_succ]
                refine wpAnyH_take (i := 11) (oi := ⟨some 3, _, _, _, _, _⟩) (v := ?_) rfl (by kernel_rfl) (by kernel_rfl) (by kernel_rfl) (fun _ _ _ h => h) (Or.inl ⟨by rfl, ?_⟩) hS ?_
                rotate_left 1
                focus ((intro W' hS'; go_simp) <;> with_reducible rfl)
                try simp only [Act.put, List.setIfInBounds_toArray, List.set_cons_zero, List.set_cons_succ]
                refine wpAnyH_done (by kernel_rfl) ?_ _
                go_wp2_with fail
                go_meet
                case rel => exact ⟨A14, c14, rfl, ho14, hS, hb⟩
              · refine wp_litF 86 60 2 _ rfl #[(0, .int .u64 (o.val : Int)), (1, .int .u64 (o.echo : Int))] (by simp [Act.eval, Act.put]) _ (lit64_2 _ _) ?_
                intro u13 h13 hb13 z13
                replace hS := KeepN.below hb13 B _ _ _ (by decide) hS
                try replace ho := OB.below ho hb13
                try replace hr8 := RB.below hr8 hb13
                try replace ho9 := OB.below ho9 hb13
                replace hb := hb.trans (hb13.mono (by have := hb.size; have := HB.out; omega))
                replace hsz : B + 1 ≤ _ := Nat.le_trans hsz hb13.size
                clear z13 hb13
                refine ⟨hS, ?_⟩
                try simp only [Act.put, List.setIfInBounds_toArray, List.set_cons_zero, List.set_cons_succ]
                refine anyH_one (i := 2) (by kernel_rfl) ⟨some 31, _, _, _, _, _⟩ rfl (by rfl) ?_
                refine wp_append8K (.tmp 29) (.tmp 30) (B + 1) l3 [8, 10] X4 (HX4.out) rfl rfl rfl rfl ho hr8 (by have := BL_l3.out; simp only [List.length_cons, List.length_nil]; omega) hsz ?_
                intro A9 c9 u9 ho9 hb9 hk9
                replace hS := hk9 B _ _ _ (by decide) hS
                try replace h13 := hk9 _ _ _ _ (by decide) h13
                replace hb := hb.trans (hb9.mono (by omega))
                replace hsz : B + 1 ≤ _ := Nat.le_trans hsz hb9.size
                clear ho hr8 hb9 hk9
                refine ⟨hS, ?_⟩
                try simp only [Act.put, List.setIfInBounds_toArray, List.set_cons_zero, List.set_cons_succ]
                refine anyH_one (i := 10) (by kernel_rfl) ⟨some 39, _, _, _, _, _⟩ rfl (by rfl) ?_
                go_simp
                with_reducible refine Calls.mono (HP.out _ _ _ ho9.rb (RN.lit2 h13 (by omega) (by omega))) ?_
                rintro e u14 ⟨A14, c14, rfl, ho14, hb14⟩
                replace hS := KeepN.below hb14 B _ _ _ (by decide) hS
                replace ho14 := OB.lower ho14 hsz
                replace hb := hb.trans (hb14.mono (by have := hb.size; have := HB.out; omega))
                clear hb14 ho9 h13
                refine ⟨hS, ?_⟩
                try simp only [Act.put, List.setIfInBounds_toArray, List.set_cons_zero, List.set_cons_succ]
                refine wpAnyH_take (i := 11) (oi := ⟨some 3, _, _, _, _, _⟩) (v := ?_) rfl (by kernel_rfl) (by kernel_rfl) (by kernel_rfl) (fun _ _ _ h => h) (Or.inl ⟨by rfl, ?_⟩) hS ?_
                rotate_left 1
                focus ((intro W' hS'; go_simp) <;> with_reducible rfl)
                try simp only [Act.put, List.setIfInBounds_toArray, List.set_cons_zero, List.set_cons_succ]
                refine wpAnyH_done (by kernel_rfl) ?_ _
                go_wp2_with fail
                go_meet
                case rel => exact ⟨A14, c14, rfl, ho14, hS, hb⟩
            · refine wp_litF 86 60 2 _ rfl #[(0, .int .u64 (o.val : Int)), (1, .int .u64 (o.echo : Int))] (by simp [Act.eval, Act.put]) _ (lit64_2 _ _) ?_
              intro u13 h13 hb13 z13
              replace hS := KeepN.below hb13 B _ _ _ (by decide) hS
              try replace ho := OB.below ho hb13
              try replace hr8 := RB.below hr8 hb13
              try replace ho9 := OB.below ho9 hb13
              replace hb := hb.trans (hb13.mono (by have := hb.size; have := HB.out; omega))
              replace hsz : B + 1 ≤ _ := Nat.le_trans hsz hb13.size
              clear z13 hb13
              refine ⟨hS, ?_⟩
              try simp only [Act.put, List.setIfInBounds_toArray, List.set_cons_zero, List.set_cons_succ]
              refine anyH_one (i := 1) (by kernel_rfl) ⟨some 30, _, _, _, _, _⟩ rfl (by rfl) ?_
              refine wp_litF 32 5 2 _ rfl #[(0, .int .u8 8), (1, .int .u8 10)] (by simp [Act.eval, Act.put]) _ (lit8_2 8 10) ?_
              intro u8 h8 hb8 z8
              have hr8 := RB.lit h8 rfl (by simp) rfl (xs := [8, 10])
              replace hS := KeepN.below hb8 B _ _ _ (by decide) hS
              replace ho := OB.below ho hb8
              replace hb := hb.trans (hb8.mono (by have := hb.size; have := HB.out; omega))
              try replace h13 := KeepN.below hb8 _ _ _ _ (by decide) h13
              replace hsz : B + 1 ≤ _ := Nat.le_trans hsz hb8.size
              clear h8 z8 hb8
              refine ⟨hS, ?_⟩
              try simp only [Act.put, List.setIfInBounds_toArray, List.set_cons_zero, List.set_cons_succ]
              refine anyH_one (i := 2) (by kernel_rfl) ⟨some 31, _, _, _, _, _⟩ rfl (by rfl) ?_
              refine wp_append8K (.tmp 29) (.tmp 30) (B + 1) l3 [8, 10] X4 (HX4.out) rfl rfl rfl rfl ho hr8 (by have := BL_l3.out; simp only [List.length_cons, List.length_nil]; omega) hsz ?_
              intro A9 c9 u9 ho9 hb9 hk9
              replace hS := hk9 B _ _ _ (by decide) hS
              try replace h13 := hk9 _ _ _ _ (by decide) h13
              replace hb := hb.trans (hb9.mono (by omega))
              replace hsz : B + 1 ≤ _ := Nat.le_trans hsz hb9.size
              clear ho hr8 hb9 hk9
              refine ⟨hS, ?_⟩
              try simp only [Act.put, List.setIfInBounds_toArray, List.set_cons_zero, List.set_cons_succ]
              refine anyH_one (i := 10) (by kernel_rfl) ⟨some 39, _, _, _, _, _⟩ rfl (by rfl) ?_
              go_simp
              with_reducible refine Calls.mono (HP.out _ _ _ ho9.rb (RN.lit2 h13 (by omega) (by omega))) ?_
              rintro e u14 ⟨A14, c14, rfl, ho14, hb14⟩
              replace hS := KeepN.below hb14 B _ _ _ (by decide) hS
              replace ho14 := OB.lower ho14 hsz
              replace hb := hb.trans (hb14.mono (by have := hb.size; have := HB.out; omega))
              clear hb14 ho9 h13
              refine ⟨hS, ?_⟩
              try simp only [Act.put, List.setIfInBounds_toArray, List.set_cons_zero, List.set_cons_succ]
              refine wpAnyH_take (i := 11) (oi := ⟨some 3, _, _, _, _, _⟩) (v := ?_) rfl (by kernel_rfl) (by kernel_rfl) (by kernel_rfl) (fun _ _ _ h => h) (Or.inl ⟨by rfl, ?_⟩) hS ?_
              rotate_left 1
              focus ((intro W' hS'; go_simp) <;> with_reducible rfl)
              try simp only [Act.put, List.setIfInBounds_toArray, List.set_cons_zero, List.set_cons_succ]
              refine wpAnyH_done (by kernel_rfl) ?_ _
              go_wp2_with fail
              go_meet
              case rel => exact ⟨A14, c14, rfl, ho14, hS, hb⟩
        case rest =>
          obtain ⟨A, c, rfl, ho, hS, hb⟩ := hcut
          clear e0 e1 e2 e3 e4 e5 e6 e7 e8 e9 e10 e11
          obtain ⟨e0, e1, e2, e3, e4, e5, e6, e7, e8, e9, e10, e11⟩ := HPC.out _ B hS
          have hsz : B + 1 ≤ wc.heap.size := (Array.getElem?_eq_some_iff.1 hS).1
          have hcn : decide ((0 : Int) < (o.sacks.length : Int)) = decide (0 < o.sacks.length) := by rw [decide_eq_decide]; omega
          go_upto_if 43 with fail
          go_cut [3] (fun s3 wx => ∃ (A : Option Addr) (c : Nat), s3 = .slice A l5.length c ∧ OB wx (B + 1) (.slice A l5.length c) l5 ∧ wx.heap[B]? = some (.cells co 31 (0, 0)) ∧ Below B w wx)
          case first =>
            cases hm : decide (0 < o.sacks.length)
            · have hn : l5 = l4 := by rw [← H5.out, b5O, hm]; rfl
              have HN := hid hn
              clear hn hm
              go_wp2_with fail
              go_meet
              case rel => exact ⟨A, c, by rw [HN.out], by rw [HN.out]; exact ho, hS, hb⟩
            · obtain ⟨D, hD⟩ : ∃ D, UInt8.ofNat (2 + 8 * o.sacks.length) = D := ⟨_, rfl⟩
              obtain ⟨X5, hX5⟩ : ∃ X, l4 ++ ([5, D] : List UInt8) = X := ⟨_, rfl⟩
              have hx5 : (X5 ++ sackB o.sacks) = l5 := by rw [← hX5, ← H5.out, b5O, hm, hD]; rfl
              have HX5 := hid hX5
              have HY5 := hid hx5
              have LX := hid (show X5.length ≤ 1000002 by rw [← hX5, List.length_append]; have := BL_l4.out; simp only [List.length_cons, List.length_nil]; omega)
              have w5 : (2 + 8 * (o.sacks.length : Int)) % 256 = (D.toNat : Int) := by rw [← hD, UInt8.toNat_ofNat']; omega
              have hsl := HSL.out
              clear hX5 hx5 hm hD
              have HO2 := hid (OB.below ho (bl1 wc (.cells #[.int .u8 5, .int .u8 (D.toNat : Int)] 5)))
              have HR2 := hid (RB.lit (nw1 wc (.cells #[.int .u8 5, .int .u8 (D.toNat : Int)] 5)) rfl (by simp) rfl (xs := [5, D]))
              have HS2 := hid (KeepN.below (bl1 wc (.cells #[.int .u8 5, .int .u8 (D.toNat : Int)] 5)) B _ _ _ (by decide) hS)
              have HB2 := hid (hb.trans ((bl1 wc (.cells #[.int .u8 5, .int .u8 (D.toNat : Int)] 5)).mono (by have := hb.size; have := HB.out; omega)))
              have HZ2 := hid (show B + 1 ≤ (wc.alloc (.cells #[.int .u8 5, .int .u8 (D.toNat : Int)] 5)).heap.size from Nat.le_trans hsz (bl1 wc (.cells #[.int .u8 5, .int .u8 (D.toNat : Int)] 5)).size)
              have HLN := hid (show l4.length ≤ 1000000 from BL_l4.out)
              clear ho hS hb hsz e0 e1 e2 e3 e4 e6 e7 e8 e9 e10 e11
              go_wp2_with ((with_reducible refine at_slot 52 ?_); refine append_u8 (.tmp 44) (.tmp 51) (B + 1) l4 [5, D] X5 HX5.out rfl rfl rfl rfl HO2.out HR2.out (by have := HLN.out; simp only [List.length_cons, List.length_nil]; omega) HZ2.out ?_; intro A3 c3 w3 ho3 hb3 hg3 _; have hS3 := hid ((hb3.block B (by omega)).trans HS2.out); have hbb3 := hid (HB2.out.trans (hb3.mono (by omega))); have HO3 := hid ho3; clear hb3 hg3 ho3)
              go_loopw [3, 4] (fun s3 i wr => ∃ (k : Nat) (A : Option Addr) (c : Nat), k ≤ o.sacks.length ∧ i = .int .i64 k ∧ s3 = .slice A (X5 ++ sackB (o.sacks.take k)).length c ∧ OB wr (B + 1) (.slice A (X5 ++ sackB (o.sacks.take k)).length c) (X5 ++ sackB (o.sacks.take k)) ∧ wr.heap[B]? = some (.cells co 31 (0, 0)) ∧ Below B w wr) (fun _ i _ => o.sacks.length - (intOf i).toNat)
              case atStart => exact ⟨0, A3, c3, Nat.zero_le _, rfl, by simp [sackB], by simpa [sackB] using HO3.out, hS3.out, hbb3.out⟩
              case round =>
                obtain ⟨k, A, c, hk, rfl, rfl, ho, hS, hb⟩ := hrel
                obtain ⟨e0, e1, e2, e3, e4, e5, e6, e7, e8, e9, e10, e11⟩ := HPC.out _ B hS
                clear hS3 hbb3 HO3 e0 e1 e2 e3 e4 e6 e7 e8 e9 e10 e11
                by_cases hlt : k < o.sacks.length
                · have hrow := HRW.out _ hb
                  obtain ⟨a, rfl⟩ := hrow.addr (by rw [bcs_length]; omega)
                  obtain ⟨c0, c1⟩ := hrow.blk k hlt
                  obtain ⟨hx, hy⟩ := HOK.out.get k hlt
                  have hft : X5 ++ sackB (o.sacks.take (k + 1)) = (X5 ++ sackB (o.sacks.take k)) ++ (beB 4 (o.sacks.getD k (0, 0)).1 ++ beB 4 (o.sacks.getD k (0, 0)).2) := by rw [sackB_take _ _ hlt, List.append_assoc]
                  have hcl : (X5 ++ sackB (o.sacks.take k)).length ≤ 2000002 := by rw [List.length_append, sackB_len, List.length_take]; have := LX.out; omega
                  generalize X5 ++ sackB (o.sacks.take k) = cur at ho hft hcl ⊢
                  generalize o.sacks.getD k (0, 0) = xy at c0 c1 hx hy hft
                  obtain ⟨x, y⟩ := xy
                  simp only at c0 c1 hx hy
                  have HTK := hid hft
                  have hki : (k : Int) < (o.sacks.length : Int) := by omega
                  have hsz : B + 1 ≤ wr.heap.size := (Array.getElem?_eq_some_iff.1 hS).1
                  clear hrow hft
                  go_wp2_with fail
                  have x1 : IntKind.u64.wrap (x : Int) = (x : Int) := by rw [IntKind.wrap_u64]; omega
                  have x2 : IntKind.u64.wrap (y : Int) = (y : Int) := by rw [IntKind.wrap_u64]; omega
                  refine wp_region_hand (fun W' => W'.heap[B]? = some (.cells co 31 (0, 0)) ∧ W'.cell? (a.add (k * 2)) = some (.int .u32 (x : Int)) ∧ W'.cell? ⟨(a.add (k * 2)).block, (a.add (k * 2)).off + 1, none⟩ = some (.int .u32 (y : Int))) (by kernel_rfl) (show _ ∧ _ ∧ _ from ⟨hS, c0, c1⟩) ?_
                  clear hS c0 c1 e5
                  intro hS
                  replace ho : OB ({ wr with drawn := wr.drawn + 1 } : World) (B + 1) (.slice A cur.length c) cur := OB.drewN ho 1
                  replace hb : Below B w ({ wr with drawn := wr.drawn + 1 } : World) := below_drewN hb 1
                  replace hsz : B + 1 ≤ ({ wr with drawn := wr.drawn + 1 } : World).heap.size := hsz
                  generalize ({ wr with drawn := wr.drawn + 1 } : World) = u at hS ho hb hsz ⊢
                  refine wpAnyH_take (i := 0) (oi := ⟨some 60, _, _, _, _, _⟩) (v := ?_) rfl (by kernel_rfl) (by kernel_rfl) (by kernel_rfl) (fun _ _ _ h => h) (Or.inl ⟨by rfl, ?_⟩) hS ?_
                  rotate_left 1
                  focus ((intro W' hS'; go_simp) <;> with_reducible rfl)
                  try simp only [Act.put, List.setIfInBounds_toArray, List.set_cons_zero, List.set_cons_succ]
                  refine wpAnyH_take (i := 1) (oi := ⟨some 61, _, _, _, _, _⟩) (v := ?_) rfl (by kernel_rfl) (by kernel_rfl) (by kernel_rfl) (fun _ _ _ h => h) (Or.inl ⟨by rfl, ?_⟩) hS ?_
                  rotate_left 1
                  focus ((intro W' hS'; go_simp) <;> with_reducible rfl)
                  try simp only [Act.put, List.setIfInBounds_toArray, List.set_cons_zero, List.set_cons_succ]
                  refine wpAnyH_take (i := 2) (oi := ⟨some 62, _, _, _, _, _⟩) (v := ?_) rfl (by kernel_rfl) (by kernel_rfl) (by kernel_rfl) (fun _ _ _ h => h) (Or.inl ⟨by rfl, ?_⟩) hS ?_
                  rotate_left 1
                  focus ((intro W' hS'; have q1 := (HPC.out W' B hS'.1).2.2.2.2.2.1; go_simp) <;> with_reducible rfl)
                  try simp only [Act.put, List.setIfInBounds_toArray, List.set_cons_zero, List.set_cons_succ]
                  refine wpAnyH_take (i := 3) (oi := ⟨some 63, _, _, _, _, _⟩) (v := ?_) rfl (by kernel_rfl) (by kernel_rfl) (by kernel_rfl) (fun _ _ _ h => h) (Or.inl ⟨by rfl, ?_⟩) hS ?_
                  rotate_left 1
                  focus ((intro W' hS'; go_simp) <;> with_reducible rfl)
                  try simp only [Act.put, List.setIfInBounds_toArray, List.set_cons_zero, List.set_cons_succ]
                  refine wpAnyH_take (i := 4) (oi := ⟨some 64, _, _, _, _, _⟩) (v := ?_) rfl (by kernel_rfl) (by kernel_rfl) (by kernel_rfl) (fun _ _ _ h => h) (Or.inl ⟨by rfl, ?_⟩) hS ?_
                  rotate_left 1
                  focus ((intro W' hS'; go_simp) <;> with_reducible rfl)
                  try simp only [Act.put, List.setIfInBounds_toArray, List.set_cons_zero, List.set_cons_succ]
                  refine wpAnyH_take (i := 5) (oi := ⟨some 65, _, _, _, _, _⟩) (v := ?_) rfl (by kernel_rfl) (by kernel_rfl) (by kernel_rfl) (fun _ _ _ h => h) (Or.inl ⟨by rfl, ?_⟩) hS ?_
                  rotate_left 1
                  focus ((intro W' hS'; go_simp) <;> with_reducible rfl)
                  try simp only [Act.put, List.setIfInBounds_toArray, List.set_cons_zero, List.set_cons_succ]
                  refine wpAnyH_take (i := 6) (oi := ⟨some 66, _, _, _, _, _⟩) (v := ?_) rfl (by kernel_rfl) (by kernel_rfl) (by kernel_rfl) (fun _ _ _ h => h) (Or.inl ⟨by rfl, ?_⟩) hS ?_
                  rotate_left 1
                  focus ((intro W' hS'; have q1 := hS'.2.1; go_simp) <;> with_reducible rfl)
                  try simp only [Act.put, List.setIfInBounds_toArray, List.set_cons_zero, List.set_cons_succ]
                  refine wpAnyH_take (i := 7) (oi := ⟨some 67, _, _, _, _, _⟩) (v := ?_) rfl (by kernel_rfl) (by kernel_rfl) (by kernel_rfl) (fun _ _ _ h => h) (Or.inl ⟨by rfl, ?_⟩) hS ?_
                  rotate_left 1
                  focus ((intro W' hS'; have q1 := x1; go_simp) <;> with_reducible rfl)
                  try simp only [Act.put, List.setIfInBounds_toArray, List.set_cons_zero, List.set_cons_succ]
                  refine wpAnyH_take (i := 8) (oi := ⟨some 68, _, _, _, _, _⟩) (v := ?_) rfl (by kernel_rfl) (by kernel_rfl) (by kernel_rfl) (fun _ _ _ h => h) (Or.inl ⟨by rfl, ?_⟩) hS ?_
                  rotate_left 1
                  focus ((intro W' hS'; go_simp) <;> with_reducible rfl)
                  try simp only [Act.put, List.setIfInBounds_toArray, List.set_cons_zero, List.set_cons_succ]
                  refine wpAnyH_take (i := 9) (oi := ⟨some 69, _, _, _, _, _⟩) (v := ?_) rfl (by kernel_rfl) (by kernel_rfl) (by kernel_rfl) (fun _ _ _ h => h) (Or.inl ⟨by rfl, ?_⟩) hS ?_
                  rotate_left 1
                  focus ((intro W' hS'; have q1 := (HPC.out W' B hS'.1).2.2.2.2.2.1; go_simp) <;> with_reducible rfl)
                  try simp only [Act.put, List.setIfInBounds_toArray, List.set_cons_zero, List.set_cons_succ]
                  refine wpAnyH_take (i := 10) (oi := ⟨some 70, _, _, _, _, _⟩) (v := ?_) rfl (by kernel_rfl) (by kernel_rfl) (by kernel_rfl) (fun _ _ _ h => h) (Or.inl ⟨by rfl, ?_⟩) hS ?_
                  rotate_left 1
                  focus ((intro W' hS'; go_simp) <;> with_reducible rfl)
                  try simp only [Act.put, List.setIfInBounds_toArray, List.set_cons_zero, List.set_cons_succ]
                  refine wpAnyH_take (i := 11) (oi := ⟨some 71, _, _, _, _, _⟩) (v := ?_) rfl (by kernel_rfl) (by kernel_rfl) (by kernel_rfl) (fun _ _ _ h => h) (Or.inl ⟨by rfl, ?_⟩) hS ?_
                  rotate_left 1
                  focus ((intro W' hS'; go_simp) <;> with_reducible rfl)
                  try simp only [Act.put, List.setIfInBounds_toArray, List.set_cons_zero, List.set_cons_succ]
                  refine wpAnyH_take (i := 12) (oi := ⟨some 72, _, _, _, _, _⟩) (v := ?_) rfl (by kernel_rfl) (by kernel_rfl) (by kernel_rfl) (fun _ _ _ h => h) (Or.inl ⟨by rfl, ?_⟩) hS ?_
                  rotate_left 1
                  focus ((intro W' hS'; go_simp) <;> with_reducible rfl)
                  try simp only [Act.put, List.setIfInBounds_toArray, List.set_cons_zero, List.set_cons_succ]
                  refine wpAnyH_take (i := 13) (oi := ⟨some 73, _, _, _, _, _⟩) (v := ?_) rfl (by kernel_rfl) (by kernel_rfl) (by kernel_rfl) (fun _ _ _ h => h) (Or.inl ⟨by rfl, ?_⟩) hS ?_
                  rotate_left 1
                  focus ((intro W' hS'; have q1 := hS'.2.2; go_simp) <;> with_reducible rfl)
                  try simp only [Act.put, List.setIfInBounds_toArray, List.set_cons_zero, List.set_cons_succ]
                  refine wpAnyH_take (i := 14) (oi := ⟨some 74, _, _, _, _, _⟩) (v := ?_) rfl (by kernel_rfl) (by kernel_rfl) (by kernel_rfl) (fun _ _ _ h => h) (Or.inl ⟨by rfl, ?_⟩) hS ?_
                  rotate_left 1
                  focus ((intro W' hS'; have q1 := x2; go_simp) <;> with_reducible rfl)
                  try simp only [Act.put, List.setIfInBounds_toArray, List.set_cons_zero, List.set_cons_succ]
                  refine anyH_one (i := 15) (by kernel_rfl) ⟨some 75, _, _, _, _, _⟩ rfl (by rfl) ?_
                  refine wp_litF 86 60 2 _ rfl #[(0, .int .u64 (x : Int)), (1, .int .u64 (y : Int))] (by simp [Act.eval, Act.put]) _ (lit64_2 _ _) ?_
                  intro u13 h13 hb13 z13
                  replace hS := And.intro (KeepN.below hb13 B _ _ _ (by decide) hS.1) (And.intro (keep_cell hb13 hS.2.1 (World.block_lt_of_cell? _ _ hS.2.1)) (keep_cell hb13 hS.2.2 (World.block_lt_of_cell? _ _ hS.2.2)))
                  replace ho := OB.below ho hb13
                  replace hb := hb.trans (hb13.mono (by have := hb.size; have := HB.out; omega))
                  replace hsz : B + 1 ≤ _ := Nat.le_trans hsz hb13.size
                  clear z13 hb13
                  refine ⟨hS, ?_⟩
                  try simp only [Act.put, List.setIfInBounds_toArray, List.set_cons_zero, List.set_cons_succ]
                  refine anyH_one (i := 16) (by kernel_rfl) ⟨some 76, _, _, _, _, _⟩ rfl (by rfl) ?_
                  go_simp
                  with_reducible refine Calls.mono (rput_any _ _ cur 4 [UInt64.ofNat x, UInt64.ofNat y] _ ho.rb (RN.lit2 h13 (by omega) (by omega)) (by omega) (by omega) (by simp only [List.length_cons, List.length_nil]; omega)) ?_
                  rintro e u14 ⟨A14, c14, rfl, ho14, hb14⟩
                  rw [put4_two x y (by omega) (by omega), ← HTK.out] at ho14 ⊢
                  replace hS := And.intro (KeepN.below hb14 B _ _ _ (by decide) hS.1) (And.intro (keep_cell hb14 hS.2.1 (World.block_lt_of_cell? _ _ hS.2.1)) (keep_cell hb14 hS.2.2 (World.block_lt_of_cell? _ _ hS.2.2)))
                  replace ho14 := OB.lower ho14 hsz
                  replace hb := hb.trans (hb14.mono (by have := hb.size; have := HB.out; omega))
                  clear hb14 h13
                  refine ⟨hS, ?_⟩
                  try simp only [Act.put, List.setIfInBounds_toArray, List.set_cons_zero, List.set_cons_succ]
                  refine wpAnyH_take (i := 17) (oi := ⟨some 3, _, _, _, _, _⟩) (v := ?_) rfl (by kernel_rfl) (by kernel_rfl) (by kernel_rfl) (fun _ _ _ h => h) (Or.inl ⟨by rfl, ?_⟩) hS ?_
                  rotate_left 1
                  focus ((intro W' hS'; go_simp) <;> with_reducible rfl)
                  try simp only [Act.put, List.setIfInBounds_toArray, List.set_cons_zero, List.set_cons_succ]
                  refine wpAnyH_done (by kernel_rfl) ?_ _
                  go_wp2_with fail
                  go_roundw
                  case rel => exact ⟨k + 1, A14, c14, by omega, by go_num, by rw [List.length_append], ho14, hS.1, hb⟩
                  case measure => simp [intOf]; omega
                · obtain rfl : k = o.sacks.length := by omega
                  rw [List.take_length, HY5.out] at ho
                  have HY6 := HY5
                  rw [List.take_length]
                  rw [HY5.out]
                  clear e5 HY5 HY6
                  obtain ⟨e0, e1, e2, e3, e4, e5, e6, e7, e8, e9, e10, e11⟩ := HPC.out _ B hS
                  clear e0 e1 e2 e3 e4 e6 e7 e8 e9 e10 e11
                  go_wp2_with fail
                  go_meet
                  case rel => exact ⟨A, c, rfl, ho, hS, hb⟩
          case rest =>
            obtain ⟨A, c, rfl, ho, hS, hb⟩ := hcut
            clear e0 e1 e2 e3 e4 e5 e6 e7 e8 e9 e10 e11
            obtain ⟨e0, e1, e2, e3, e4, e5, e6, e7, e8, e9, e10, e11⟩ := HPC.out _ B hS
            have hsz : B + 1 ≤ wc.heap.size := (Array.getElem?_eq_some_iff.1 hS).1
            go_upto_if 78 with fail
            go_cut [3] (fun s3 wx => ∃ (A : Option Addr) (c : Nat), s3 = .slice A l6.length c ∧ OB wx (B + 1) (.slice A l6.length c) l6 ∧ wx.heap[B]? = some (.cells co 31 (0, 0)) ∧ Below B w wx)
            case first =>
              cases hm : o.hasAO
              · have hn : l6 = l5 := by rw [← H6.out, b6O, hm]; rfl
                have HN := hid hn
                clear hn hm
                go_wp2_with fail
                go_meet
                case rel => exact ⟨A, c, by rw [HN.out], by rw [HN.out]; exact ho, hS, hb⟩
              · obtain ⟨K, hK⟩ : ∃ D, UInt8.ofNat o.key = D := ⟨_, rfl⟩
                obtain ⟨N, hN⟩ : ∃ D, UInt8.ofNat o.next = D := ⟨_, rfl⟩
                obtain ⟨X6, hX6⟩ : ∃ X, l5 ++ ([29, 16, K, N] : List UInt8) = X := ⟨_, rfl⟩
                have hn : X6 ++ o.mac = l6 := by rw [← hX6, ← H6.out, b6O, hm, ← hK, ← hN]; rfl
                have hKn : (o.key : Int) = (K.toNat : Int) := by rw [← hK, UInt8.toNat_ofNat']; omega
                have hNn : (o.next : Int) = (N.toNat : Int) := by rw [← hN, UInt8.toNat_ofNat']; omega
                rw [hKn, hNn] at HPC
                have HX6 := hid hX6
                have HZ6 := hid hn
                have LX6 := hid (show X6.length ≤ 2000000 by rw [← hX6, List.length_append]; have := LL5.out; simp only [List.length_cons, List.length_nil]; omega)
                clear hn hm hX6 hK hN hKn hNn e0 e1 e2 e3 e4 e5 e6 e7 e8 e9 e10 e11
                go_wp2_with fail
                have hS0 : ({ wc with drawn := wc.drawn + 1 } : World).heap[B]? = some (.cells co 31 (0, 0)) := hS
                refine wp_region_hand (fun W' => W'.heap[B]? = some (.cells co 31 (0, 0))) (by kernel_rfl) hS0 ?_
                clear hS
                intro hS
                replace ho : OB ({ wc with drawn := wc.drawn + 1 } : World) (B + 1) (.slice A l5.length c) l5 := OB.drewN ho 1
                replace hb : Below B w ({ wc with drawn := wc.drawn + 1 } : World) := below_drewN hb 1
                replace hsz : B + 1 ≤ ({ wc with drawn := wc.drawn + 1 } : World).heap.size := hsz
                clear hS0
                generalize ({ wc with drawn := wc.drawn + 1 } : World) = u at hS ho hb hsz ⊢
                refine wpAnyH_take (i := 0) (oi := ⟨some 79, _, _, _, _, _⟩) (v := ?_) rfl (by kernel_rfl) (by kernel_rfl) (by kernel_rfl) (fun _ _ _ h => h) (Or.inl ⟨by rfl, ?_⟩) hS ?_
                rotate_left 1
                focus ((intro W' hS'; go_simp) <;> with_reducible rfl)
                try simp only [Act.put, List.setIfInBounds_toArray, List.set_cons_zero, List.set_cons_succ]
                refine wpAnyH_take (i := 1) (oi := ⟨some 80, _, _, _, _, _⟩) (v := ?_) rfl (by kernel_rfl) (by kernel_rfl) (by kernel_rfl) (fun _ _ _ h => h) (Or.inl ⟨by rfl, ?_⟩) hS ?_
                rotate_left 1
                focus ((intro W' hS'; go_simp) <;> with_reducible rfl)
                try simp only [Act.put, List.setIfInBounds_toArray, List.set_cons_zero, List.set_cons_succ]
                refine wpAnyH_take (i := 2) (oi := ⟨some 81, _, _, _, _, _⟩) (v := ?_) rfl (by kernel_rfl) (by kernel_rfl) (by kernel_rfl) (fun _ _ _ h => h) (Or.inl ⟨by rfl, ?_⟩) hS ?_
                rotate_left 1
                focus ((intro W' hS'; have q1 := (HPC.out W' B hS').2.2.2.2.2.2.2.2.2.2.1; go_simp) <;> with_reducible rfl)
                try simp only [Act.put, List.setIfInBounds_toArray, List.set_cons_zero, List.set_cons_succ]
                refine wpAnyH_take (i := 3) (oi := ⟨some 82, _, _, _, _, _⟩) (v := ?_) rfl (by kernel_rfl) (by kernel_rfl) (by kernel_rfl) (fun _ _ _ h => h) (Or.inl ⟨by rfl, ?_⟩) hS ?_
                rotate_left 1
                focus ((intro W' hS'; go_simp) <;> with_reducible rfl)
                try simp only [Act.put, List.setIfInBounds_toArray, List.set_cons_zero, List.set_cons_succ]
                refine wpAnyH_take (i := 4) (oi := ⟨some 83, _, _, _, _, _⟩) (v := ?_) rfl (by kernel_rfl) (by kernel_rfl) (by kernel_rfl) (fun _ _ _ h => h) (Or.inl ⟨by rfl, ?_⟩) hS ?_
                rotate_left 1
                focus ((intro W' hS'; have q1 := (HPC.out W' B hS').2.2.2.2.2.2.2.2.2.2.2; go_simp) <;> with_reducible rfl)
                try simp only [Act.put, List.setIfInBounds_toArray, List.set_cons_zero, List.set_cons_succ]
                refine wpAnyH_take (i := 7) (oi := ⟨some 86, _, _, _, _, _⟩) (v := ?_) rfl (by kernel_rfl) (by kernel_rfl) (by kernel_rfl) (fun _ _ _ h => h) (Or.inl ⟨by rfl, ?_⟩) hS ?_
                rotate_left 1
                focus ((intro W' hS'; go_simp) <;> with_reducible rfl)
                try simp only [Act.put, List.setIfInBounds_toArray, List.set_cons_zero, List.set_cons_succ]
                refine wpAnyH_take (i := 8) (oi := ⟨some 87, _, _, _, _, _⟩) (v := ?_) rfl (by kernel_rfl) (by kernel_rfl) (by kernel_rfl) (fun _ _ _ h => h) (Or.inl ⟨by rfl, ?_⟩) hS ?_
                rotate_left 1
                focus ((intro W' hS'; have q1 := slice_mac12 B; go_simp) <;> with_reducible rfl)
                try simp only [Act.put, List.setIfInBounds_toArray, List.set_cons_zero, List.set_cons_succ]
                refine anyH_one (i := 5) (by kernel_rfl) ⟨some 84, _, _, _, _, _⟩ rfl (by rfl) ?_
                refine wp_litF 32 5 4 _ rfl #[(0, .int .u8 29), (1, .int .u8 16), (2, .int .u8 (K.toNat : Int)), (3, .int .u8 (N.toNat : Int))] (by simp [Act.eval, Act.put]) _ (lit8_4 _ _ _ _) ?_
                intro u8 h8 hb8 z8
                have hr8 := RB.lit h8 rfl (by simp) rfl (xs := [29, 16, K, N])
                replace hS := KeepN.below hb8 B _ _ _ (by decide) hS
                replace ho := OB.below ho hb8
                replace hb := hb.trans (hb8.mono (by have := hb.size; have := HB.out; omega))
                try replace h13 := KeepN.below hb8 _ _ _ _ (by decide) h13
                replace hsz : B + 1 ≤ _ := Nat.le_trans hsz hb8.size
                clear h8 z8 hb8
                refine ⟨hS, ?_⟩
                try simp only [Act.put, List.setIfInBounds_toArray, List.set_cons_zero, List.set_cons_succ]
                refine anyH_one (i := 6) (by kernel_rfl) ⟨some 85, _, _, _, _, _⟩ rfl (by rfl) ?_
                refine wp_append8K (.tmp 79) (.tmp 84) (B + 1) l5 [29, 16, K, N] X6 (HX6.out) rfl rfl rfl rfl ho hr8 (by have := LL5.out; simp only [List.length_cons, List.length_nil]; omega) hsz ?_
                intro A9 c9 u9 ho9 hb9 hk9
                replace hS := hk9 B _ _ _ (by decide) hS
                try replace h13 := hk9 _ _ _ _ (by decide) h13
                replace hb := hb.trans (hb9.mono (by omega))
                replace hsz : B + 1 ≤ _ := Nat.le_trans hsz hb9.size
                clear ho hr8 hb9 hk9
                refine ⟨hS, ?_⟩
                try simp only [Act.put, List.setIfInBounds_toArray, List.set_cons_zero, List.set_cons_succ]
                refine anyH_one (i := 9) (by kernel_rfl) ⟨some 88, _, _, _, _, _⟩ rfl (by rfl) ?_
                refine wp_append8K (.tmp 85) (.tmp 87) (B + 1) X6 o.mac l6 HZ6.out rfl rfl rfl rfl ho9 (HPM.out _ B hS) (by have := LX6.out; have := HML.out; omega) hsz ?_
                intro A10 c10 u10 ho10 hb10 hk10
                replace hS := hk10 B _ _ _ (by decide) hS
                replace hb := hb.trans (hb10.mono (by omega))
                clear ho9 hb10 hk10
                refine ⟨hS, ?_⟩
                try simp only [Act.put, List.setIfInBounds_toArray, List.set_cons_zero, List.set_cons_succ]
                refine wpAnyH_take (i := 10) (oi := ⟨some 3, _, _, _, _, _⟩) (v := ?_) rfl (by kernel_rfl) (by kernel_rfl) (by kernel_rfl) (fun _ _ _ h => h) (Or.inl ⟨by rfl, ?_⟩) hS ?_
                rotate_left 1
                focus ((intro W' hS'; go_simp) <;> with_reducible rfl)
                try simp only [Act.put, List.setIfInBounds_toArray, List.set_cons_zero, List.set_cons_succ]
                refine wpAnyH_done (by kernel_rfl) ?_ _
                go_wp2_with fail
                go_meet
                case rel => exact ⟨A10, c10, rfl, ho10, hS, hb⟩
            case rest =>
              obtain ⟨A, c, rfl, ho, hS, hb⟩ := hcut
              clear e0 e1 e2 e3 e4 e5 e6 e7 e8 e9 e10 e11
              obtain ⟨e0, e1, e2, e3, e4, e5, e6, e7, e8, e9, e10, e11⟩ := HPC.out _ B hS
              have hsz : B + 1 ≤ wc.heap.size := (Array.getElem?_eq_some_iff.1 hS).1
              clear e0 e1 e2 e3 e4 e5 e6 e7 e8 e9 e10 e11
              obtain ⟨p, hp⟩ : ∃ p, (4 - l6.length % 4) % 4 = p := ⟨_, rfl⟩
              have hL := LL6.out
              have HPD := hid (show padO l6 = l6 ++ List.replicate p 0 by rw [← hp]; rfl)
              have HP4 := hid hp
              clear hp hsz hL
              go_wp2_with fail
              go_loopw [3] (fun s3 wr => ∃ (j : Nat) (A : Option Addr) (c : Nat), j ≤ p ∧ s3 = .slice A (l6 ++ List.replicate j 0).length c ∧ OB wr (B + 1) (.slice A (l6 ++ List.replicate j 0).length c) (l6 ++ List.replicate j 0) ∧ wr.heap[B]? = some (.cells co 31 (0, 0)) ∧ Below B w wr) (fun s3 _ => l6.length + p - lenV s3)
              case atStart => exact ⟨0, A, c, Nat.zero_le _, by simp, by simpa using ho, hS, hb⟩
              case round =>
                obtain ⟨j, A, c, hj, rfl, ho, hS, hb⟩ := hrel
                have hml : (l6 ++ List.replicate j (0 : UInt8)).length = l6.length + j := by simp
                have hnx : l6 ++ List.replicate (j + 1) (0 : UInt8) = (l6 ++ List.replicate j 0) ++ [0] := by rw [List.replicate_succ', List.append_assoc]
                by_cases hjp : j < p
                · have hne : (l6.length + j) % 4 ≠ 0 := by have := HP4.out; omega
                  obtain ⟨M, hM⟩ : ∃ M, l6 ++ List.replicate j (0 : UInt8) = M := ⟨_, rfl⟩
                  obtain ⟨M', hM'⟩ : ∃ M, l6 ++ List.replicate (j + 1) (0 : UInt8) = M := ⟨_, rfl⟩
                  rw [hM] at ho hml hnx ⊢
                  rw [hM'] at hnx
                  obtain ⟨r, hr⟩ : ∃ r, M.length % 4 = r := ⟨_, rfl⟩
                  have g1 : (M.length : Int).tmod 4 = (r : Int) := by rw [Int.tmod_eq_emod_of_nonneg (by omega)]; omega
                  have g2 : (M.length : Int) % 4 = (r : Int) := by omega
                  have g3 : ((r : Int) != 0) = true := by simp; omega
                  have HML' := hid hml
                  have HNX := hid hnx.symm
                  have HM' := hid hM'
                  have HO2 := hid (OB.below ho (bl1 wr (.cells #[.int .u8 0] 5)))
                  have HR2 := hid (RB.lit (nw1 wr (.cells #[.int .u8 0] 5)) rfl (by simp) rfl (xs := [0]))
                  have HS2 := hid (KeepN.below (bl1 wr (.cells #[.int .u8 0] 5)) B _ _ _ (by decide) hS)
                  have HB2 := hid (hb.trans ((bl1 wr (.cells #[.int .u8 0] 5)).mono (by have := hb.size; have := HB.out; omega)))
                  have HZ2 := hid (show B + 1 ≤ (wr.alloc (.cells #[.int .u8 0] 5)).heap.size from Nat.le_trans ((Array.getElem?_eq_some_iff.1 hS).1) (bl1 wr (.cells #[.int .u8 0] 5)).size)
                  have HLM := hid (show M.length ≤ 2000000 by have := LL6.out; have := HP4.out; omega)
                  clear ho hS hb hml hnx hM hM' hr hne
                  go_wp2_with ((with_reducible refine at_slot 95 ?_); refine append_u8 (.tmp 93) (.tmp 94) (B + 1) M [0] M' HNX.out rfl rfl rfl rfl HO2.out HR2.out (by have := HLM.out; simp only [List.length_cons, List.length_nil]; omega) HZ2.out ?_; intro A3 c3 w3 ho3 hb3 hg3 _; have hS3 := hid ((hb3.block B (by omega)).trans HS2.out); have hbb3 := hid (HB2.out.trans (hb3.mono (by omega))); have HO3 := hid ho3; clear hb3 hg3 ho3)
                  go_roundw
                  case rel => exact ⟨j + 1, A3, c3, by omega, by rw [HM'.out], by rw [HM'.out]; exact HO3.out, hS3.out, hbb3.out⟩
                  case measure =>
                    have h1 := HML'.out
                    have h2 := congrArg List.length HNX.out
                    simp only [List.length_append, List.length_cons, List.length_nil] at h2
                    show l6.length + p - M'.length < l6.length + p - M.length
                    omega
                · have hjp2 : j = p := by omega
                  have he : (l6.length + j) % 4 = 0 := by have := HP4.out; omega
                  have HF := hid (show padO l6 = l6 ++ List.replicate j 0 by rw [hjp2]; exact HPD.out)
                  obtain ⟨M, hM⟩ : ∃ M, l6 ++ List.replicate j (0 : UInt8) = M := ⟨_, rfl⟩
                  rw [hM] at ho hml HF ⊢
                  have g1 : (M.length : Int).tmod 4 = 0 := by rw [Int.tmod_eq_emod_of_nonneg (by omega)]; omega
                  have g2 : (M.length : Int) % 4 = 0 := by omega
                  have HO := hid ho
                  have HBB := hid hb
                  clear ho hb hS hml hnx hM he hjp hjp2
                  go_wp2_with fail
                  go_ret
                  exact ⟨A, c, by rw [HF.out]; rfl, by rw [HF.out, HB.out]; exact OB.lower HO.out (by omega), by rw [HB.out]; exact HBB.out⟩
end Go.Proofs.Ythnidgiogjehkaa
