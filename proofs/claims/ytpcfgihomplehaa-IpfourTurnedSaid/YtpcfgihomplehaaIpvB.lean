/- Walks: a packet's flags; a check sum laid into a header. Literals of three numbers; a header with its check sum; an address's four bytes. Walk: ipfour.Lay. -/
import Derived.Test.YtpcfgihomplehaaIpvA
import Derived.Laws.Bits64b
import Derived.Laws.BitsAllLaws
import Derived.Test.YtpcfgihomplehaaOctPut
import Derived.Test.YtpcfgihomplehaaSumD
import Derived.Test.YtpcfgihomplehaaRegM
import Derived.Deep.DeepCutAuto
import Derived.RegionTactic
namespace Go.Proofs.Ytpcfgihomplehaa
set_option linter.unusedVariables false
set_option linter.unusedSimpArgs false
open Go.RowKit

theorem or_pow (n k : Nat) (h : n < 2 ^ k) : n ||| 2 ^ k = n + 2 ^ k := by
  have := Nat.shiftLeft_add_eq_or_of_lt h 1
  rw [Nat.shiftLeft_eq, Nat.one_mul] at this
  rw [Nat.or_comm, ← this]
  omega
theorem or_u64_p14 (n : Nat) (h : n < 8192) : bits .or .u64 (n : Int) 16384 = (n : Int) + 16384 := by
  rw [show (16384 : Int) = ((16384 : Nat) : Int) by rfl, u64_or_nat n 16384 (by omega) (by omega), show (16384 : Nat) = 2 ^ 14 by rfl, or_pow n 14 (by omega)]
  omega
theorem or_u64_p13 (n : Nat) (h : n < 8192) : bits .or .u64 (n : Int) 8192 = (n : Int) + 8192 := by
  rw [show (8192 : Int) = ((8192 : Nat) : Int) by rfl, u64_or_nat n 8192 (by omega) (by omega), show (8192 : Nat) = 2 ^ 13 by rfl, or_pow n 13 (by omega)]
  omega
theorem flags4_le (p : Pkt) (hm : May4 p) : flags4 p ≤ 24575 := by
  have h := hm.off
  have hw := hm.whole
  unfold flags4
  cases hpw : p.whole
  · cases p.more <;> simp <;> omega
  · have h2 := hw hpw
    rw [h2.1]
    simp
    omega
theorem flags_any (p : Pkt) (dv : Value) (w : World) (hm : May4 p) (hd : RB w dv p.load) :
    Calls Try.prog 18 #[p.v dv] w fun e w' => e = .returned (.int .u64 (flags4 p : Int)) ∧ Below w.heap.size w w' := by
  have ho := hm.off
  have hw := hm.whole
  obtain ⟨k, hk, hk2⟩ : ∃ k : Nat, p.off = 8 * (k : Int) ∧ k < 8192 := ⟨(p.off / 8).toNat, by omega, by omega⟩
  have hq : (p.off / 8).toNat = k := by omega
  have e1 := or_u64_p14 k hk2
  have e2 := or_u64_p13 k hk2
  have e3 : p.off.tdiv 8 = (k : Int) := by rw [Int.tdiv_eq_ediv_of_nonneg (by omega)]; omega
  have F := p.at_ dv
  obtain ⟨r, hr⟩ : ∃ r, r = flags4 p := ⟨_, rfl⟩
  rw [← hr]
  unfold flags4 at hr
  rw [hq] at hr
  have HR := hid hr
  clear hr hq hk hm ho hd
  unfold Pkt.v
  generalize p.cells dv = cs at F
  generalize p.off = off at *
  generalize p.whole = pw at *
  generalize p.more = pm at *
  obtain ⟨f0, f1, f2, f3, f4, f5, f6, f7, f8⟩ := F
  cases pw
  all_goals
    cases pm
    all_goals
      first
        | (exfalso; have h9 := (hw rfl).1; cases h9; done)
        | (clear hw; go_enter Try.func18, Try.ntmps18
           go_step
           go_step
           go_step
           refine wpList_boxF rfl 28 (.tmp 0) rfl cs rfl ?_
           intro w1 h1 hb1 s1
           clear s1
           have c5 := (cellRow h1 37).trans f5
           have c6 := (cellRow h1 38).trans f6
           have c7 := (cellRow h1 39).trans f7
           clear h1 f0 f1 f2 f3 f4 f5 f6 f7 f8
           go_wp2_with fail
           go_ret
           refine ⟨congrArg Ending.returned (congrArg (Value.int .u64) ?_), hb1⟩
           rw [HR.out]
           simp
           try omega)
theorem lay2_any (g c base at_ : Nat) (xs : List UInt8) (n : Int) (w : World) (ho : OB w base (.slice (some ⟨g, 0, none⟩) xs.length c) xs) (hat : at_ + 1 < xs.length) (hcap : xs.length ≤ 70368744177664) (h0 : 0 ≤ n) (h1 : n ≤ 65535) :
    Calls Try.prog 20 #[.slice (some ⟨g, 0, none⟩) xs.length c, .int .i64 (at_ : Int), .int .u16 n] w fun e w' =>
      e = .returned (.tuple #[]) ∧ OB w' base (.slice (some ⟨g, 0, none⟩) xs.length c) ((xs.set at_ (hi8 n)).set (at_ + 1) (lo8 n)) ∧ Below base w w' ∧ Mod [g] w w' ∧ w'.heap.size = w.heap.size := by
  obtain ⟨g', e, hg1, hg2, _⟩ := ho.blk (by omega)
  injection e with e
  injection e with e
  subst e
  obtain ⟨k1, k2, k3⟩ := ho.store at_ (by omega)
  have k4 := k3 (hi8 n) (n / 256) (hi8_val n h0 h1).symm
  have hl2 : (xs.set at_ (hi8 n)).length = xs.length := List.length_set
  rw [← hl2] at k4
  obtain ⟨j1, j2, j3⟩ := k4.store (at_ + 1) (by omega)
  have j4 := j3 (lo8 n) (n % 256) (lo8_val n).symm
  rw [hl2] at j4
  have J4 := hid j4
  clear k3 k4 j3 j4 ho hl2
  go_enter Try.func20, Try.ntmps20
  go_wp2_with fail
  go_end0
  exact ⟨rfl, J4.out, ((Below.refl base w).setCell (by show base ≤ g; omega) _).setCell (by show base ≤ g; omega) _, (Mod.setCell g _ _ (by simp)).trans (Mod.setCell g _ _ (by simp)), by rw [size_setCell, size_setCell]⟩
end Go.Proofs.Ytpcfgihomplehaa
namespace Go.Proofs.Ytpcfgihomplehaa
set_option linter.unusedVariables false
set_option linter.unusedSimpArgs false
open Go.RowKit

theorem lit64_3 (x y z : Int) : ∀ w, (Instr.buildSlice 67 3 #[(0, .int .u64 x), (1, .int .u64 y), (2, .int .u64 z)]).run Try.prog w = .ok (.slice (some ⟨w.heap.size, 0, none⟩) 3 3) (w.alloc (.cells #[.int .u64 x, .int .u64 y, .int .u64 z] 44)) := by intro w; kernel_rfl
theorem nat64 (x : Nat) (h : x < 18446744073709551616) : (UInt64.ofNat x).toNat = x := by rw [UInt64.toNat_ofNat']; omega
theorem RN.lit3 {w : World} {b : Nat} {x y z : Nat} {T : TypeId} (h : w.heap[b]? = some (.cells #[.int .u64 (x : Int), .int .u64 (y : Int), .int .u64 (z : Int)] T (0, 0))) (hx : x < 18446744073709551616) (hy : y < 18446744073709551616) (hz : z < 18446744073709551616) :
    RN w (.slice (some ⟨b, 0, none⟩) 3 3) [UInt64.ofNat x, UInt64.ofNat y, UInt64.ofNat z] := by
  refine ⟨_, 3, rfl, by simp [by64], Nat.le_refl _, by omega, fun k v hv => ⟨_, rfl, ?_⟩⟩
  have hb : by64 [UInt64.ofNat x, UInt64.ofNat y, UInt64.ofNat z] = [.int .u64 (x : Int), .int .u64 (y : Int), .int .u64 (z : Int)] := by
    simp [by64, v64]
    omega
  rw [hb] at hv
  have e : ((⟨b, 0, none⟩ : Addr).add k) = ⟨b, k, none⟩ := by
    unfold Addr.add
    split
    · rename_i h0; subst h0; rfl
    · simp
  rw [e, cellRow h k]
  simpa using hv
theorem put2_three (x y z : Nat) (hx : x < 18446744073709551616) (hy : y < 18446744073709551616) (hz : z < 18446744073709551616) : beL (clampN 2) [UInt64.ofNat x, UInt64.ofNat y, UInt64.ofNat z] = beB 2 x ++ (beB 2 y ++ beB 2 z) := by
  simp only [beL, List.flatMap_cons, List.flatMap_nil, List.append_nil, nat64 x hx, nat64 y hy, nat64 z hz]
  rfl
theorem head4_set (p : Pkt) (n : Int) : ((head4 p 0).set 10 (hi8 n)).set 11 (lo8 n) = head4 p n := by
  unfold head4
  have l2 : (beB 2 (20 + p.load.length)).length = 2 := beB_length _ _
  have l4 : (beB 2 p.id).length = 2 := beB_length _ _
  have l6 : (beB 2 (flags4 p)).length = 2 := beB_length _ _
  generalize beB 2 (20 + p.load.length) = A at l2 ⊢
  generalize beB 2 p.id = B at l4 ⊢
  generalize beB 2 (flags4 p) = C at l6 ⊢
  match A, l2, B, l4, C, l6 with
  | [a0, a1], _, [b0, b1], _, [c0, c1], _ => rfl
theorem wtot_one (xs : List UInt8) : wtot [xs] = wsum xs := by rw [wtot_cons, wtot_nil, Int.add_zero]
theorem check4_range (p : Pkt) : 0 ≤ check4 p ∧ check4 p ≤ 65535 := by
  have := foldS_range (wsum (head4 p 0))
  unfold check4
  omega
theorem layR4_no {p : Pkt} (h : may4 p = false) : layR4 p = ([], 1) := by unfold layR4 lay4; rw [h]; rfl
theorem layR4_ok {p : Pkt} (h : may4 p = true) : layR4 p = (head4 p (check4 p) ++ p.load, 0) := by unfold layR4 lay4; rw [h]; rfl
theorem Adr.cut4 {a : Adr} (h : a.six = false) : a.cut = a.bytes.take 4 := by unfold Adr.cut; rw [h]; rfl
theorem adrBytes4 (a : Adr) (h : a.six = false) (w : World) : Calls Try.prog 19 #[.agg a.cells] w fun e w' =>
    ∃ A c, e = .returned (.slice A 4 c) ∧ OB w' w.heap.size (.slice A 4 c) (a.bytes.take 4) ∧ Below w.heap.size w w' := by
  have := adrBytes_any a w
  rw [Adr.cut4 h] at this
  exact this
end Go.Proofs.Ytpcfgihomplehaa
namespace Go.Proofs.Ytpcfgihomplehaa
set_option linter.unusedVariables false
set_option linter.unusedSimpArgs false
open Go.RowKit

set_option maxRecDepth 100000 in
set_option maxHeartbeats 2000000 in
theorem lay4_any (p : Pkt) (dv : Value) (w : World) (hp : p.Ok) (hd : RB w dv p.load) :
    Calls Try.prog 9 #[p.v dv] w (BytesPost (layR4 p) w) := by
  have HM := hid fun W (h : RB W dv p.load) => may4_any p dv W hp h
  have HRB := hid fun W (h : Below w.heap.size w W) => hd.below h
  obtain ⟨A, c, rfl, hrow⟩ := hd
  have hcap := hrow.cap
  have htop := hrow.top
  clear hrow
  unfold Pkt.v at *
  obtain ⟨r, hr⟩ : ∃ r, r = layR4 p := ⟨_, rfl⟩
  rw [← hr]
  go_enter Try.func9, Try.ntmps9
  go_step
  go_step
  refine wpList_boxF rfl 28 (.tmp 0) rfl (p.cells (.slice A p.load.length c)) rfl ?_
  intro w1 h1 hb1 s1
  have hl1 : w.heap.size < w1.heap.size := by omega
  clear s1
  cases hm : may4 p
  · have HR := hid (hr.trans (layR4_no hm))
    clear hr
    rw [hm] at HM
    go_wp2_with (first
      | ((with_reducible refine at_slot 5 ?_); refine wpList_load_row rfl 28 (.tmp 1) rfl w.heap.size rfl _ (p.cells (.slice A p.load.length c)) _ _ h1 Try.underlying28 rfl (info_pkt _ _) ?_)
      | (go_at_call 11; (with_reducible refine Calls.mono (HM.out _ (HRB.out _ hb1)) ?_); rintro e w2 ⟨rfl, hb2⟩))
    go_ret2
    exact BytesPost.nil HR.out (below_after hb1 hb2 (Nat.le_refl _))
  · have HR := hid (hr.trans (layR4_ok hm))
    clear hr
    have h4 := (may4_iff p).1 hm
    rw [hm] at HM
    have HS1 := hid h4.src
    have HS2 := hid h4.dst
    have hof := h4.off
    have hid' := h4.id
    have hph := p.hops.toNat_lt
    have hpp := p.proto.toNat_lt
    have hfl := flags4_le p h4
    have HFL := hid fun W (h : RB W (.slice A p.load.length c) p.load) => flags_any p _ W h4 h
    unfold Pkt.v at HFL
    obtain ⟨M0, hM0⟩ : ∃ M0, [69, 0] ++ (beB 2 (20 + p.load.length) ++ (beB 2 p.id ++ beB 2 (flags4 p))) = M0 := ⟨_, rfl⟩
    have l0 : M0.length = 8 := by rw [← hM0]; simp [beB_length]
    obtain ⟨M1, hM1⟩ : ∃ M1, M0 ++ [p.hops, p.proto, 0, 0] = M1 := ⟨_, rfl⟩
    have l1 : M1.length = 12 := by rw [← hM1, List.length_append, l0]; rfl
    obtain ⟨M2, hM2⟩ : ∃ M2, M1 ++ p.src.bytes.take 4 = M2 := ⟨_, rfl⟩
    have l2 : M2.length = 16 := by rw [← hM2, List.length_append, l1]; rfl
    obtain ⟨M3, hM3⟩ : ∃ M3, M2 ++ p.dst.bytes.take 4 = M3 := ⟨_, rfl⟩
    have l3 : M3.length = 20 := by rw [← hM3, List.length_append, l2]; rfl
    have h3 : head4 p 0 = M3 := by
      unfold head4
      rw [← hM3, ← hM2, ← hM1, ← hM0]
      simp
      exact ⟨by decide, by decide⟩
    obtain ⟨M4, hM4⟩ : ∃ M4, head4 p (check4 p) = M4 := ⟨_, rfl⟩
    have l4 : M4.length = 20 := by rw [← hM4, head4_len]
    obtain ⟨M5, hM5⟩ : ∃ M5, M4 ++ p.load = M5 := ⟨_, rfl⟩
    have hset := head4_set p (check4 p)
    rw [h3, hM4] at hset
    have hck := check4_range p
    have hcv : (65535 : Int) - foldS (wtot [M3]) = check4 p := by unfold check4; rw [wtot_one, h3]
    have HCK := hid fun W v (h : RBB W v [M3]) => check_any v [M3] W h (by simp [btot, l3])
    rw [hcv] at HCK
    obtain ⟨ck, hckd⟩ : ∃ ck, check4 p = ck := ⟨_, rfl⟩
    rw [hckd] at HCK hset hck hM4
    have HLY := hid fun W g c' (h : OB W w1.heap.size (.slice (some ⟨g, 0, none⟩) M3.length c') M3) => (lay2_any g c' w1.heap.size 10 M3 ck W h (by rw [l3]; decide) (by rw [l3]; decide) hck.1 hck.2 :
      Calls Try.prog 20 #[.slice (some ⟨g, 0, none⟩) M3.length c', .int .i64 10, .int .u16 ck] W _)
    simp only [Nat.reduceAdd] at HLY
    rw [hset] at HLY
    have hfin : head4 p (check4 p) ++ p.load = M5 := by rw [hckd, hM4, hM5]
    obtain ⟨fl, hfld⟩ : ∃ fl, flags4 p = fl := ⟨_, rfl⟩
    rw [hfld] at HFL hM0 hfl
    have HP := hid fun W v1 v2 (h1 : RB W v1 [69, 0]) (h2 : RN W v2 [UInt64.ofNat (20 + p.load.length), UInt64.ofNat p.id, UInt64.ofNat fl]) => put_any v1 v2 [69, 0] 2 [UInt64.ofNat (20 + p.load.length), UInt64.ofNat p.id, UInt64.ofNat fl] W h1 h2 (by omega) (by omega) (by simp)
    rw [put2_three (20 + p.load.length) p.id fl (by omega) (by omega) (by omega), hM0] at HP
    have HSZ := hid (show (20 : Int) + (p.load.length : Int) = ((20 + p.load.length : Nat) : Int) by omega)
    have HWL := hid (show IntKind.u64.wrap ((20 : Int) + (p.load.length : Int)) = (20 : Int) + (p.load.length : Int) by rw [IntKind.wrap_u64]; omega)
    have HWA := hid (show IntKind.i64.wrap ((20 : Int) + (p.load.length : Int)) = (20 : Int) + (p.load.length : Int) by rw [IntKind.wrap_i64]; omega)
    have HWI := hid (show IntKind.u64.wrap (p.id : Int) = (p.id : Int) by rw [IntKind.wrap_u64]; omega)
    have HM1 := hid hM1
    have HM2 := hid hM2
    have HM3 := hid hM3
    have HM5 := hid hM5
    have L0 := hid l0
    have L1 := hid l1
    have L2 := hid l2
    have L3 := hid l3
    have L4 := hid l4
    have HF := hid hfin
    clear hM0 hM1 hM2 hM3 hM4 hM5 l0 l1 l2 l3 l4 hfin hfld hckd hset hcv h3 h4 hm
    have FA := pkt_cells h1
    obtain ⟨f0, f1, f2, f3, f4, f5, f6, f7, f8⟩ := FA
    go_upto_region 3 with (first
      | ((with_reducible refine at_slot 5 ?_); refine wpList_load_row rfl 28 (.tmp 1) rfl w.heap.size rfl _ (p.cells (.slice A p.load.length c)) _ _ h1 Try.underlying28 rfl (info_pkt _ _) ?_)
      | (go_at_call 11; (with_reducible refine Calls.mono (HM.out _ (HRB.out _ hb1)) ?_); rintro e w2 ⟨rfl, hb2⟩))
    go_cut [4] (fun s4 wx => ∃ (A4 : Option Addr) (k4 : Nat), s4 = .slice A4 M0.length k4 ∧ OB wx w1.heap.size (.slice A4 M0.length k4) M0 ∧ Below w1.heap.size w1 wx)
    case first =>
      refine wp_region_hand (fun W' => Below w1.heap.size w1 W') (by kernel_rfl) (below_drewN hb2 1) ?_
      intro hS
      generalize ({ w2 with drawn := w2.drawn + 1 } : World) = u at hS ⊢
      refine wpAnyH_take (i := 1) (oi := ⟨some 9, _, _, _, _, _⟩) (v := ?_) rfl (by kernel_rfl) (by kernel_rfl) (by kernel_rfl) (fun _ _ _ h => h) (Or.inl ⟨by rfl, ?_⟩) hS ?_
      rotate_left 1
      focus ((intro W' hS'; go_simp) <;> with_reducible rfl)
      try simp only [Act.put, List.setIfInBounds_toArray, List.set_cons_zero, List.set_cons_succ]
      refine wpAnyH_take (i := 2) (oi := ⟨some 10, _, _, _, _, _⟩) (v := ?_) rfl (by kernel_rfl) (by kernel_rfl) (by kernel_rfl) (fun _ _ _ h => h) (Or.inl ⟨by rfl, ?_⟩) hS ?_
      rotate_left 1
      focus ((intro W' hS'; have q1 := keep_cell hS' f8 hl1; go_simp) <;> with_reducible rfl)
      try simp only [Act.put, List.setIfInBounds_toArray, List.set_cons_zero, List.set_cons_succ]
      refine wpAnyH_take (i := 3) (oi := ⟨some 11, _, _, _, _, _⟩) (v := ?_) rfl (by kernel_rfl) (by kernel_rfl) (by kernel_rfl) (fun _ _ _ h => h) (Or.inl ⟨by rfl, ?_⟩) hS ?_
      rotate_left 1
      focus ((intro W' hS'; go_simp) <;> with_reducible rfl)
      try simp only [Act.put, List.setIfInBounds_toArray, List.set_cons_zero, List.set_cons_succ]
      refine wpAnyH_take (i := 4) (oi := ⟨some 12, _, _, _, _, _⟩) (v := ?_) rfl (by kernel_rfl) (by kernel_rfl) (by kernel_rfl) (fun _ _ _ h => h) (Or.inl ⟨by rfl, ?_⟩) hS ?_
      rotate_left 1
      focus ((intro W' hS'; have q1 := HWA.out; go_simp) <;> with_reducible rfl)
      try simp only [Act.put, List.setIfInBounds_toArray, List.set_cons_zero, List.set_cons_succ]
      refine wpAnyH_take (i := 5) (oi := ⟨some 13, _, _, _, _, _⟩) (v := ?_) rfl (by kernel_rfl) (by kernel_rfl) (by kernel_rfl) (fun _ _ _ h => h) (Or.inl ⟨by rfl, ?_⟩) hS ?_
      rotate_left 1
      focus ((intro W' hS'; have q1 := HWL.out; go_simp) <;> with_reducible rfl)
      try simp only [Act.put, List.setIfInBounds_toArray, List.set_cons_zero, List.set_cons_succ]
      refine wpAnyH_take (i := 6) (oi := ⟨some 14, _, _, _, _, _⟩) (v := ?_) rfl (by kernel_rfl) (by kernel_rfl) (by kernel_rfl) (fun _ _ _ h => h) (Or.inl ⟨by rfl, ?_⟩) hS ?_
      rotate_left 1
      focus ((intro W' hS'; go_simp) <;> with_reducible rfl)
      try simp only [Act.put, List.setIfInBounds_toArray, List.set_cons_zero, List.set_cons_succ]
      refine wpAnyH_take (i := 7) (oi := ⟨some 15, _, _, _, _, _⟩) (v := ?_) rfl (by kernel_rfl) (by kernel_rfl) (by kernel_rfl) (fun _ _ _ h => h) (Or.inl ⟨by rfl, ?_⟩) hS ?_
      rotate_left 1
      focus ((intro W' hS'; have q1 := keep_cell hS' f4 hl1; go_simp) <;> with_reducible rfl)
      try simp only [Act.put, List.setIfInBounds_toArray, List.set_cons_zero, List.set_cons_succ]
      refine wpAnyH_take (i := 8) (oi := ⟨some 16, _, _, _, _, _⟩) (v := ?_) rfl (by kernel_rfl) (by kernel_rfl) (by kernel_rfl) (fun _ _ _ h => h) (Or.inl ⟨by rfl, ?_⟩) hS ?_
      rotate_left 1
      focus ((intro W' hS'; have q1 := HWI.out; go_simp) <;> with_reducible rfl)
      try simp only [Act.put, List.setIfInBounds_toArray, List.set_cons_zero, List.set_cons_succ]
      refine wpAnyH_take (i := 9) (oi := ⟨some 17, _, _, _, _, _⟩) rfl (by kernel_rfl) (by kernel_rfl) (by kernel_rfl) (fun _ _ _ h => h) (yields_row 28 (.tmp 1) rfl (by rfl) ⟨w.heap.size, 0, none⟩ rfl (p.cells (.slice A p.load.length c)) _ (fun W' hS' => (cells_part ((hS'.block _ hl1).trans h1) (fun j u h => by rw [Nat.zero_add]; exact h))) Try.underlying28 rfl (info_pkt _ _)) hS ?_
      try simp only [Act.put, List.setIfInBounds_toArray, List.set_cons_zero, List.set_cons_succ]
      refine anyH_two (i := 0) (j := 10) (by kernel_rfl) (op_in ⟨some 8, _, _, _, _, _⟩ rfl (by rfl) ?_) (op_in ⟨some 18, _, _, _, _, _⟩ rfl (by rfl) ?_)
      · refine wp_litF 26 5 2 _ rfl #[(0, .int .u8 69), (1, .int .u8 0)] (by simp [Act.eval]) _ (lit8_2 _ _) ?_
        intro u h hb s
        clear s
        try have r8 := r8.below hb
        try have n19 := n19.below hb
        have hS2 := hS.trans (hb.mono hS.size)
        refine ⟨hS2, ?_⟩
        clear hS
        have hS := hS2
        clear hS2
        try simp only [Act.put, List.setIfInBounds_toArray, List.set_cons_zero, List.set_cons_succ]
        have r8 : RB u (.slice (some ⟨_, 0, none⟩) 2 2) [69, 0] := RB.lit h rfl (by omega) rfl
        clear hb h
        refine anyH_one (i := 10) (by kernel_rfl) ⟨some 18, _, _, _, _, _⟩ rfl (by rfl) ?_
        go_simp
        with_reducible refine Calls.mono (HFL.out _ (HRB.out _ (hb1.trans (hS.mono hb1.size)))) ?_
        rintro e u ⟨rfl, hb⟩
        try have r8 := r8.below hb
        try have n19 := n19.below hb
        have hS2 := hS.trans (hb.mono hS.size)
        refine ⟨hS2, ?_⟩
        clear hS
        have hS := hS2
        clear hS2
        try simp only [Act.put, List.setIfInBounds_toArray, List.set_cons_zero, List.set_cons_succ]
        clear hb
        refine anyH_one (i := 11) (by kernel_rfl) ⟨some 19, _, _, _, _, _⟩ rfl (by rfl) ?_
        refine wp_litF 67 44 3 _ rfl #[(0, .int .u64 (20 + (p.load.length : Int))), (1, .int .u64 (p.id : Int)), (2, .int .u64 (fl : Int))] (by simp [Act.eval]) _ (lit64_3 _ _ _) ?_
        intro u h hb s
        clear s
        try have r8 := r8.below hb
        try have n19 := n19.below hb
        have hS2 := hS.trans (hb.mono hS.size)
        refine ⟨hS2, ?_⟩
        clear hS
        have hS := hS2
        clear hS2
        try simp only [Act.put, List.setIfInBounds_toArray, List.set_cons_zero, List.set_cons_succ]
        have n19 := (by rw [HSZ.out] at h; exact RN.lit3 h (by omega) (by omega) (by omega) : RN _ _ [UInt64.ofNat (20 + p.load.length), UInt64.ofNat p.id, UInt64.ofNat fl])
        clear hb h
        refine anyH_one (i := 12) (by kernel_rfl) ⟨some 20, _, _, _, _, _⟩ rfl (by rfl) ?_
        go_simp
        with_reducible refine Calls.mono (HP.out _ _ _ r8 n19) ?_
        rintro e u ⟨A, k, rfl, o4, hb⟩
        have o4 := o4.lower hS.size
        try have r8 := r8.below hb
        try have n19 := n19.below hb
        have hS2 := hS.trans (hb.mono hS.size)
        refine ⟨hS2, ?_⟩
        clear hS
        have hS := hS2
        clear hS2
        try simp only [Act.put, List.setIfInBounds_toArray, List.set_cons_zero, List.set_cons_succ]
        clear hb
        refine wpAnyH_take (i := 13) (oi := ⟨some 4, _, _, _, _, _⟩) (v := ?_) rfl (by kernel_rfl) (by kernel_rfl) (by kernel_rfl) (fun _ _ _ h => h) (Or.inl ⟨by rfl, ?_⟩) hS ?_
        rotate_left 1
        focus ((intro W' hS'; go_simp) <;> with_reducible rfl)
        try simp only [Act.put, List.setIfInBounds_toArray, List.set_cons_zero, List.set_cons_succ]
        refine wpAnyH_done (by kernel_rfl) ?_ _
        go_wp2_with fail
        go_meet
        exact ⟨A, k, rfl, o4, hS⟩
      · go_simp
        with_reducible refine Calls.mono (HFL.out _ (HRB.out _ (hb1.trans (hS.mono hb1.size)))) ?_
        rintro e u ⟨rfl, hb⟩
        try have r8 := r8.below hb
        try have n19 := n19.below hb
        have hS2 := hS.trans (hb.mono hS.size)
        refine ⟨hS2, ?_⟩
        clear hS
        have hS := hS2
        clear hS2
        try simp only [Act.put, List.setIfInBounds_toArray, List.set_cons_zero, List.set_cons_succ]
        clear hb
        refine anyH_two (i := 0) (j := 11) (by kernel_rfl) (op_in ⟨some 8, _, _, _, _, _⟩ rfl (by rfl) ?_) (op_in ⟨some 19, _, _, _, _, _⟩ rfl (by rfl) ?_)
        · refine wp_litF 26 5 2 _ rfl #[(0, .int .u8 69), (1, .int .u8 0)] (by simp [Act.eval]) _ (lit8_2 _ _) ?_
          intro u h hb s
          clear s
          try have r8 := r8.below hb
          try have n19 := n19.below hb
          have hS2 := hS.trans (hb.mono hS.size)
          refine ⟨hS2, ?_⟩
          clear hS
          have hS := hS2
          clear hS2
          try simp only [Act.put, List.setIfInBounds_toArray, List.set_cons_zero, List.set_cons_succ]
          have r8 : RB u (.slice (some ⟨_, 0, none⟩) 2 2) [69, 0] := RB.lit h rfl (by omega) rfl
          clear hb h
          refine anyH_one (i := 11) (by kernel_rfl) ⟨some 19, _, _, _, _, _⟩ rfl (by rfl) ?_
          refine wp_litF 67 44 3 _ rfl #[(0, .int .u64 (20 + (p.load.length : Int))), (1, .int .u64 (p.id : Int)), (2, .int .u64 (fl : Int))] (by simp [Act.eval]) _ (lit64_3 _ _ _) ?_
          intro u h hb s
          clear s
          try have r8 := r8.below hb
          try have n19 := n19.below hb
          have hS2 := hS.trans (hb.mono hS.size)
          refine ⟨hS2, ?_⟩
          clear hS
          have hS := hS2
          clear hS2
          try simp only [Act.put, List.setIfInBounds_toArray, List.set_cons_zero, List.set_cons_succ]
          have n19 := (by rw [HSZ.out] at h; exact RN.lit3 h (by omega) (by omega) (by omega) : RN _ _ [UInt64.ofNat (20 + p.load.length), UInt64.ofNat p.id, UInt64.ofNat fl])
          clear hb h
          refine anyH_one (i := 12) (by kernel_rfl) ⟨some 20, _, _, _, _, _⟩ rfl (by rfl) ?_
          go_simp
          with_reducible refine Calls.mono (HP.out _ _ _ r8 n19) ?_
          rintro e u ⟨A, k, rfl, o4, hb⟩
          have o4 := o4.lower hS.size
          try have r8 := r8.below hb
          try have n19 := n19.below hb
          have hS2 := hS.trans (hb.mono hS.size)
          refine ⟨hS2, ?_⟩
          clear hS
          have hS := hS2
          clear hS2
          try simp only [Act.put, List.setIfInBounds_toArray, List.set_cons_zero, List.set_cons_succ]
          clear hb
          refine wpAnyH_take (i := 13) (oi := ⟨some 4, _, _, _, _, _⟩) (v := ?_) rfl (by kernel_rfl) (by kernel_rfl) (by kernel_rfl) (fun _ _ _ h => h) (Or.inl ⟨by rfl, ?_⟩) hS ?_
          rotate_left 1
          focus ((intro W' hS'; go_simp) <;> with_reducible rfl)
          try simp only [Act.put, List.setIfInBounds_toArray, List.set_cons_zero, List.set_cons_succ]
          refine wpAnyH_done (by kernel_rfl) ?_ _
          go_wp2_with fail
          go_meet
          exact ⟨A, k, rfl, o4, hS⟩
        · refine wp_litF 67 44 3 _ rfl #[(0, .int .u64 (20 + (p.load.length : Int))), (1, .int .u64 (p.id : Int)), (2, .int .u64 (fl : Int))] (by simp [Act.eval]) _ (lit64_3 _ _ _) ?_
          intro u h hb s
          clear s
          try have r8 := r8.below hb
          try have n19 := n19.below hb
          have hS2 := hS.trans (hb.mono hS.size)
          refine ⟨hS2, ?_⟩
          clear hS
          have hS := hS2
          clear hS2
          try simp only [Act.put, List.setIfInBounds_toArray, List.set_cons_zero, List.set_cons_succ]
          have n19 := (by rw [HSZ.out] at h; exact RN.lit3 h (by omega) (by omega) (by omega) : RN _ _ [UInt64.ofNat (20 + p.load.length), UInt64.ofNat p.id, UInt64.ofNat fl])
          clear hb h
          refine anyH_one (i := 0) (by kernel_rfl) ⟨some 8, _, _, _, _, _⟩ rfl (by rfl) ?_
          refine wp_litF 26 5 2 _ rfl #[(0, .int .u8 69), (1, .int .u8 0)] (by simp [Act.eval]) _ (lit8_2 _ _) ?_
          intro u h hb s
          clear s
          try have r8 := r8.below hb
          try have n19 := n19.below hb
          have hS2 := hS.trans (hb.mono hS.size)
          refine ⟨hS2, ?_⟩
          clear hS
          have hS := hS2
          clear hS2
          try simp only [Act.put, List.setIfInBounds_toArray, List.set_cons_zero, List.set_cons_succ]
          have r8 : RB u (.slice (some ⟨_, 0, none⟩) 2 2) [69, 0] := RB.lit h rfl (by omega) rfl
          clear hb h
          refine anyH_one (i := 12) (by kernel_rfl) ⟨some 20, _, _, _, _, _⟩ rfl (by rfl) ?_
          go_simp
          with_reducible refine Calls.mono (HP.out _ _ _ r8 n19) ?_
          rintro e u ⟨A, k, rfl, o4, hb⟩
          have o4 := o4.lower hS.size
          try have r8 := r8.below hb
          try have n19 := n19.below hb
          have hS2 := hS.trans (hb.mono hS.size)
          refine ⟨hS2, ?_⟩
          clear hS
          have hS := hS2
          clear hS2
          try simp only [Act.put, List.setIfInBounds_toArray, List.set_cons_zero, List.set_cons_succ]
          clear hb
          refine wpAnyH_take (i := 13) (oi := ⟨some 4, _, _, _, _, _⟩) (v := ?_) rfl (by kernel_rfl) (by kernel_rfl) (by kernel_rfl) (fun _ _ _ h => h) (Or.inl ⟨by rfl, ?_⟩) hS ?_
          rotate_left 1
          focus ((intro W' hS'; go_simp) <;> with_reducible rfl)
          try simp only [Act.put, List.setIfInBounds_toArray, List.set_cons_zero, List.set_cons_succ]
          refine wpAnyH_done (by kernel_rfl) ?_ _
          go_wp2_with fail
          go_meet
          exact ⟨A, k, rfl, o4, hS⟩
    case rest =>
      obtain ⟨A4, k4, rfl, o4, hbc⟩ := hcut
      have q2 := keep_cell hbc f2 hl1
      have q3 := keep_cell hbc f3 hl1
      clear f0 f1 f2 f3 f4 f5 f6 f7
      go_wp2_with (first
        | ((with_reducible refine at_slot 26 ?_); refine wpList_litF rfl 26 5 4 _ rfl #[(0, .int .u8 (p.hops.toNat : Int)), (1, .int .u8 (p.proto.toNat : Int)), (2, .int .u8 0), (3, .int .u8 0)] (by simp [Act.eval]) _ (lit8_4 _ _ _ _) ?_; intro u5 h5 hb5 s5; clear s5; have S5 := hbc.trans (hb5.mono hbc.size); have o5 := o4.below hb5)
        | ((with_reducible refine at_slot 27 ?_); refine append_u8 (.tmp 21) (.tmp 26) w1.heap.size M0 [p.hops, p.proto, 0, 0] M1 HM1.out rfl rfl rfl rfl o5 (RB.lit h5 rfl (by omega) rfl) (by rw [L0.out]; simp) S5.size ?_; intro A6 k6 u6 o6 hb6 _ _; have S6 := S5.trans hb6; have hk6 := (S6.block w.heap.size hl1).trans h1)
        | ((with_reducible refine at_slot 30 ?_); refine wpList_load_at 24 (.tmp 29) rfl rfl ⟨w.heap.size, 0, none⟩ rfl p.src.cells _ (cells_part hk6 (p.srcAt _)) Try.underlying24 rfl (info_addr _) ?_)
        | (go_at_call 19; (with_reducible refine Calls.mono (adrBytes4 p.src HS1.out _) ?_); rintro e u7 ⟨A7, k7, rfl, r7, hb7⟩; have S7 := S6.trans (hb7.mono S6.size); have o7 := o6.below hb7)
        | ((with_reducible refine at_slot 32 ?_); refine append_u8 (.tmp 28) (.tmp 31) w1.heap.size M1 (p.src.bytes.take 4) M2 HM2.out rfl rfl rfl rfl o7 r7.rb (by rw [L1.out]; simp [Adr.bytes_length]) S7.size ?_; intro A8 k8 u8 o8 hb8 _ _; have S8 := S7.trans hb8; have hk8 := (S8.block w.heap.size hl1).trans h1)
        | ((with_reducible refine at_slot 35 ?_); refine wpList_load_at 24 (.tmp 34) rfl rfl ⟨w.heap.size, 17, none⟩ rfl p.dst.cells _ (cells_part hk8 (p.dstAt _)) Try.underlying24 rfl (info_addr _) ?_)
        | (go_at_call 19; (with_reducible refine Calls.mono (adrBytes4 p.dst HS2.out _) ?_); rintro e u9 ⟨A9, k9, rfl, r9, hb9⟩; have S9 := S8.trans (hb9.mono S8.size); have o9 := o8.below hb9)
        | ((with_reducible refine at_slot 37 ?_); refine append_u8 (.tmp 33) (.tmp 36) w1.heap.size M2 (p.dst.bytes.take 4) M3 HM3.out rfl rfl rfl rfl o9 r9.rb (by rw [L2.out]; simp [Adr.bytes_length]) S9.size ?_; intro A10 k10 u10 o10 hb10 _ _; have S10 := S9.trans hb10; obtain ⟨g, rfl, hg1, hg2, _⟩ := o10.blk (by rw [L3.out]; decide))
        | (go_at_call 21; (with_reducible refine Calls.mono (HCK.out _ _ (RBB.new1 u10 _ M3 _ _ rfl o10.rb)) ?_); rintro e u11 ⟨rfl, nd, rfl⟩; (have o11 := (o10.alloc (.cells #[.slice (some ⟨g, 0, none⟩) M3.length k10] 26)).drewN nd); (have S11 := below_drewN (S10.trans ((bl1 u10 (.cells #[.slice (some ⟨g, 0, none⟩) M3.length k10] 26)).mono S10.size)) nd))
        | (go_at_call 20; (with_reducible refine Calls.mono (HLY.out _ _ _ o11) ?_); rintro e u12 ⟨rfl, o12, hb12, m12, s12⟩; have S12 := S11.trans hb12; have q8 := keep_cell S12 f8 hl1; clear s12 m12)
        | ((with_reducible refine at_slot 46 ?_); refine append_u8 (.tmp 43) (.tmp 45) w1.heap.size M4 p.load M5 HM5.out rfl rfl rfl rfl o12 (HRB.out _ (hb1.trans (S12.mono hb1.size))) (by rw [L4.out]; omega) S12.size ?_; intro A13 k13 u13 o13 hb13 _ _; have S13 := S12.trans hb13)
        )
      go_ret2
      exact BytesPost.of (by rw [← HF.out]; exact HR.out) rfl hb1.size o13 (hb1.trans (S13.mono hb1.size))
end Go.Proofs.Ytpcfgihomplehaa
