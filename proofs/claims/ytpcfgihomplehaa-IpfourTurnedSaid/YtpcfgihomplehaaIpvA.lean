/- What the walks of layer 10 share. Walk: addr.May. Walk: the reference's May of an address. Walks: whether a packet may be, and the reference. -/
import Derived.Test.YtpcfgihomplehaaPk4L
import Derived.Test.YtpcfgihomplehaaPktB
import Derived.Test.YtpcfgihomplehaaSlc
import Derived.Test.YtpcfgihomplehaaAdrC
import Derived.Test.YtpcfgihomplehaaBuf
import Derived.Test.YtpcfgihomplehaaQRow
import Derived.Laws.Cover3
namespace Go.Proofs.Ytpcfgihomplehaa
set_option linter.unusedVariables false
set_option linter.unusedSimpArgs false
open Go.RowKit

def nilS : Value := .slice none 0 0
theorem Adr.oneL (a : Adr) : ∀ u ∈ a.cells.toList, u.oneCell' = true := by
  have h := Array.all_eq_true_iff_forall_mem.1 (Adr.one a)
  exact fun u hu => h u (by simpa using hu)
theorem Pkt.one (p : Pkt) (dv : Value) (h : dv.oneCell' = true) : (p.cells dv).all (·.oneCell') = true := by
  simp [Pkt.cells, Adr.cells, Pkt.rest, Value.oneCell', h] at *
  try exact h
theorem build_noPkt : ∀ w, (Instr.build 28 #[]).run Try.prog w = .ok (.agg (noPkt.cells nilS)) w := by intro w; kernel_rfl
theorem alloc_noPkt : ∀ w, (Instr.alloc 28 true (.tuple #[])).run Try.prog w = .ok (.pointer (some ⟨w.heap.size, 0, none⟩)) (w.alloc (.cells (noPkt.cells nilS) 28)) := by intro w; kernel_rfl
def BytesPost (r : List UInt8 × Int) (w : World) (e : Ending) (w' : World) : Prop :=
  ∃ A c, e = .returned (.tuple #[.slice A r.1.length c, .int .i64 r.2]) ∧ OB w' w.heap.size (.slice A r.1.length c) r.1 ∧ Below w.heap.size w w'
theorem BytesPost.nil {r : List UInt8 × Int} {n : Int} {w w' : World} (hr : r = ([], n)) (hb : Below w.heap.size w w') : BytesPost r w (.returned (.tuple #[.slice none 0 0, .int .i64 n])) w' := by
  subst hr
  exact ⟨none, 0, rfl, OB.nil _ _, hb⟩
theorem BytesPost.of {r : List UInt8 × Int} {xs : List UInt8} {n : Int} {A : Option Addr} {m c base : Nat} {w w' : World} (hr : r = (xs, n)) (hm : m = xs.length) (hbase : w.heap.size ≤ base) (ho : OB w' base (.slice A m c) xs) (hb : Below w.heap.size w w') : BytesPost r w (.returned (.tuple #[.slice A m c, .int .i64 n])) w' := by
  subst hr hm
  exact ⟨A, c, rfl, ho.lower hbase, hb⟩
theorem RB.one {w : World} {v : Value} {xs : List UInt8} (h : RB w v xs) : v.oneCell' = true := by obtain ⟨A, c, rfl, _⟩ := h; rfl
/-- Bytes whose block is older than the one that has turned. -/
theorem RB.mod' {w w' : World} {v : Value} {xs : List UInt8} {g : Nat} (h : RB w v xs) (hl : ∀ A m c, v = .slice (some A) m c → 0 < m → A.block < g) (hm : Mod [g] w w') : RB w' v xs := by
  obtain ⟨A, c, rfl, r⟩ := h
  refine ⟨A, c, rfl, r.len, r.cap, r.top, fun k u hu => ?_⟩
  obtain ⟨ad, rfl, hc⟩ := r.at_ k u hu
  refine ⟨ad, rfl, hm.cell hc ?_⟩
  rw [add_block]
  have h1 := (List.getElem?_eq_some_iff.1 hu).1
  rw [by8_length] at h1
  have := hl ad _ _ rfl (by omega)
  simp
  omega
def ParPost4 (b : List UInt8) (w : World) (e : Ending) (w' : World) : Prop :=
  ∃ dv, e = .returned (.tuple #[(parse4 b).1.v dv, .int .i64 (parse4 b).2]) ∧ RB w' dv (parse4 b).1.load ∧ Below w.heap.size w w'
theorem ParPost4.err {b : List UInt8} {n : Int} {w w' : World} (h : parse4 b = (noPkt, n)) (hb : Below w.heap.size w w') : ParPost4 b w (.returned (.tuple #[noPkt.v nilS, .int .i64 n])) w' :=
  ⟨nilS, by rw [h], by rw [h]; exact RB.nil _, hb⟩
end Go.Proofs.Ytpcfgihomplehaa
namespace Go.Proofs.Ytpcfgihomplehaa
set_option linter.unusedVariables false
set_option linter.unusedSimpArgs false
open Go.RowKit

def zeros12 : List UInt8 := [0, 0, 0, 0, 0, 0, 0, 0, 0, 0, 0, 0]
theorem bytes12_keyLits (l : List UInt8) (hl : l.length = 12) : Try.prog.keyLits 2 72 (by8 l) = some (l.map fun x => Lit.int .u8 (x.toNat : Int)) := by
  have hu : Try.prog.underlying 72 = some (.array 12 5) := Try.underlying72
  have hc : Try.prog.cellsOf 72 = 12 := by kernel_rfl
  have h1 : Try.prog.cellsOf 5 = 1 := by kernel_rfl
  unfold Program.keyLits
  rw [hu]
  simp only [hc, h1, by8_length, hl, if_true]
  have key : ∀ i, i < 12 → Try.prog.keyLits 1 5 (((by8 l).drop (i * 1)).take 1) = some [Lit.int .u8 ((l.getD i 0).toNat : Int)] := by
    intro i hi
    have : ((by8 l).drop (i * 1)).take 1 = [.int .u8 ((l.getD i 0).toNat : Int)] := by
      rw [Nat.mul_one, List.drop_eq_getElem_cons (by rw [by8_length]; omega)]
      simp [by8, u8, List.getD_eq_getElem?_getD, List.getElem?_eq_getElem (show i < l.length by omega)]
    rw [this, byte_keyLits]
  have hm : (List.range 12).mapM (fun i => Try.prog.keyLits 1 5 (((by8 l).drop (i * 1)).take 1)) = some ((List.range 12).map fun i => [Lit.int .u8 ((l.getD i 0).toNat : Int)]) := by
    rw [List.range_eq_range']
    simp only [List.range', List.mapM_cons, List.mapM_nil, Nat.reduceAdd, Nat.reduceMul]
    have k := fun i hi => key i hi
    simp only [Nat.mul_one] at k
    have k0 := key 0 (by omega)
    have k1 := key 1 (by omega)
    simp at k0 k1
    simp [k, k0, k1]
  rw [hm]
  obtain ⟨x0, x1, x2, x3, x4, x5, x6, x7, x8, x9, x10, x11, rfl⟩ : ∃ x0 x1 x2 x3 x4 x5 x6 x7 x8 x9 x10 x11, l = [x0, x1, x2, x3, x4, x5, x6, x7, x8, x9, x10, x11] := by
    match l, hl with
    | [x0, x1, x2, x3, x4, x5, x6, x7, x8, x9, x10, x11], _ => exact ⟨_, _, _, _, _, _, _, _, _, _, _, _, rfl⟩
  rfl
def arr8 (l : List UInt8) : Array Value := (by8 l).toArray
theorem formed12_at (x0 x1 x2 x3 x4 x5 x6 x7 x8 x9 x10 x11 : UInt8) : Value.formed Try.prog 72 (.agg (arr8 [x0, x1, x2, x3, x4, x5, x6, x7, x8, x9, x10, x11])) = true := by kernel_rfl
theorem formed12 (l : List UInt8) (hl : l.length = 12) : Value.formed Try.prog 72 (.agg (arr8 l)) = true := by
  match l, hl with
  | [x0, x1, x2, x3, x4, x5, x6, x7, x8, x9, x10, x11], _ => exact formed12_at x0 x1 x2 x3 x4 x5 x6 x7 x8 x9 x10 x11
theorem eql_12 (xs ys : List UInt8) (hx : xs.length = 12) (hy : ys.length = 12) (w : World) : (binOp .eql 72 (.agg (arr8 xs)) (.agg (arr8 ys))).run Try.prog w = .ok (.bool (decide (xs = ys))) w := by
  have hk : Try.prog.keyTypeAt 2 72 = true := by kernel_rfl
  obtain ⟨r, hr, hiff⟩ := run_equalIn_deep 9998 2 72 hk w 2 2 (.agg (arr8 xs)) (.agg (arr8 ys)) _ _ (formed12 xs hx) (formed12 ys hy) (bytes12_keyLits xs hx) (bytes12_keyLits ys hy)
  rw [run_eql_struct, show (10000 : Nat) = 9998 + 2 by rfl, hr]
  have : r = decide (xs = ys) := by
    rw [Bool.eq_iff_iff, hiff, decide_eq_true_iff]
    constructor
    · intro h
      refine List.map_inj_right (fun x y hxy => ?_) |>.1 h
      injection hxy with _ hxy
      exact UInt8.toNat_inj.1 (by omega)
    · rintro rfl; rfl
  rw [this]
  rfl
theorem guard_12 (op : BinOp) (x y : Operand) (xs ys : List UInt8) (w : World) : (eqGuard op 72 x y (.agg (arr8 xs)) (.agg (arr8 ys))).run Try.prog w = .ok () w := run_eqGuard_agg w op _ x y _ _ (by kernel_rfl)
theorem exec_eql12 {o : Oper} {c : Act} {w : World} (x y : Operand) (ho : o.op = .binOp .eql 72 x y 72) (xs ys : List UInt8) (h1 : xs.length = 12) (h2 : ys.length = 12) (hx : c.eval x = .agg (arr8 xs)) (hy : c.eval y = .agg (arr8 ys)) :
    (execOp c.eval o).run Try.prog w = .ok (.value (.bool (decide (xs = ys)))) w := by
  unfold execOp
  simp only [ho, hx, hy, Sem.run_bind, guard_12, eql_12 xs ys h1 h2, Result.andThen_ok, Sem.run_pure]
theorem build_12 : ∀ w, (Instr.build 72 #[]).run Try.prog w = .ok (.agg (arr8 zeros12)) w := by intro w; kernel_rfl
theorem size_12 : (Try.prog.info? 72).map (·.size) = some 12 := by kernel_rfl
theorem info_12 (l : List UInt8) (h : l.length = 12) : (Try.prog.info? 72).map (·.size) = some (arr8 l).size := by
  have : (arr8 l).size = 12 := by simp [arr8, by8, h]
  rw [this]; exact size_12
theorem Adr.tail_len (a : Adr) : a.tail.length = 12 := rfl
theorem Adr.tail_at (a : Adr) : ∀ (j : Nat) u, (arr8 a.tail)[j]? = some u → a.cells[5 + j]? = some u := by
  intro j u h
  have hl : a.cells.toList.drop 5 = by8 a.tail := rfl
  have : (by8 a.tail)[j]? = some u := by simpa [arr8] using h
  rw [← hl, List.getElem?_drop] at this
  simpa using this
theorem mayA_any (a : Adr) (w : World) : Calls Try.prog 24 #[.agg a.cells] w fun e w' => e = .returned (.bool (mayA a)) ∧ Below w.heap.size w w' := by
  have hat : ∀ (b : Nat) w, (Instr.arrayAt 72 (.slice (some ⟨b, 5, none⟩) 12 12)).run Try.prog w = .ok (.pointer (some ⟨b, 5, none⟩)) w := fun b w => run_arrayAt w _ _ 12 _ 12 12 Try.underlying72 (Nat.le_refl _)
  have h0 : a.cells[0]? = some (.bool a.six) := rfl
  have hT := hid a.tail_at
  have hI := info_addr a
  obtain ⟨r, hr⟩ : ∃ r, r = mayA a := ⟨_, rfl⟩
  rw [← hr]
  unfold mayA at hr
  have HM := hid hr
  clear hr
  cases h6 : a.six
  all_goals
    rw [h6] at h0 HM
    go_enter Try.func24, Try.ntmps24
    go_step
    go_step
    go_step
    refine wpList_boxF rfl 24 (.tmp 0) rfl a.cells rfl ?_
    intro w1 h1 hb1 s1
    clear s1
    have c0 := (cellRow h1 0).trans h0
    go_wp2_with (first
      | ((with_reducible refine at_slot 9 ?_); refine wpList_yieldG rfl (exec_loadAt 72 (.tmp 8) rfl ⟨w.heap.size, 5, none⟩ rfl (arr8 a.tail) _ (cells_part h1 hT.out) Try.underlying72 rfl (info_12 _ a.tail_len)) ?_)
      | ((with_reducible refine at_slot 10 ?_); refine wpList_yieldG rfl (exec_build 72 #[] rfl #[] rfl (.agg (arr8 zeros12)) build_12) ?_)
      | ((with_reducible refine at_slot 11 ?_); refine wpList_yieldG rfl (exec_eql12 (.tmp 9) (.tmp 10) rfl a.tail zeros12 a.tail_len rfl rfl rfl) ?_))
    go_ret
    rw [HM.out]
    exact ⟨rfl, hb1⟩
end Go.Proofs.Ytpcfgihomplehaa
namespace Go.Proofs.Ytpcfgihomplehaa
set_option linter.unusedVariables false
set_option linter.unusedSimpArgs false
open Go.RowKit

theorem rsize_any (a : Adr) (w : World) : Calls Try.prog 41 #[.agg a.cells] w fun e w' => e = .returned (.int .i64 (a.sizeS : Int)) ∧ Below w.heap.size w w' := by
  unfold Adr.cells Adr.sizeS
  go_enter Try.func41, Try.ntmps41
  cases a.six
  all_goals
    go_wp2
    go_ret
    exact ⟨rfl, below_alloc (Below.refl _ _) _ (Nat.le_refl _)⟩
theorem Adr.size_range (a : Adr) : 4 ≤ a.sizeS ∧ a.sizeS ≤ 16 := by unfold Adr.sizeS; split <;> omega
theorem mayA_yes (a : Adr) (h : ∀ j, a.sizeS ≤ j → j < 16 → a.bytes.getD j 0 = 0) : mayA a = true := by
  unfold mayA
  cases h6 : a.six
  · have hs : a.sizeS = 4 := by unfold Adr.sizeS; rw [h6]; rfl
    rw [hs] at h
    have h4 := fun j h1 h2 => h j h1 h2
    have e4 := h 4 (by omega) (by omega)
    have e5 := h 5 (by omega) (by omega)
    have e6 := h 6 (by omega) (by omega)
    have e7 := h 7 (by omega) (by omega)
    have e8 := h 8 (by omega) (by omega)
    have e9 := h 9 (by omega) (by omega)
    have e10 := h 10 (by omega) (by omega)
    have e11 := h 11 (by omega) (by omega)
    have e12 := h 12 (by omega) (by omega)
    have e13 := h 13 (by omega) (by omega)
    have e14 := h 14 (by omega) (by omega)
    have e15 := h 15 (by omega) (by omega)
    obtain ⟨s, b0, b1, b2, b3, b4, b5, b6, b7, b8, b9, b10, b11, b12, b13, b14, b15⟩ := a
    simp [Adr.bytes] at e4 e5 e6 e7 e8 e9 e10 e11 e12 e13 e14 e15
    simp [Adr.tail, Adr.bytes, e4, e5, e6, e7, e8, e9, e10, e11, e12, e13, e14, e15]
  · rfl
theorem mayA_no (a : Adr) (j : Nat) (h1 : a.sizeS ≤ j) (h2 : j < 16) (h3 : a.bytes.getD j 0 ≠ 0) : mayA a = false := by
  have h6 : a.six = false := by
    cases h : a.six
    · rfl
    · unfold Adr.sizeS at h1; rw [h] at h1; simp at h1; omega
  have hs : a.sizeS = 4 := by unfold Adr.sizeS; rw [h6]; rfl
  unfold mayA
  rw [h6, Bool.false_or]
  refine decide_eq_false fun hh => h3 ?_
  have : a.bytes.getD j 0 = a.tail.getD (j - 4) 0 := by
    unfold Adr.tail
    simp [List.getD_eq_getElem?_getD, List.getElem?_drop]
    rw [show 4 + (j - 4) = j by omega]
  rw [this, hh]
  have h5 : j - 4 < 12 := by omega
  generalize j - 4 = k at h5
  match k, h5 with
  | 0, _ | 1, _ | 2, _ | 3, _ | 4, _ | 5, _ | 6, _ | 7, _ | 8, _ | 9, _ | 10, _ | 11, _ => rfl
theorem rmayA_any (a : Adr) (w : World) : Calls Try.prog 25 #[.agg a.cells] w fun e w' => e = .returned (.bool (mayA a)) ∧ Below w.heap.size w w' := by
  have HS := hid fun W => rsize_any a W
  have HY := hid (mayA_yes a)
  have HN := hid (mayA_no a)
  obtain ⟨z0, z1⟩ := a.size_range
  have hI := info_addr a
  have HC := hid a.cells_byte
  have hlen := a.bytes_length
  have HL := hid hlen
  generalize mayA a = r at HY HN
  clear hlen
  generalize a.sizeS = n at *
  go_enter Try.func25, Try.ntmps25
  go_step
  go_step
  go_step
  refine wpList_boxF rfl 24 (.tmp 0) rfl a.cells rfl ?_
  intro w1 h1 hb1 s1
  have hl1 : w.heap.size < w1.heap.size := by omega
  clear s1
  go_wp2_with (first
    | ((with_reducible refine at_slot 4 ?_); refine wpList_load_row rfl 24 (.tmp 1) rfl w.heap.size rfl _ a.cells _ _ h1 Try.underlying24 rfl hI ?_))
  (with_reducible refine Calls.mono (HS.out _) ?_)
  rintro e w2 ⟨rfl, hb2⟩
  have h2 := (hb2.block _ hl1).trans h1
  have HB := hid (below_after hb1 hb2 (Nat.le_refl _))
  have H2 := hid h2
  clear hb1 hb2 h1 h2 hl1
  go_wp2_with fail
  go_loop [3] (fun i => ∃ k : Nat, k ≤ 16 ∧ i = .int .i64 k ∧ n ≤ k ∧ Hid (∀ j, n ≤ j → j < k → a.bytes.getD j 0 = 0)) (fun i => 16 - (intOf i).toNat)
  case atStart => exact ⟨n, z1, rfl, Nat.le_refl _, hid fun j h1 h2 => by omega⟩
  case round =>
    obtain ⟨k, hk, rfl, hnk, hz⟩ := hrel
    by_cases hlt : k < 16
    · have c1 := (cellRow H2.out (1 + k)).trans (HC.out k _ (by8_get a.bytes k (by rw [HL.out]; exact hlt)))
      by_cases hx : a.bytes.getD k 0 = 0
      · have HZ := hid (show ∀ j, n ≤ j → j < k + 1 → a.bytes.getD j 0 = 0 from fun j h1 h2 => by
          by_cases hj : j = k
          · rw [hj]; exact hx
          · exact hz.out j h1 (by omega))
        rw [hx] at c1
        clear hx hz
        go_wp2
        go_round
        case rel => exact ⟨k + 1, by omega, by go_num, by omega, HZ⟩
        case measure => simp [intOf]; omega
      · have HR := hid (HN.out k hnk hlt hx)
        have n1 : ((a.bytes.getD k 0).toNat : Int) ≠ 0 := fun h => hx (by rw [← UInt8.toNat_inj]; simpa using h)
        generalize a.bytes.getD k 0 = x at c1 n1
        have n2 : ((x.toNat : Int) != 0) = true := by simpa using n1
        have n3 : decide (x.toNat = 0) = false := decide_eq_false (by omega)
        have n4 : decide ((x.toNat : Int) = 0) = false := decide_eq_false n1
        clear hx hz n1
        go_wp2
        go_ret
        rw [HR.out]
        exact ⟨rfl, HB.out⟩
    · obtain rfl : k = 16 := by omega
      have HR := hid (HY.out hz.out)
      go_wp2
      go_ret
      rw [HR.out]
      exact ⟨rfl, HB.out⟩
end Go.Proofs.Ytpcfgihomplehaa
namespace Go.Proofs.Ytpcfgihomplehaa
set_option linter.unusedVariables false
set_option linter.unusedSimpArgs false
open Go.RowKit

set_option maxHeartbeats 2000000 in
theorem may4_any (p : Pkt) (dv : Value) (w : World) (hp : p.Ok) (hd : RB w dv p.load) :
    Calls Try.prog 11 #[p.v dv] w fun e w' => e = .returned (.bool (may4 p)) ∧ Below w.heap.size w w' := by
  obtain ⟨A, c, rfl, hr⟩ := hd
  have htop := hr.top
  have hcap := hr.cap
  have ho := hp.off
  have hid0 := hp.id
  clear hr hp
  obtain ⟨r, hr⟩ : ∃ r, r = may4 p := ⟨_, rfl⟩
  rw [← hr]
  unfold may4 at hr
  have HM := hid hr
  clear hr
  have PS := hid (p.srcAt (.slice A p.load.length c))
  have PD := hid (p.dstAt (.slice A p.load.length c))
  have HA := hid fun W => mayA_any p.src W
  have HB := hid fun W => mayA_any p.dst W
  have FA := p.at_ (.slice A p.load.length c)
  unfold Pkt.v
  generalize p.cells (.slice A p.load.length c) = cs at FA PS PD
  generalize mayA p.src = ma at HM HA
  generalize mayA p.dst = mb at HM HB
  generalize p.src.six = sa at HM FA
  generalize p.dst.six = sb at HM FA
  obtain ⟨f0, f1, f2, f3, f4, f5, f6, f7, f8⟩ := FA
  generalize p.off = off at *
  generalize p.id = pid at *
  generalize p.load.length = n at *
  generalize p.more = pm at *
  generalize p.whole = pw at *
  cases sa
  · cases sb
    · go_enter Try.func11, Try.ntmps11
      go_step
      go_step
      go_step
      refine wpList_boxF rfl 28 (.tmp 0) rfl cs rfl ?_
      intro w1 h1 hb1 s1
      have hl1 : w.heap.size < w1.heap.size := by omega
      clear s1
      have c0 := (cellRow h1 0).trans f0
      have c1 := (cellRow h1 17).trans f1
      go_wp2_with (first
        | ((with_reducible refine at_slot 14 ?_); refine wpList_yieldG rfl (exec_loadAt 24 (.tmp 13) rfl ⟨w.heap.size, 0, none⟩ rfl p.src.cells _ (cells_part h1 PS.out) Try.underlying24 rfl (info_addr _)) ?_))
      (with_reducible refine Calls.mono (HA.out _) ?_)
      rintro e w2 ⟨rfl, hb2⟩
      have h2 := (hb2.block _ hl1).trans h1
      have hB2 := below_after hb1 hb2 (Nat.le_refl _)
      have hl2 := Nat.lt_of_lt_of_le hl1 hb2.size
      clear hb1 hb2 h1 hl1 c0 c1
      cases ma
      · go_wp2_with fail
        go_ret
        rw [HM.out]
        exact ⟨rfl, hB2⟩
      · go_wp2_with (first
          | ((with_reducible refine at_slot 20 ?_); refine wpList_yieldG rfl (exec_loadAt 24 (.tmp 19) rfl ⟨w.heap.size, 17, none⟩ rfl p.dst.cells _ (cells_part h2 PD.out) Try.underlying24 rfl (info_addr _)) ?_))
        (with_reducible refine Calls.mono (HB.out _) ?_)
        rintro e w3 ⟨rfl, hb3⟩
        have h3 := (hb3.block _ hl2).trans h2
        have hB3 := below_after hB2 hb3 (Nat.le_refl _)
        clear hB2 hb3 h2 hl2
        cases mb
        · go_wp2_with fail
          go_ret
          rw [HM.out]
          exact ⟨rfl, hB3⟩
        · have c4 := (cellRow h3 36).trans f4
          have c5 := (cellRow h3 37).trans f5
          have c6 := (cellRow h3 38).trans f6
          have c7 := (cellRow h3 39).trans f7
          have c8 := (cellRow h3 40).trans f8
          clear h3 f0 f1 f2 f3 f4 f5 f6 f7 f8 PS PD HA HB
          go_wp2_with fail
          all_goals
            go_ret
            refine ⟨congrArg Ending.returned (congrArg Value.bool ?_), hB3⟩
            rw [HM.out, Bool.eq_iff_iff]
            clear htop hcap HM c4 c5 c6 c7 c8 hB3
            simp at *
            try simp [*]
            try omega
    · go_enter Try.func11, Try.ntmps11
      go_step
      go_step
      go_step
      refine wpList_boxF rfl 28 (.tmp 0) rfl cs rfl ?_
      intro w1 h1 hb1 s1
      have c0 := (cellRow h1 0).trans f0
      have c1 := (cellRow h1 17).trans f1
      go_wp2_with fail
      go_ret
      rw [HM.out]
      exact ⟨rfl, hb1⟩
  · go_enter Try.func11, Try.ntmps11
    go_step
    go_step
    go_step
    refine wpList_boxF rfl 28 (.tmp 0) rfl cs rfl ?_
    intro w1 h1 hb1 s1
    have c0 := (cellRow h1 0).trans f0
    have c1 := (cellRow h1 17).trans f1
    go_wp2_with fail
    go_ret
    rw [HM.out]
    exact ⟨rfl, hb1⟩

set_option maxHeartbeats 2000000 in
theorem rmay4_any (p : Pkt) (dv : Value) (w : World) (hp : p.Ok) (hd : RB w dv p.load) :
    Calls Try.prog 12 #[p.v dv] w fun e w' => e = .returned (.bool (may4 p)) ∧ Below w.heap.size w w' := by
  obtain ⟨A, c, rfl, hr⟩ := hd
  have htop := hr.top
  have hcap := hr.cap
  have ho := hp.off
  have hid0 := hp.id
  clear hr hp
  obtain ⟨r, hr⟩ : ∃ r, r = may4 p := ⟨_, rfl⟩
  rw [← hr]
  unfold may4 at hr
  have HM := hid hr
  clear hr
  have PS := hid (p.srcAt (.slice A p.load.length c))
  have PD := hid (p.dstAt (.slice A p.load.length c))
  have HA := hid fun W => rmayA_any p.src W
  have HB := hid fun W => rmayA_any p.dst W
  have FA := p.at_ (.slice A p.load.length c)
  unfold Pkt.v
  generalize p.cells (.slice A p.load.length c) = cs at FA PS PD
  generalize mayA p.src = ma at HM HA
  generalize mayA p.dst = mb at HM HB
  generalize p.src.six = sa at HM FA
  generalize p.dst.six = sb at HM FA
  obtain ⟨f0, f1, f2, f3, f4, f5, f6, f7, f8⟩ := FA
  generalize p.off = off at *
  generalize p.id = pid at *
  generalize p.load.length = n at *
  generalize p.more = pm at *
  generalize p.whole = pw at *
  cases sa
  · cases sb
    · go_enter Try.func12, Try.ntmps12
      go_step
      go_step
      go_step
      refine wpList_boxF rfl 28 (.tmp 0) rfl cs rfl ?_
      intro w1 h1 hb1 s1
      have hl1 : w.heap.size < w1.heap.size := by omega
      clear s1
      have c0 := (cellRow h1 0).trans f0
      have c1 := (cellRow h1 17).trans f1
      go_wp2_with (first
        | ((with_reducible refine at_slot 13 ?_); refine wpList_yieldG rfl (exec_loadAt 24 (.tmp 12) rfl ⟨w.heap.size, 0, none⟩ rfl p.src.cells _ (cells_part h1 PS.out) Try.underlying24 rfl (info_addr _)) ?_))
      (with_reducible refine Calls.mono (HA.out _) ?_)
      rintro e w2 ⟨rfl, hb2⟩
      have h2 := (hb2.block _ hl1).trans h1
      have hB2 := below_after hb1 hb2 (Nat.le_refl _)
      have hl2 := Nat.lt_of_lt_of_le hl1 hb2.size
      clear hb1 hb2 h1 hl1 c0 c1
      cases ma
      · go_wp2_with fail
        go_ret
        rw [HM.out]
        exact ⟨rfl, hB2⟩
      · go_wp2_with (first
          | ((with_reducible refine at_slot 19 ?_); refine wpList_yieldG rfl (exec_loadAt 24 (.tmp 18) rfl ⟨w.heap.size, 17, none⟩ rfl p.dst.cells _ (cells_part h2 PD.out) Try.underlying24 rfl (info_addr _)) ?_))
        (with_reducible refine Calls.mono (HB.out _) ?_)
        rintro e w3 ⟨rfl, hb3⟩
        have h3 := (hb3.block _ hl2).trans h2
        have hB3 := below_after hB2 hb3 (Nat.le_refl _)
        clear hB2 hb3 h2 hl2
        cases mb
        · go_wp2_with fail
          go_ret
          rw [HM.out]
          exact ⟨rfl, hB3⟩
        · have c4 := (cellRow h3 36).trans f4
          have c5 := (cellRow h3 37).trans f5
          have c6 := (cellRow h3 38).trans f6
          have c7 := (cellRow h3 39).trans f7
          have c8 := (cellRow h3 40).trans f8
          clear h3 f0 f1 f2 f3 f4 f5 f6 f7 f8 PS PD HA HB
          go_wp2_with fail
          all_goals
            go_ret
            refine ⟨congrArg Ending.returned (congrArg Value.bool ?_), hB3⟩
            rw [HM.out, Bool.eq_iff_iff]
            clear htop hcap HM c4 c5 c6 c7 c8 hB3
            simp at *
            try simp [*]
            try omega
    · go_enter Try.func12, Try.ntmps12
      go_step
      go_step
      go_step
      refine wpList_boxF rfl 28 (.tmp 0) rfl cs rfl ?_
      intro w1 h1 hb1 s1
      have c0 := (cellRow h1 0).trans f0
      have c1 := (cellRow h1 17).trans f1
      go_wp2_with fail
      go_ret
      rw [HM.out]
      exact ⟨rfl, hb1⟩
  · go_enter Try.func12, Try.ntmps12
    go_step
    go_step
    go_step
    refine wpList_boxF rfl 28 (.tmp 0) rfl cs rfl ?_
    intro w1 h1 hb1 s1
    have c0 := (cellRow h1 0).trans f0
    have c1 := (cellRow h1 17).trans f1
    go_wp2_with fail
    go_ret
    rw [HM.out]
    exact ⟨rfl, hb1⟩
end Go.Proofs.Ytpcfgihomplehaa
