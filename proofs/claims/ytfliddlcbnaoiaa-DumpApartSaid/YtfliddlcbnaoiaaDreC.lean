/- Walk: the document's Segment (dump). -/
import Derived.Test.YtfliddlcbnaoiaaDreA
import Derived.Test.YtfliddlcbnaoiaaLinF
import Derived.Test.YtfliddlcbnaoiaaOptZ
namespace Go.Proofs.Ytfliddlcbnaoiaa
set_option linter.unusedVariables false
set_option linter.unusedSimpArgs false
open Go.RowKit

theorem fit_1 (k : Nat) (t : List UInt8) (hk : k ≤ 1000) (ht : t.length ≤ 1000000) : (9223372036854775807 < k + (strOf t).size) = False := by
  rw [strOf_size]; simp only [eq_iff_iff, iff_false]; omega
theorem fit_0 (k : Nat) (t : List UInt8) (hk : k ≤ 1000) (ht : t.length ≤ 1000000) : (9223372036854775807 < (strOf t).size + k) = False := by
  rw [strOf_size]; simp only [eq_iff_iff, iff_false]; omega
theorem fit_2 (k : Nat) (l t : List UInt8) (hk : k ≤ 1000) (hl : l.length ≤ 1000000) (ht : t.length ≤ 1000000) : (9223372036854775807 < (strOf l).size + (k + (strOf t).size)) = False := by
  rw [strOf_size, strOf_size]; simp only [eq_iff_iff, iff_false]; omega
theorem fit_3 (k j : Nat) (t : List UInt8) (hk : k ≤ 1000) (hj : j ≤ 1000) (ht : t.length ≤ 1000000) : (9223372036854775807 < k + (strOf t).size + j) = False := by
  rw [strOf_size]; simp only [eq_iff_iff, iff_false]; omega
theorem fit_4 (k j : Nat) (t u : List UInt8) (hk : k ≤ 1000) (hj : j ≤ 1000) (ht : t.length ≤ 1000000) (hu : u.length ≤ 1000000) : (9223372036854775807 < k + (strOf t).size + j + (strOf u).size) = False := by
  rw [strOf_size, strOf_size]; simp only [eq_iff_iff, iff_false]; omega
theorem fit_5 (k j : Nat) (l t u : List UInt8) (hk : k ≤ 1000) (hj : j ≤ 1000) (hl : l.length ≤ 1000000) (ht : t.length ≤ 1000000) (hu : u.length ≤ 1000000) : (9223372036854775807 < (strOf l).size + (k + (strOf t).size + j + (strOf u).size)) = False := by
  rw [strOf_size, strOf_size, strOf_size]; simp only [eq_iff_iff, iff_false]; omega
theorem addS_cons (l p : List UInt8) (h : l ≠ []) : addS l p = l ++ 32 :: p := if_neg h
theorem str_addN (l wd : List UInt8) (n : Nat) (h : l ≠ []) (C : ByteArray) (hC : C = strOf (32 :: wd ++ [32])) : strOf l ++ (C ++ strOf (tenS n)) = strOf (addN l wd [n]) := by
  have h2 := addS_ne2 l wd h
  rw [hC, ← strOf_append, ← strOf_append]
  show _ = strOf (addS (addS l wd) (tenS n))
  rw [addS_cons _ _ h2, addS_cons _ _ h]
  congr 1
  simp
theorem str_addN2 (l wd : List UInt8) (n m : Nat) (h : l ≠ []) (C : ByteArray) (hC : C = strOf (32 :: wd ++ [32])) : strOf l ++ (C ++ strOf (tenS n) ++ ⟨#[32]⟩ ++ strOf (tenS m)) = strOf (addN l wd [n, m]) := by
  have h2 := addS_ne2 l wd h
  have h3 := addS_ne2 (addS l wd) (tenS n) h2
  rw [hC, show (⟨#[32]⟩ : ByteArray) = strOf [32] from rfl, ← strOf_append, ← strOf_append, ← strOf_append, ← strOf_append]
  show _ = strOf (addS (addS (addS l wd) (tenS n)) (tenS m))
  rw [addS_cons _ _ h3, addS_cons _ _ h2, addS_cons _ _ h]
  congr 1
  simp
theorem str_addS (l p : List UInt8) (h : l ≠ []) (C : ByteArray) (hC : C = strOf (32 :: p)) : strOf l ++ C = strOf (addS l p) := by
  rw [hC, ← strOf_append, addS_cons _ _ h]
theorem str_data (l : List UInt8) (n : Nat) (h : l ≠ []) : strOf l ++ strOf (dataT n) = strOf (dataN l n) := by
  rw [← strOf_append]
  unfold dataT dataN
  by_cases hn : n = 0
  · rw [if_pos hn, if_neg (by omega)]
    simp
  · rw [if_neg hn, if_pos (by omega)]
    show _ = strOf (addS (addS l wData) (tenS n))
    rw [addS_cons _ _ (addS_ne2 l wData h), addS_cons _ _ h]
    congr 1
    simp [wData]
theorem dataT_len (n : Nat) (h : n ≤ 9223372036854775807) : (dataT n).length ≤ 26 := by
  unfold dataT
  have := tenS_20 n (by omega)
  split
  · simp
  · simp; omega
theorem fit_d (l t : List UInt8) (hl : l.length ≤ 1000000) (ht : t.length ≤ 1000000) : (9223372036854775807 < (strOf l).size + (strOf t).size) = False := by
  rw [strOf_size, strOf_size]; simp only [eq_iff_iff, iff_false]; omega
theorem str_sack2 (l : List UInt8) (x y : Nat) (h : l ≠ []) : strOf l ++ ((⟨#[32]⟩ : ByteArray) ++ strOf (tenS x) ++ ⟨#[45]⟩ ++ strOf (tenS y)) = strOf (addS l (sackT (x, y))) := by
  rw [addS_cons _ _ h, show (⟨#[32]⟩ : ByteArray) = strOf [32] from rfl, show (⟨#[45]⟩ : ByteArray) = strOf [45] from rfl, ← strOf_append, ← strOf_append, ← strOf_append, ← strOf_append]
  unfold sackT
  congr 1
  simp
theorem str_ao (l hx : List UInt8) (n m : Nat) (h : l ≠ []) : strOf l ++ ((⟨#[32, 97, 111, 32]⟩ : ByteArray) ++ strOf (tenS n) ++ ⟨#[32]⟩ ++ strOf (tenS m) ++ ⟨#[32]⟩ ++ strOf hx) = strOf (addS (addN l wAo [n, m]) hx) := by
  have h2 := addS_ne2 l wAo h
  have h3 := addS_ne2 (addS l wAo) (tenS n) h2
  have h4 := addS_ne2 _ (tenS m) h3
  show _ = strOf (addS (addS (addS (addS l wAo) (tenS n)) (tenS m)) hx)
  rw [addS_cons _ _ h4, addS_cons _ _ h3, addS_cons _ _ h2, addS_cons _ _ h, show (⟨#[32]⟩ : ByteArray) = strOf [32] from rfl, show (⟨#[32, 97, 111, 32]⟩ : ByteArray) = strOf (32 :: wAo ++ [32]) from rfl]
  simp only [← strOf_append]
  congr 1
  simp
theorem fit_ao (l t u v : List UInt8) (hl : l.length ≤ 1000000) (ht : t.length ≤ 1000000) (hu : u.length ≤ 1000000) (hv : v.length ≤ 1000000) :
    (9223372036854775807 < 4 + (strOf t).size + 1 + (strOf u).size + 1) = False ∧ (9223372036854775807 < 4 + (strOf t).size + 1 + (strOf u).size + 1 + (strOf v).size) = False ∧ (9223372036854775807 < (strOf l).size + (4 + (strOf t).size + 1 + (strOf u).size + 1 + (strOf v).size)) = False := by
  rw [strOf_size, strOf_size, strOf_size, strOf_size]
  simp only [eq_iff_iff, iff_false]
  omega
theorem fit_h (a b f c : List UInt8) (ha : a.length ≤ 20) (hb : b.length ≤ 20) (hf : f.length ≤ 20) (hc : c.length ≤ 20) :
    (9223372036854775807 < 4 + (strOf a).size) = False ∧ (9223372036854775807 < 4 + (strOf a).size + 3) = False ∧ (9223372036854775807 < 4 + (strOf a).size + 3 + (strOf b).size) = False ∧ (9223372036854775807 < 4 + (strOf a).size + 3 + (strOf b).size + 1) = False ∧
    (9223372036854775807 < 4 + (strOf a).size + 3 + (strOf b).size + 1 + (strOf f).size) = False ∧ (9223372036854775807 < 4 + (strOf a).size + 3 + (strOf b).size + 1 + (strOf f).size + 5) = False ∧ (9223372036854775807 < 4 + (strOf a).size + 3 + (strOf b).size + 1 + (strOf f).size + 5 + (strOf c).size) = False := by
  rw [strOf_size, strOf_size, strOf_size, strOf_size]
  simp only [eq_iff_iff, iff_false]
  omega
theorem str_head (a b c : Nat) (f : List UInt8) : (⟨#[116, 99, 112, 32]⟩ : ByteArray) ++ strOf (tenS a) ++ ⟨#[32, 62, 32]⟩ ++ strOf (tenS b) ++ ⟨#[32]⟩ ++ strOf f ++ ⟨#[32, 115, 101, 113, 32]⟩ ++ strOf (tenS c) = strOf (addN (addS (addN (addN [] wTcp [a]) wGt [b]) f) wSeq [c]) := by
  have h1 : addN [] wTcp [a] = wTcp ++ 32 :: tenS a := addS_cons wTcp (tenS a) (by decide)
  have n1 : addN [] wTcp [a] ≠ [] := addN_ne _ _ _ (by decide)
  have h2 : addN (addN [] wTcp [a]) wGt [b] = (wTcp ++ 32 :: tenS a) ++ 32 :: wGt ++ 32 :: tenS b := by
    show addS (addS (addN [] wTcp [a]) wGt) (tenS b) = _
    rw [addS_cons _ _ (addS_ne2 _ _ n1), addS_cons _ _ n1, h1]
  have n2 : addN (addN [] wTcp [a]) wGt [b] ≠ [] := addN_ne _ _ _ (by decide)
  have h4 : addN (addS (addN (addN [] wTcp [a]) wGt [b]) f) wSeq [c] = ((wTcp ++ 32 :: tenS a) ++ 32 :: wGt ++ 32 :: tenS b) ++ 32 :: f ++ 32 :: wSeq ++ 32 :: tenS c := by
    show addS (addS (addS (addN (addN [] wTcp [a]) wGt [b]) f) wSeq) (tenS c) = _
    rw [addS_cons _ _ (addS_ne2 _ _ (addS_ne2 _ _ n2)), addS_cons _ _ (addS_ne2 _ _ n2), addS_cons _ _ n2, h2]
  rw [h4, show (⟨#[116, 99, 112, 32]⟩ : ByteArray) = strOf (wTcp ++ [32]) from rfl, show (⟨#[32, 62, 32]⟩ : ByteArray) = strOf (32 :: wGt ++ [32]) from rfl, show (⟨#[32]⟩ : ByteArray) = strOf [32] from rfl, show (⟨#[32, 115, 101, 113, 32]⟩ : ByteArray) = strOf (32 :: wSeq ++ [32]) from rfl]
  simp only [← strOf_append]
  congr 1
  simp
set_option maxRecDepth 20000 in
set_option maxHeartbeats 8000000 in
theorem rsegment_any (s : SegM) (w : World) (hs : SegOk w s) (hsl : s.o.sacks.length ≤ 100) :
    Calls Try.prog 11 #[.agg s.cells] w fun e w' => e = .returned (.string (strOf (segN s))) ∧ Below w.heap.size w w' := by
  have HS := hid hs
  obtain ⟨k1, k2, k3, k4, k5, k6⟩ : s.src < 65536 ∧ s.dst < 65536 ∧ s.seq < 4294967296 ∧ s.ack < 4294967296 ∧ s.flags < 256 ∧ s.win < 65536 := ⟨hs.src, hs.dst, hs.seq, hs.ack, hs.flags, hs.win⟩
  obtain ⟨j1, j2, j3, j4, j5, j6⟩ : s.o.mss < 65536 ∧ s.o.scale < 256 ∧ s.o.val < 4294967296 ∧ s.o.echo < 4294967296 ∧ s.o.key < 256 ∧ s.o.next < 256 := ⟨hs.o.mss, hs.o.scale, hs.o.val, hs.o.echo, hs.o.key, hs.o.next⟩
  have hdl : s.data.length ≤ 9223372036854775807 := by
    obtain ⟨A7, c7, hd7, hdr⟩ := hs.data
    exact Nat.le_trans hdr.cap hdr.top
  have HDL := hid hdl
  have HSL := hid hsl
  have HML := hid hs.o.mac
  have HOC := hid (fun (W : World) (g : Nat) (h : W.heap[g]? = some (.cells s.cells 30 (0, 0))) => seg_cells h hs.o.mac)
  have HOO := hid (fun (W : World) (g : Nat) (h : W.heap[g]? = some (.cells s.cells 30 (0, 0))) => seg_opts h)
  have HPC := hid (fun (W : World) (g : Nat) (h : W.heap[g]? = some (.cells s.o.cells 27 (0, 0))) => opt_cells h)
  have HPM := hid (fun (W : World) (g : Nat) (h : W.heap[g]? = some (.cells s.o.cells 27 (0, 0))) => opt_mac h hs.o.mac)
  have HIS := hid (info_seg s hs.o.mac)
  have HIO := hid (info_opts s.o hs.o.mac)
  have HONE := hid s.o.one
  have HOSZ := hid (show noOpt.cells.size = s.o.cells.size by rw [s.o.size hs.o.mac]; rfl)
  have HHAS := hid (fun W => rhas16_any s W hs.flags)
  have HRW := hid (fun W (h : Below w.heap.size w W) => hs.o.row.below h)
  have HOK := hid hs.o.ok
  have HT := hid rten_any
  unfold segN optsN
  generalize hla : addN [] wTcp [s.src] = la
  generalize hlb : addN la wGt [s.dst] = lb
  generalize hlc : addS lb (flagsS s.flags) = lc
  generalize hld : addN lc wSeq [s.seq] = ld
  generalize hle : optN (decide (s.flags / 16 % 2 = 1)) ld wAck [s.ack] = le
  generalize hlf : addN le wWin [s.win] = lf
  generalize hoa : optN s.o.hasMSS lf wMss [s.o.mss] = oa
  generalize hob' : optN s.o.hasScale oa wScale [s.o.scale] = ob'
  generalize hoc : optS s.o.sackOK ob' wSackok = oc
  generalize hod : optN s.o.hasTime oc wTime [s.o.val, s.o.echo] = od
  generalize hoe : optS (decide (0 < s.o.sacks.length)) od wSack = oe
  generalize hof_ : sacksN oe s.o.sacks = of_
  generalize hog : optN s.o.hasAO of_ wAo [s.o.key, s.o.next] = og
  generalize hoh : optS s.o.hasAO og (hexOf s.o.mac) = oh
  generalize hlz : dataN oh s.data.length = lz
  have bla : la.length ≤ 100 := by rw [← hla]; have := addN_len [] wTcp [s.src] (all_cons (by omega) all_nil); have e : wTcp.length = 3 := rfl; simp only [List.length_cons, List.length_nil] at *; omega
  have blb : lb.length ≤ 150 := by rw [← hlb]; have := addN_len la wGt [s.dst] (all_cons (by omega) all_nil); have e : wGt.length = 1 := rfl; simp only [List.length_cons, List.length_nil] at *; omega
  have blc : lc.length ≤ 200 := by rw [← hlc]; have := addS_len lb (flagsS s.flags); have e := flagsS_len s.flags; omega
  have bld : ld.length ≤ 250 := by rw [← hld]; have := addN_len lc wSeq [s.seq] (all_cons (by omega) all_nil); have e : wSeq.length = 3 := rfl; simp only [List.length_cons, List.length_nil] at *; omega
  have ble : le.length ≤ 300 := by rw [← hle]; have := optN_len (decide (s.flags / 16 % 2 = 1)) ld wAck [s.ack] (all_cons (by omega) all_nil); have e : wAck.length = 3 := rfl; simp only [List.length_cons, List.length_nil] at *; omega
  have blf : lf.length ≤ 350 := by rw [← hlf]; have := addN_len le wWin [s.win] (all_cons (by omega) all_nil); have e : wWin.length = 3 := rfl; simp only [List.length_cons, List.length_nil] at *; omega
  have boa : oa.length ≤ 400 := by rw [← hoa]; have := optN_len s.o.hasMSS lf wMss [s.o.mss] (all_cons (by omega) all_nil); have e : wMss.length = 3 := rfl; simp only [List.length_cons, List.length_nil] at *; omega
  have bob' : ob'.length ≤ 450 := by rw [← hob']; have := optN_len s.o.hasScale oa wScale [s.o.scale] (all_cons (by omega) all_nil); have e : wScale.length = 5 := rfl; simp only [List.length_cons, List.length_nil] at *; omega
  have boc : oc.length ≤ 470 := by rw [← hoc]; have := optS_len s.o.sackOK ob' wSackok; have e : wSackok.length = 6 := rfl; omega
  have bod : od.length ≤ 530 := by rw [← hod]; have := optN_len s.o.hasTime oc wTime [s.o.val, s.o.echo] (all_cons (by omega) (all_cons (by omega) all_nil)); have e : wTime.length = 4 := rfl; simp only [List.length_cons, List.length_nil] at *; omega
  have boe : oe.length ≤ 540 := by rw [← hoe]; have := optS_len (decide (0 < s.o.sacks.length)) od wSack; have e : wSack.length = 4 := rfl; omega
  have bof : of_.length ≤ 5000 := by rw [← hof_]; have := sacksN_len s.o.sacks hs.o.ok oe s.o.sacks.length (Nat.le_refl _); rw [List.take_length] at this; omega
  have bog : og.length ≤ 5060 := by rw [← hog]; have := optN_len s.o.hasAO of_ wAo [s.o.key, s.o.next] (all_cons (by omega) (all_cons (by omega) all_nil)); have e : wAo.length = 2 := rfl; simp only [List.length_cons, List.length_nil] at *; omega
  have boh : oh.length ≤ 5100 := by rw [← hoh]; have := optS_len s.o.hasAO og (hexOf s.o.mac); rw [hexOf_length, hs.o.mac] at this; omega
  have nld : ld ≠ [] := by rw [← hld]; exact addN_ne _ _ _ (by decide)
  have nle : le ≠ [] := by rw [← hle]; exact optN_ne _ _ _ _ nld
  have nlf : lf ≠ [] := by rw [← hlf]; exact addN_ne _ _ _ (by decide)
  have noa : oa ≠ [] := by rw [← hoa]; exact optN_ne _ _ _ _ nlf
  have nob' : ob' ≠ [] := by rw [← hob']; exact optN_ne _ _ _ _ noa
  have noc : oc ≠ [] := by rw [← hoc]; exact optS_ne _ _ _ nob'
  have nod : od ≠ [] := by rw [← hod]; exact optN_ne _ _ _ _ noc
  have noe : oe ≠ [] := by rw [← hoe]; exact optS_ne _ _ _ nod
  have nof : of_ ≠ [] := by rw [← hof_]; exact foldS_ne _ _ noe
  have nog : og ≠ [] := by rw [← hog]; exact optN_ne _ _ _ _ nof
  have noh : oh ≠ [] := by rw [← hoh]; exact optS_ne _ _ _ nog
  have hhd : (⟨#[116, 99, 112, 32]⟩ : ByteArray) ++ strOf (tenS s.src) ++ ⟨#[32, 62, 32]⟩ ++ strOf (tenS s.dst) ++ ⟨#[32]⟩ ++ strOf (flagsS s.flags) ++ ⟨#[32, 115, 101, 113, 32]⟩ ++ strOf (tenS s.seq) = strOf ld := by rw [str_head, hla, hlb, hlc, hld]
  have HHD := hid hhd
  clear hhd
  have Hla := hid hla
  have Hlb := hid hlb
  have Hlc := hid hlc
  have Hld := hid hld
  have Hle := hid hle
  have Hlf := hid hlf
  have Hoa := hid hoa
  have Hob' := hid hob'
  have Hoc := hid hoc
  have Hod := hid hod
  have Hoe := hid hoe
  have Hof_ := hid hof_
  have Hog := hid hog
  have Hoh := hid hoh
  have Hlz := hid hlz
  have Nld := hid nld
  have Nle := hid nle
  have Nlf := hid nlf
  have Noa := hid noa
  have Nob' := hid nob'
  have Noc := hid noc
  have Nod := hid nod
  have Noe := hid noe
  have Nof := hid nof
  have Nog := hid nog
  have Noh := hid noh
  have Bld := hid bld
  have Ble := hid ble
  have Blf := hid blf
  have Boa := hid boa
  have Bob' := hid bob'
  have Boc := hid boc
  have Bod := hid bod
  have Boe := hid boe
  have Bof := hid bof
  have Bog := hid bog
  have Boh := hid boh
  have Tsrc := hid (tenS_20 s.src (by omega))
  have Tdst := hid (tenS_20 s.dst (by omega))
  have Tseq := hid (tenS_20 s.seq (by omega))
  have Tack := hid (tenS_20 s.ack (by omega))
  have Twin := hid (tenS_20 s.win (by omega))
  have Tmss := hid (tenS_20 s.o.mss (by omega))
  have Tscale := hid (tenS_20 s.o.scale (by omega))
  have Tval := hid (tenS_20 s.o.val (by omega))
  have Techo := hid (tenS_20 s.o.echo (by omega))
  have Tkey := hid (tenS_20 s.o.key (by omega))
  have Tnext := hid (tenS_20 s.o.next (by omega))
  clear hla hlb hlc hld hle hlf hoa hob' hoc hod hoe hof_ hog hoh hlz nld nle nlf noa nob' noc nod noe nof nog noh bla blb blc bld ble blf boa bob' boc bod boe bof bog boh hs hsl hdl
  have v1 : (s.src : Int) % 18446744073709551616 = (s.src : Int) := by omega
  have v2 : (s.dst : Int) % 18446744073709551616 = (s.dst : Int) := by omega
  have v3 : (s.seq : Int) % 18446744073709551616 = (s.seq : Int) := by omega
  have v4 : (s.ack : Int) % 18446744073709551616 = (s.ack : Int) := by omega
  have v5 : (s.win : Int) % 18446744073709551616 = (s.win : Int) := by omega
  have v6 : (s.o.mss : Int) % 18446744073709551616 = (s.o.mss : Int) := by omega
  have v7 : (s.o.scale : Int) % 18446744073709551616 = (s.o.scale : Int) := by omega
  have HV := hid v1
  obtain ⟨A0, hA0⟩ : ∃ x, s.o.A = x := ⟨_, rfl⟩
  rw [hA0] at HPC HRW
  clear hA0
  generalize hco : s.o.cells = co at HOO HIO HPC HPM HONE HOSZ
  clear hco
  generalize s.cells = cs at HOC HOO HIS HHAS ⊢
  have h0 := hid (Below.refl w.heap.size w)
  obtain ⟨xb, hB⟩ : ∃ xb, w.heap.size = xb := ⟨_, rfl⟩
  rw [hB] at h0 HRW
  have HXB := hid hB
  clear hB
  go_enter Try.func11, Try.ntmps11
  go_wp2_with ((with_reducible refine at_slot 1 ?_); refine wpList_boxF rfl 30 (.tmp 0) rfl cs rfl ?_; intro w1 hx1 hb1 hz1; rw [HXB.out] at hx1 hb1 hz1 ⊢)
  have HX := hid hx1
  have BB := hid hb1
  clear hx1 hb1 hz1
  obtain ⟨f0, f1, f2, f3, f4, f5, f6, f7⟩ := HOC.out w1 xb HX.out
  have hxl := (Array.getElem?_eq_some_iff.1 HX.out).1
  refine wp_region_later w1.heap.size (Nat.le_refl _) (by kernel_rfl) (by kernel_rfl) ?_
  have q0 := fun x : Later w1.heap.size w1 => x.cell f0 hxl
  have q1 := fun x : Later w1.heap.size w1 => x.cell f1 hxl
  have q2 := fun x : Later w1.heap.size w1 => x.cell f2 hxl
  have q4 := fun x : Later w1.heap.size w1 => x.cell f4 hxl
  clear f0 f1 f2 f3 f4 f5 f6 f7
  have x1 : IntKind.u64.wrap (s.src : Int) = (s.src : Int) := by rw [IntKind.wrap_u64]; omega
  have x2 : IntKind.u64.wrap (s.dst : Int) = (s.dst : Int) := by rw [IntKind.wrap_u64]; omega
  have x3 : IntKind.u64.wrap (s.seq : Int) = (s.seq : Int) := by rw [IntKind.wrap_u64]; omega
  obtain ⟨z1, z2, z3, z4, z5, z6, z7⟩ := fit_h (tenS s.src) (tenS s.dst) (flagsS s.flags) (tenS s.seq) Tsrc.out Tdst.out (Nat.le_trans (flagsS_len _) (by decide)) Tseq.out
  have HFLG := hid k5
  repeat (go_big_quiet_step (first
    | (go_at_call 24; with_reducible exact quiet_later _ (Nat.le_refl _) (HT.out s.src _ (by omega)))
    | (go_at_call 24; with_reducible exact quiet_later _ (Nat.le_refl _) (HT.out s.dst _ (by omega)))
    | (go_at_call 24; with_reducible exact quiet_later _ (Nat.le_refl _) (HT.out s.seq _ (by omega)))
    | (go_at_call 15; with_reducible exact quiet_later _ (Nat.le_refl _) (rflags_any s.flags _ HFLG.out))))
  refine wpQuiet_nil ?_
  rintro _ ⟨x, rfl⟩
  have HX2 := hid ((x.ok.block _ hxl).trans HX.out)
  have BB2 := hid (BB.out.trans (x.ok.mono (by have := BB.out.size; have := HXB.out; omega)))
  clear q0 q1 q2 q4 x1 x2 x3 z1 z2 z3 z4 z5 z6 z7 hxl HX BB
  rw [HHD.out]
  generalize x.wd = w2 at HX2 BB2 ⊢
  have HX := HX2
  have BB := BB2
  clear HX2 BB2
  obtain ⟨f0, f1, f2, f3, f4, f5, f6, f7⟩ := HOC.out _ xb HX.out
  clear f0 f1 f2 f3 f4 f5 f6 f7
  go_upto_if 29 with (first
    | ((with_reducible refine at_slot 28 ?_); refine wpList_load_row rfl 30 (.tmp 1) rfl xb rfl _ cs _ _ HX.out Try.underlying30 rfl HIS.out ?_)
    | (go_at_call 25; (with_reducible refine Calls.mono (HHAS.out _) ?_); rintro e w4 ⟨rfl, hb4⟩; have HX4 := hid ((hb4.block _ (Array.getElem?_eq_some_iff.1 HX.out).1).trans HX.out); have BB4 := hid (BB.out.trans (hb4.mono (by have := BB.out.size; have := HXB.out; omega))); clear HX BB hb4; have HX := HX4; have BB := BB4; clear HX4 BB4))
  go_cut [3] (fun s3 wx => s3 = .string (strOf le) ∧ wx.heap[xb]? = some (.cells cs 30 (0, 0)) ∧ Below xb w wx)
  case first =>
    cases hm : decide (s.flags / 16 % 2 = 1)
    · have hn : le = ld := by rw [← Hle.out, hm]; rfl
      have HN := hid hn
      clear hn hm
      go_wp2_with fail
      go_meet
      case rel => exact ⟨by rw [HN.out], HX.out, BB.out⟩
    · have hn : le = addN ld wAck [s.ack] := by rw [← Hle.out, hm]; rfl
      have HN := hid hn
      clear hn hm
      obtain ⟨f0, f1, f2, f3, f4, f5, f6, f7⟩ := HOC.out _ xb HX.out
      go_wp2_with fail
      (with_reducible refine Calls.mono (HT.out s.ack _ (by omega)) ?_)
      rintro e w4 ⟨rfl, hb4⟩
      have HX4 := hid ((hb4.block _ (Array.getElem?_eq_some_iff.1 HX.out).1).trans HX.out)
      have BB4 := hid (BB.out.trans (hb4.mono (by have := BB.out.size; have := HXB.out; omega)))
      clear HX BB hb4
      have HX := HX4
      have BB := BB4
      clear HX4 BB4
      clear f0 f1 f2 f3 f4 f5 f6 f7
      have y1 := fit_1 5 (tenS s.ack) (by decide) (Nat.le_trans Tack.out (by decide))
      have y2 := fit_2 5 ld (tenS s.ack) (by decide) (Nat.le_trans Bld.out (by decide)) (Nat.le_trans Tack.out (by decide))
      go_wp2_with fail
      go_meet
      case rel => exact ⟨by rw [HN.out, ← str_addN ld wAck s.ack Nld.out ⟨#[32, 97, 99, 107, 32]⟩ rfl], HX.out, BB.out⟩
  case rest =>
    obtain ⟨rfl, hx3, hb3⟩ := hcut
    clear HX BB
    have HX := hid hx3
    have BB := hid hb3
    clear hx3 hb3
    obtain ⟨f0, f1, f2, f3, f4, f5, f6, f7⟩ := HOC.out _ xb HX.out
    go_wp2_with fail
    (with_reducible refine Calls.mono (HT.out s.win _ (by omega)) ?_)
    rintro e w4 ⟨rfl, hb4⟩
    have HX4 := hid ((hb4.block _ (Array.getElem?_eq_some_iff.1 HX.out).1).trans HX.out)
    have BB4 := hid (BB.out.trans (hb4.mono (by have := BB.out.size; have := HXB.out; omega)))
    clear HX BB hb4
    have HX := HX4
    have BB := BB4
    clear HX4 BB4
    clear f0 f1 f2 f3 f4 f5 f6 f7
    have y1 := fit_1 5 (tenS s.win) (by decide) (Nat.le_trans Twin.out (by decide))
    have y2 := fit_2 5 le (tenS s.win) (by decide) (Nat.le_trans Ble.out (by decide)) (Nat.le_trans Twin.out (by decide))
    have hw2 := str_addN le wWin s.win Nle.out ⟨#[32, 119, 105, 110, 32]⟩ rfl
    rw [Hlf.out] at hw2
    have hxl := (Array.getElem?_eq_some_iff.1 HX.out).1
    go_upto_if 47 with (first
      | ((with_reducible refine at_slot 45 ?_); refine wpList_load_at 27 (.tmp 44) rfl rfl ⟨xb, 7, none⟩ rfl co _ (HOO.out _ _ HX.out) Try.underlying27 rfl HIO.out ?_)
      | ((with_reducible refine at_slot 4 ?_); refine wpList_allocF rfl 27 rfl _ alloc_noOpt ?_; intro w5 h5 hb5 z5)
      | ((with_reducible refine at_store 4 45 ?_); refine wpList_rowF rfl 27 (.tmp 4) (.tmp 45) rfl w4.heap.size 27 _ co rfl rfl h5 HIO.out HOSZ.out HONE.out ?_; intro w6 h6 m6 z6; obtain ⟨e0, e1, e2, e3, e4, e5, e6, e7, e8, e9, e10, e11⟩ := HPC.out _ _ h6))
    have hx6 := m6.keeps ((hb5.block _ hxl).trans HX.out) (by simp; omega)
    have hb6 := Mod.below (BB.out.trans (hb5.mono (by have := BB.out.size; have := HXB.out; omega))) m6 (Nat.le_of_eq HXB.out.symm) (by simp; have := BB.out.size; have := HXB.out; omega)
    clear HX BB h5 hb5 z5 m6 z6 hxl hw2
    have HX := hid hx6
    have BB := hid hb6
    have HP := hid h6
    clear hx6 hb6 h6
    generalize w4.heap.size = ob at *
    go_cut [3] (fun s3 wx => s3 = .string (strOf oa) ∧ wx.heap[xb]? = some (.cells cs 30 (0, 0)) ∧ Below xb w wx ∧ wx.heap[ob]? = some (.cells co 27 (0, 0)))
    case first =>
      cases hm : s.o.hasMSS
      · have hn : oa = lf := by rw [← Hoa.out, hm]; rfl
        have HN := hid hn
        clear hn hm
        go_wp2_with fail
        go_meet
        case rel => exact ⟨by rw [HN.out], HX.out, BB.out, HP.out⟩
      · have hn : oa = addN lf wMss [s.o.mss] := by rw [← Hoa.out, hm]; rfl
        have HN := hid hn
        clear hn hm
        go_wp2_with fail
        (with_reducible refine Calls.mono (HT.out s.o.mss _ (by omega)) ?_)
        rintro e w4 ⟨rfl, hb4⟩
        have HX4 := hid ((hb4.block _ (Array.getElem?_eq_some_iff.1 HX.out).1).trans HX.out)
        have HP4 := hid ((hb4.block _ (Array.getElem?_eq_some_iff.1 HP.out).1).trans HP.out)
        have BB4 := hid (BB.out.trans (hb4.mono (by have := BB.out.size; have := HXB.out; omega)))
        clear HX BB HP hb4
        have HX := HX4
        have BB := BB4
        have HP := HP4
        clear HX4 BB4 HP4
        clear e0 e1 e2 e3 e4 e5 e6 e7 e8 e9 e10 e11
        have y1 := fit_1 5 (tenS s.o.mss) (by decide) (Nat.le_trans Tmss.out (by decide))
        have y2 := fit_2 5 lf (tenS s.o.mss) (by decide) (Nat.le_trans Blf.out (by decide)) (Nat.le_trans Tmss.out (by decide))
        go_wp2_with fail
        go_meet
        case rel => exact ⟨by rw [HN.out, ← str_addN lf wMss s.o.mss Nlf.out ⟨#[32, 109, 115, 115, 32]⟩ rfl], HX.out, BB.out, HP.out⟩
    case rest =>
      obtain ⟨rfl, hx3, hb3, hp3⟩ := hcut
      clear HX BB HP e0 e1 e2 e3 e4 e5 e6 e7 e8 e9 e10 e11
      have HX := hid hx3
      have BB := hid hb3
      have HP := hid hp3
      clear hx3 hb3 hp3
      obtain ⟨e0, e1, e2, e3, e4, e5, e6, e7, e8, e9, e10, e11⟩ := HPC.out _ ob HP.out
      go_upto_if 56 with fail
      go_cut [3] (fun s3 wx => s3 = .string (strOf ob') ∧ wx.heap[xb]? = some (.cells cs 30 (0, 0)) ∧ Below xb w wx ∧ wx.heap[ob]? = some (.cells co 27 (0, 0)))
      case first =>
        cases hm : s.o.hasScale
        · have hn : ob' = oa := by rw [← Hob'.out, hm]; rfl
          have HN := hid hn
          clear hn hm
          go_wp2_with fail
          go_meet
          case rel => exact ⟨by rw [HN.out], HX.out, BB.out, HP.out⟩
        · have hn : ob' = addN oa wScale [s.o.scale] := by rw [← Hob'.out, hm]; rfl
          have HN := hid hn
          clear hn hm
          go_wp2_with fail
          (with_reducible refine Calls.mono (HT.out s.o.scale _ (by omega)) ?_)
          rintro e w4 ⟨rfl, hb4⟩
          have HX4 := hid ((hb4.block _ (Array.getElem?_eq_some_iff.1 HX.out).1).trans HX.out)
          have HP4 := hid ((hb4.block _ (Array.getElem?_eq_some_iff.1 HP.out).1).trans HP.out)
          have BB4 := hid (BB.out.trans (hb4.mono (by have := BB.out.size; have := HXB.out; omega)))
          clear HX BB HP hb4
          have HX := HX4
          have BB := BB4
          have HP := HP4
          clear HX4 BB4 HP4
          clear e0 e1 e2 e3 e4 e5 e6 e7 e8 e9 e10 e11
          have y1 := fit_1 7 (tenS s.o.scale) (by decide) (Nat.le_trans Tscale.out (by decide))
          have y2 := fit_2 7 oa (tenS s.o.scale) (by decide) (Nat.le_trans Boa.out (by decide)) (Nat.le_trans Tscale.out (by decide))
          go_wp2_with fail
          go_meet
          case rel => exact ⟨by rw [HN.out, ← str_addN oa wScale s.o.scale Noa.out ⟨#[32, 115, 99, 97, 108, 101, 32]⟩ rfl], HX.out, BB.out, HP.out⟩
      case rest =>
        obtain ⟨rfl, hx3, hb3, hp3⟩ := hcut
        clear HX BB HP e0 e1 e2 e3 e4 e5 e6 e7 e8 e9 e10 e11
        have HX := hid hx3
        have BB := hid hb3
        have HP := hid hp3
        clear hx3 hb3 hp3
        obtain ⟨e0, e1, e2, e3, e4, e5, e6, e7, e8, e9, e10, e11⟩ := HPC.out _ ob HP.out
        go_upto_if 65 with fail
        go_cut [3] (fun s3 wx => s3 = .string (strOf oc) ∧ wx.heap[xb]? = some (.cells cs 30 (0, 0)) ∧ Below xb w wx ∧ wx.heap[ob]? = some (.cells co 27 (0, 0)))
        case first =>
          cases hm : s.o.sackOK
          · have hn : oc = ob' := by rw [← Hoc.out, hm]; rfl
            have HN := hid hn
            clear hn hm
            go_wp2_with fail
            go_meet
            case rel => exact ⟨by rw [HN.out], HX.out, BB.out, HP.out⟩
          · have hn : oc = addS ob' wSackok := by rw [← Hoc.out, hm]; rfl
            have HN := hid hn
            clear hn hm
            have y1 := fit_0 7 ob' (by decide) (Nat.le_trans Bob'.out (by decide))
            go_wp2_with fail
            go_meet
            case rel => exact ⟨by rw [HN.out, ← str_addS ob' wSackok Nob'.out ⟨#[32, 115, 97, 99, 107, 111, 107]⟩ rfl], HX.out, BB.out, HP.out⟩
        case rest =>
          obtain ⟨rfl, hx3, hb3, hp3⟩ := hcut
          clear HX BB HP e0 e1 e2 e3 e4 e5 e6 e7 e8 e9 e10 e11
          have HX := hid hx3
          have BB := hid hb3
          have HP := hid hp3
          clear hx3 hb3 hp3
          obtain ⟨e0, e1, e2, e3, e4, e5, e6, e7, e8, e9, e10, e11⟩ := HPC.out _ ob HP.out
          go_upto_if 69 with fail
          go_cut [3] (fun s3 wx => s3 = .string (strOf od) ∧ wx.heap[xb]? = some (.cells cs 30 (0, 0)) ∧ Below xb w wx ∧ wx.heap[ob]? = some (.cells co 27 (0, 0)))
          case first =>
            cases hm : s.o.hasTime
            · have hn : od = oc := by rw [← Hod.out, hm]; rfl
              have HN := hid hn
              clear hn hm
              go_wp2_with fail
              go_meet
              case rel => exact ⟨by rw [HN.out], HX.out, BB.out, HP.out⟩
            · have hn : od = addN oc wTime [s.o.val, s.o.echo] := by rw [← Hod.out, hm]; rfl
              have HN := hid hn
              clear hn hm
              go_wp2_with fail
              have hol := (Array.getElem?_eq_some_iff.1 HP.out).1
              refine wp_region_later wc.heap.size (Nat.le_refl _) (by kernel_rfl) (by kernel_rfl) ?_
              have q7 := fun x : Later wc.heap.size wc => x.cell e7 hol
              have q8 := fun x : Later wc.heap.size wc => x.cell e8 hol
              clear e0 e1 e2 e3 e4 e5 e6 e7 e8 e9 e10 e11
              have x1 : IntKind.u64.wrap (s.o.val : Int) = (s.o.val : Int) := by rw [IntKind.wrap_u64]; omega
              have x2 : IntKind.u64.wrap (s.o.echo : Int) = (s.o.echo : Int) := by rw [IntKind.wrap_u64]; omega
              have y1 := fit_1 6 (tenS s.o.val) (by decide) (Nat.le_trans Tval.out (by decide))
              have y2 := fit_3 6 1 (tenS s.o.val) (by decide) (by decide) (Nat.le_trans Tval.out (by decide))
              have y3 := fit_4 6 1 (tenS s.o.val) (tenS s.o.echo) (by decide) (by decide) (Nat.le_trans Tval.out (by decide)) (Nat.le_trans Techo.out (by decide))
              have y4 := fit_5 6 1 oc (tenS s.o.val) (tenS s.o.echo) (by decide) (by decide) (Nat.le_trans Boc.out (by decide)) (Nat.le_trans Tval.out (by decide)) (Nat.le_trans Techo.out (by decide))
              repeat (go_big_quiet_step (first
                | (go_at_call 24; with_reducible exact quiet_later _ (Nat.le_refl _) (HT.out s.o.val _ (by omega)))
                | (go_at_call 24; with_reducible exact quiet_later _ (Nat.le_refl _) (HT.out s.o.echo _ (by omega)))))
              refine wpQuiet_nil ?_
              rintro _ ⟨x, rfl⟩
              have hxo := x.ok
              have HX4 := hid ((hxo.block _ (Array.getElem?_eq_some_iff.1 HX.out).1).trans HX.out)
              have HP4 := hid ((hxo.block _ (Array.getElem?_eq_some_iff.1 HP.out).1).trans HP.out)
              have BB4 := hid (BB.out.trans (hxo.mono (by have := BB.out.size; have := HXB.out; omega)))
              clear HX BB HP hxo hol q7 q8
              have HX := HX4
              have BB := BB4
              have HP := HP4
              clear HX4 BB4 HP4
              go_wp2_with fail
              go_meet
              case rel => exact ⟨by rw [HN.out, ← str_addN2 oc wTime s.o.val s.o.echo Noc.out ⟨#[32, 116, 105, 109, 101, 32]⟩ rfl], HX.out, BB.out, HP.out⟩
          case rest =>
            obtain ⟨rfl, hx3, hb3, hp3⟩ := hcut
            clear HX BB HP e0 e1 e2 e3 e4 e5 e6 e7 e8 e9 e10 e11
            have HX := hid hx3
            have BB := hid hb3
            have HP := hid hp3
            clear hx3 hb3 hp3
            obtain ⟨e0, e1, e2, e3, e4, e5, e6, e7, e8, e9, e10, e11⟩ := HPC.out _ ob HP.out
            have hcn : decide ((0 : Int) < (s.o.sacks.length : Int)) = decide (0 < s.o.sacks.length) := by rw [decide_eq_decide]; omega
            go_upto_if 86 with fail
            go_cut [3] (fun s3 wx => s3 = .string (strOf oe) ∧ wx.heap[xb]? = some (.cells cs 30 (0, 0)) ∧ Below xb w wx ∧ wx.heap[ob]? = some (.cells co 27 (0, 0)))
            case first =>
              cases hm : decide (0 < s.o.sacks.length)
              · have hn : oe = od := by rw [← Hoe.out, hm]; rfl
                have HN := hid hn
                clear hn hm
                go_wp2_with fail
                go_meet
                case rel => exact ⟨by rw [HN.out], HX.out, BB.out, HP.out⟩
              · have hn : oe = addS od wSack := by rw [← Hoe.out, hm]; rfl
                have HN := hid hn
                clear hn hm
                have y1 := fit_0 5 od (by decide) (Nat.le_trans Bod.out (by decide))
                go_wp2_with fail
                go_meet
                case rel => exact ⟨by rw [HN.out, ← str_addS od wSack Nod.out ⟨#[32, 115, 97, 99, 107]⟩ rfl], HX.out, BB.out, HP.out⟩
            case rest =>
              obtain ⟨rfl, hx3, hb3, hp3⟩ := hcut
              clear HX BB HP e0 e1 e2 e3 e4 e5 e6 e7 e8 e9 e10 e11
              have HX := hid hx3
              have BB := hid hb3
              have HP := hid hp3
              clear hx3 hb3 hp3
              obtain ⟨e0, e1, e2, e3, e4, e5, e6, e7, e8, e9, e10, e11⟩ := HPC.out _ ob HP.out
              clear e0 e1 e2 e3 e4 e6 e7 e8 e9 e10 e11
              have hsl := HSL.out
              go_wp2_with fail
              go_loopw [3, 5] (fun s3 i wr => ∃ k : Nat, k ≤ s.o.sacks.length ∧ i = .int .i64 k ∧ s3 = .string (strOf (sacksN oe (s.o.sacks.take k))) ∧ wr.heap[xb]? = some (.cells cs 30 (0, 0)) ∧ Below xb w wr ∧ wr.heap[ob]? = some (.cells co 27 (0, 0))) (fun _ i _ => s.o.sacks.length - (intOf i).toNat)
              case atStart => exact ⟨0, Nat.zero_le _, rfl, by simp [sacksN], HX.out, BB.out, HP.out⟩
              case round =>
                obtain ⟨k, hk, rfl, rfl, hx3, hb3, hp3⟩ := hrel
                clear HX BB HP e5
                have HX := hid hx3
                have BB := hid hb3
                have HP := hid hp3
                clear hx3 hb3 hp3
                obtain ⟨e0, e1, e2, e3, e4, e5, e6, e7, e8, e9, e10, e11⟩ := HPC.out _ ob HP.out
                by_cases hlt : k < s.o.sacks.length
                · clear e0 e1 e2 e3 e4 e6 e7 e8 e9 e10 e11
                  have hrow := HRW.out _ BB.out
                  obtain ⟨a, rfl⟩ := hrow.addr (by rw [bcs_length]; omega)
                  obtain ⟨l0, l1⟩ := hrow.blk k hlt
                  obtain ⟨hx, hy⟩ := HOK.out.get k hlt
                  have hft := sacksN_take oe s.o.sacks k hlt
                  have hcl := sacksN_len s.o.sacks HOK.out oe k (by omega)
                  have hcn : sacksN oe (s.o.sacks.take k) ≠ [] := foldS_ne _ _ Noe.out
                  generalize sacksN oe (s.o.sacks.take k) = cur at hft hcl hcn ⊢
                  generalize s.o.sacks.getD k (0, 0) = xy at l0 l1 hx hy hft
                  obtain ⟨x, y⟩ := xy
                  simp only at l0 l1 hx hy
                  have HTK := hid hft
                  have HCN := hid hcn
                  have HCL := hid (show cur.length ≤ 1000000 by have := Boe.out; omega)
                  have hki : (k : Int) < (s.o.sacks.length : Int) := by omega
                  clear hrow hft hcl hcn
                  go_wp2_with fail
                  have hol := (Array.getElem?_eq_some_iff.1 HP.out).1
                  refine wp_region_later wr.heap.size (Nat.le_refl _) (by kernel_rfl) (by kernel_rfl) ?_
                  have q5 := fun x : Later wr.heap.size wr => x.cell e5 hol
                  have q0 := fun x : Later wr.heap.size wr => x.cell l0 (World.block_lt_of_cell? _ _ l0)
                  have q1 := fun x : Later wr.heap.size wr => x.cell l1 (World.block_lt_of_cell? _ _ l1)
                  clear e5 l0 l1
                  have x1 : IntKind.u64.wrap (x : Int) = (x : Int) := by rw [IntKind.wrap_u64]; omega
                  have x2 : IntKind.u64.wrap (y : Int) = (y : Int) := by rw [IntKind.wrap_u64]; omega
                  have Tx := hid (tenS_20 x (by omega))
                  have Ty := hid (tenS_20 y (by omega))
                  have y1 := fit_1 1 (tenS x) (by decide) (Nat.le_trans Tx.out (by decide))
                  have y2 := fit_3 1 1 (tenS x) (by decide) (by decide) (Nat.le_trans Tx.out (by decide))
                  have y3 := fit_4 1 1 (tenS x) (tenS y) (by decide) (by decide) (Nat.le_trans Tx.out (by decide)) (Nat.le_trans Ty.out (by decide))
                  have y4 := fit_5 1 1 cur (tenS x) (tenS y) (by decide) (by decide) HCL.out (Nat.le_trans Tx.out (by decide)) (Nat.le_trans Ty.out (by decide))
                  repeat (go_big_quiet_step (first
                    | (go_at_call 24; with_reducible exact quiet_later _ (Nat.le_refl _) (HT.out x _ (by omega)))
                    | (go_at_call 24; with_reducible exact quiet_later _ (Nat.le_refl _) (HT.out y _ (by omega)))))
                  refine wpQuiet_nil ?_
                  rintro _ ⟨lx, rfl⟩
                  have hxo := lx.ok
                  have HX4 := hid ((hxo.block _ (Array.getElem?_eq_some_iff.1 HX.out).1).trans HX.out)
                  have HP4 := hid ((hxo.block _ (Array.getElem?_eq_some_iff.1 HP.out).1).trans HP.out)
                  have BB4 := hid (BB.out.trans (hxo.mono (by have := BB.out.size; have := HXB.out; omega)))
                  clear HX BB HP hxo hol q5 q0 q1
                  have HX := HX4
                  have BB := BB4
                  have HP := HP4
                  clear HX4 BB4 HP4
                  go_wp2_with fail
                  go_roundw
                  case rel => exact ⟨k + 1, by omega, by go_num, by rw [HTK.out, ← str_sack2 cur x y HCN.out], HX.out, BB.out, HP.out⟩
                  case measure => simp [intOf]; omega
                · obtain rfl : k = s.o.sacks.length := by omega
                  rw [List.take_length, Hof_.out]
                  go_upto_if 118 with fail
                  go_cut [3] (fun s3 wx => s3 = .string (strOf oh) ∧ wx.heap[xb]? = some (.cells cs 30 (0, 0)) ∧ Below xb w wx ∧ wx.heap[ob]? = some (.cells co 27 (0, 0)))
                  case first =>
                    cases hm : s.o.hasAO
                    · have hn : oh = of_ := by rw [← Hoh.out, ← Hog.out, hm]; rfl
                      have HN := hid hn
                      clear hn hm
                      go_wp2_with fail
                      go_meet
                      case rel => exact ⟨by rw [HN.out], HX.out, BB.out, HP.out⟩
                    · have hn : oh = addS (addN of_ wAo [s.o.key, s.o.next]) (hexOf s.o.mac) := by rw [← Hoh.out, ← Hog.out, hm]; rfl
                      have HN := hid hn
                      clear hn hm
                      have hsm := slice_mac ob
                      go_wp2_with fail
                      have hol := (Array.getElem?_eq_some_iff.1 HP.out).1
                      refine wp_region_later wr.heap.size (Nat.le_refl _) (by kernel_rfl) (by kernel_rfl) ?_
                      have q10 := fun x : Later wr.heap.size wr => x.cell e10 hol
                      have q11 := fun x : Later wr.heap.size wr => x.cell e11 hol
                      clear e0 e1 e2 e3 e4 e5 e6 e7 e8 e9 e10 e11
                      have x1 : IntKind.u64.wrap (s.o.key : Int) = (s.o.key : Int) := by rw [IntKind.wrap_u64]; omega
                      have x2 : IntKind.u64.wrap (s.o.next : Int) = (s.o.next : Int) := by rw [IntKind.wrap_u64]; omega
                      have QH := hid fun x : Later wr.heap.size wr => rhex_any _ s.o.mac x.wd (HPM.out _ ob (x.blk HP.out hol)) (by rw [HML.out]; decide)
                      have HHL := hid (show (hexOf s.o.mac).length ≤ 1000000 by rw [hexOf_length, HML.out]; decide)
                      have y1 := fit_1 4 (tenS s.o.key) (by decide) (Nat.le_trans Tkey.out (by decide))
                      have y2 := fit_3 4 1 (tenS s.o.key) (by decide) (by decide) (Nat.le_trans Tkey.out (by decide))
                      have y3 := fit_4 4 1 (tenS s.o.key) (tenS s.o.next) (by decide) (by decide) (Nat.le_trans Tkey.out (by decide)) (Nat.le_trans Tnext.out (by decide))
                      obtain ⟨y4, y5, y6⟩ := fit_ao of_ (tenS s.o.key) (tenS s.o.next) (hexOf s.o.mac) (Nat.le_trans Bof.out (by decide)) (Nat.le_trans Tkey.out (by decide)) (Nat.le_trans Tnext.out (by decide)) HHL.out
                      repeat (go_big_quiet_step (first
                        | (go_at_call 24; with_reducible exact quiet_later _ (Nat.le_refl _) (HT.out s.o.key _ (by omega)))
                        | (go_at_call 24; with_reducible exact quiet_later _ (Nat.le_refl _) (HT.out s.o.next _ (by omega)))
                        | (go_at_call 26; with_reducible exact quiet_drawn _ (QH.out _))))
                      refine wpQuiet_nil ?_
                      rintro _ ⟨x, rfl⟩
                      have hxo := x.ok
                      have HX4 := hid ((hxo.block _ (Array.getElem?_eq_some_iff.1 HX.out).1).trans HX.out)
                      have HP4 := hid ((hxo.block _ (Array.getElem?_eq_some_iff.1 HP.out).1).trans HP.out)
                      have BB4 := hid (BB.out.trans (hxo.mono (by have := BB.out.size; have := HXB.out; omega)))
                      clear HX BB HP hxo hol q10 q11
                      have HX := HX4
                      have BB := BB4
                      have HP := HP4
                      clear HX4 BB4 HP4
                      go_wp2_with fail
                      go_meet
                      case rel => exact ⟨by rw [HN.out, ← str_ao of_ (hexOf s.o.mac) s.o.key s.o.next Nof.out], HX.out, BB.out, HP.out⟩
                  case rest =>
                    obtain ⟨rfl, hx3, hb3, hp3⟩ := hcut
                    clear HX BB HP e0 e1 e2 e3 e4 e5 e6 e7 e8 e9 e10 e11
                    have HX := hid hx3
                    have BB := hid hb3
                    have HP := hid hp3
                    clear hx3 hb3 hp3
                    obtain ⟨e0, e1, e2, e3, e4, e5, e6, e7, e8, e9, e10, e11⟩ := HPC.out _ ob HP.out
                    obtain ⟨f0, f1, f2, f3, f4, f5, f6, f7⟩ := HOC.out _ xb HX.out
                    clear f0 f1 f2 f3 f4 f5 f6 e0 e1 e2 e3 e4 e5 e6 e7 e8 e9 e10 e11
                    go_wp2_with fail
                    (with_reducible refine Calls.mono (rdata_any s.data.length _ HDL.out) ?_)
                    rintro e w4 ⟨rfl, hb4⟩
                    have hfd := fit_d oh (dataT s.data.length) (Nat.le_trans Boh.out (by decide)) (Nat.le_trans (dataT_len _ HDL.out) (by decide))
                    go_wp2_with fail
                    go_ret
                    exact ⟨by rw [← Hlz.out, ← str_data oh s.data.length Noh.out]; rfl, by rw [HXB.out]; exact BB.out.trans (hb4.mono (by have := BB.out.size; have := HXB.out; omega))⟩
end Go.Proofs.Ytfliddlcbnaoiaa
