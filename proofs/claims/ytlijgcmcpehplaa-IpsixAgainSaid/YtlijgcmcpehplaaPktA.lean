/- Packets in memory; walks: isPast, Known, May. -/
import Derived.Test.YtlijgcmcpehplaaPktS
import Derived.Test.YtlijgcmcpehplaaRegT
import Derived.Test.YtlijgcmcpehplaaStruct
namespace Go.Proofs.Ytlijgcmcpehplaa
set_option linter.unusedVariables false
set_option linter.unusedSimpArgs false
open Go.RowKit

def Pkt.rest (p : Pkt) (dv : Value) : List Value := [.int .u8 (p.proto.toNat : Int), .int .u8 (p.hops.toNat : Int), .int .u32 (p.id : Int), .bool p.whole, .bool p.more, .int .i64 p.off, dv]
def Pkt.cells (p : Pkt) (dv : Value) : Array Value := ⟨p.src.cells.toList ++ (p.dst.cells.toList ++ p.rest dv)⟩
def Pkt.v (p : Pkt) (dv : Value) : Value := .agg (p.cells dv)
theorem Pkt.cells_size (p : Pkt) (dv : Value) : (p.cells dv).size = 41 := rfl
theorem info_pkt (p : Pkt) (dv : Value) : (Try.prog.info? 28).map (·.size) = some (p.cells dv).size := by rw [Pkt.cells_size]; kernel_rfl
theorem Pkt.at_ (p : Pkt) (dv : Value) : (p.cells dv)[0]? = some (.bool p.src.six) ∧ (p.cells dv)[17]? = some (.bool p.dst.six) ∧ (p.cells dv)[34]? = some (.int .u8 (p.proto.toNat : Int)) ∧ (p.cells dv)[35]? = some (.int .u8 (p.hops.toNat : Int)) ∧
    (p.cells dv)[36]? = some (.int .u32 (p.id : Int)) ∧ (p.cells dv)[37]? = some (.bool p.whole) ∧ (p.cells dv)[38]? = some (.bool p.more) ∧ (p.cells dv)[39]? = some (.int .i64 p.off) ∧ (p.cells dv)[40]? = some dv := ⟨rfl, rfl, rfl, rfl, rfl, rfl, rfl, rfl, rfl⟩
theorem pkt_cells {w : World} {b : Nat} {p : Pkt} {dv : Value} {T : TypeId} (h : w.heap[b]? = some (.cells (p.cells dv) T (0, 0))) :
    w.cell? ⟨b, 0, none⟩ = some (.bool p.src.six) ∧ w.cell? ⟨b, 17, none⟩ = some (.bool p.dst.six) ∧ w.cell? ⟨b, 34, none⟩ = some (.int .u8 (p.proto.toNat : Int)) ∧ w.cell? ⟨b, 35, none⟩ = some (.int .u8 (p.hops.toNat : Int)) ∧
    w.cell? ⟨b, 36, none⟩ = some (.int .u32 (p.id : Int)) ∧ w.cell? ⟨b, 37, none⟩ = some (.bool p.whole) ∧ w.cell? ⟨b, 38, none⟩ = some (.bool p.more) ∧ w.cell? ⟨b, 39, none⟩ = some (.int .i64 p.off) ∧ w.cell? ⟨b, 40, none⟩ = some dv := by
  obtain ⟨h0, h1, h2, h3, h4, h5, h6, h7, h8⟩ := p.at_ dv
  exact ⟨(cellRow h _).trans h0, (cellRow h _).trans h1, (cellRow h _).trans h2, (cellRow h _).trans h3, (cellRow h _).trans h4, (cellRow h _).trans h5, (cellRow h _).trans h6, (cellRow h _).trans h7, (cellRow h _).trans h8⟩
theorem past_any (k : UInt8) (w : World) : Calls Try.prog 25 #[.int .u8 (k.toNat : Int)] w fun e w' => e = .returned (.bool (isPastS k)) ∧ w = w' := by
  have e : isPastS k = (decide ((k.toNat : Int) = 0) || decide ((k.toNat : Int) = 43) || decide ((k.toNat : Int) = 60)) := by
    unfold isPastS
    rw [Bool.eq_iff_iff]
    simp [← UInt8.toNat_inj]
    omega
  have E := hid e
  clear e
  go_enter Try.func25, Try.ntmps25
  go_wp2
  all_goals
    go_ret
    refine ⟨congrArg Ending.returned (congrArg Value.bool ?_), rfl⟩
    rw [E.out, Bool.eq_iff_iff]
    simp at *
    try omega
theorem known_any (k : UInt8) (w : World) : Calls Try.prog 26 #[.int .u8 (k.toNat : Int)] w fun e w' => e = .returned (.bool (isPastS k || decide (k = 44))) ∧ w = w' := by
  have e : (isPastS k || decide (k = 44)) = (decide ((k.toNat : Int) = 0) || decide ((k.toNat : Int) = 43) || decide ((k.toNat : Int) = 60) || decide ((k.toNat : Int) = 44)) := by
    unfold isPastS
    rw [Bool.eq_iff_iff]
    simp [← UInt8.toNat_inj]
    omega
  have E := hid e
  clear e
  go_enter Try.func26, Try.ntmps26
  go_wp2
  all_goals
    go_ret
    refine ⟨congrArg Ending.returned (congrArg Value.bool ?_), rfl⟩
    rw [E.out, Bool.eq_iff_iff]
    simp at *
    try omega
set_option maxHeartbeats 1000000 in
theorem may6_any (p : Pkt) (dv : Value) (w : World) (hp : p.Ok) (hd : RB w dv p.load) :
    Calls Try.prog 13 #[p.v dv] w fun e w' => e = .returned (.bool (may6 p)) ∧ Below w.heap.size w w' := by
  obtain ⟨A, c, rfl, hr⟩ := hd
  have htop := hr.top
  have hcap := hr.cap
  have ho := hp.off
  clear hr hp
  obtain ⟨r, hr⟩ : ∃ r, r = may6 p := ⟨_, rfl⟩
  rw [← hr]
  unfold may6 at hr
  have HM := hid hr
  clear hr
  obtain ⟨f0, f1, f2, f3, f4, f5, f6, f7, f8⟩ := p.at_ (.slice A p.load.length c)
  unfold Pkt.v
  generalize p.cells (.slice A p.load.length c) = cs at f0 f1 f2 f3 f4 f5 f6 f7 f8
  go_enter Try.func13, Try.ntmps13
  go_wp2_with (first | (go_at_call 25; refine (past_any _ _).mono ?_; rintro e w' ⟨rfl, rfl⟩))
  all_goals
    go_ret
    refine ⟨congrArg Ending.returned (congrArg Value.bool ?_), below_alloc (Below.refl w.heap.size w) _ (Nat.le_refl _)⟩
    rw [HM.out, Bool.eq_iff_iff]
    clear htop hcap f0 f1 f2 f3 f4 f5 f6 f7 f8 HM
    simp [← UInt8.toNat_inj] at *
    try simp [*]
    try omega
set_option maxHeartbeats 1000000 in
theorem rmay6_any (p : Pkt) (dv : Value) (w : World) (hp : p.Ok) (hd : RB w dv p.load) :
    Calls Try.prog 14 #[p.v dv] w fun e w' => e = .returned (.bool (may6 p)) ∧ Below w.heap.size w w' := by
  obtain ⟨A, c, rfl, hr⟩ := hd
  have htop := hr.top
  have hcap := hr.cap
  have ho := hp.off
  clear hr hp
  obtain ⟨r, hr⟩ : ∃ r, r = may6 p := ⟨_, rfl⟩
  rw [← hr]
  unfold may6 at hr
  have HM := hid hr
  clear hr
  obtain ⟨f0, f1, f2, f3, f4, f5, f6, f7, f8⟩ := p.at_ (.slice A p.load.length c)
  unfold Pkt.v
  generalize p.cells (.slice A p.load.length c) = cs at f0 f1 f2 f3 f4 f5 f6 f7 f8
  go_enter Try.func14, Try.ntmps14
  go_wp2_with (first | (go_at_call 26; refine (known_any _ _).mono ?_; rintro e w' ⟨rfl, rfl⟩))
  all_goals
    go_ret
    refine ⟨congrArg Ending.returned (congrArg Value.bool ?_), below_alloc (Below.refl w.heap.size w) _ (Nat.le_refl _)⟩
    rw [HM.out, Bool.eq_iff_iff]
    clear htop hcap f0 f1 f2 f3 f4 f5 f6 f7 f8 HM
    simp [← UInt8.toNat_inj] at *
    try simp [*]
    try omega
    try (intros; simp_all)
end Go.Proofs.Ytlijgcmcpehplaa
