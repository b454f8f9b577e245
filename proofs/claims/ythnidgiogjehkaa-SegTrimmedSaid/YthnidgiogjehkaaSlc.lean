/- Parts of a slice of bytes. -/
import Derived.Test.YthnidgiogjehkaaOps
namespace Go.Proofs.Ythnidgiogjehkaa
set_option linter.unusedVariables false
set_option linter.unusedSimpArgs false
open Go.RowKit

theorem slice_lh {P : Program} (t e : TypeId) (kl kh : IntKind) {i : TypeInfo} (ht : P.underlying t = some (.slice e)) (hi : P.info? e = some i) (size : Nat) (hsz : i.size = size) (A : Option Addr) (n c : Nat) (l h : Int) (h0 : 0 ≤ l) (h1 : l ≤ h) (hm : h ≤ c) :
    ∀ W : World, (Instr.slice t (.slice A n c) (some (.int kl l)) (some (.int kh h)) none).run P W = .ok (.slice (if c = l.toNat then A else A.map (·.add (l.toNat * size))) (h.toNat - l.toNat) (c - l.toNat)) W := by
  intro W
  have hel : P.elem t = e := by simp [Program.elem, ht]
  have hu : P.underlying t = some (.slice (P.elem t)) := by rw [hel]; exact ht
  go_simp
  simp [sizeOf, typeInfo, hi, hsz, Result.andThen]
theorem slice_h {P : Program} (t e : TypeId) (kh : IntKind) {i : TypeInfo} (ht : P.underlying t = some (.slice e)) (hi : P.info? e = some i) (size : Nat) (hsz : i.size = size) (A : Option Addr) (n c : Nat) (h : Int) (h0 : 0 ≤ h) (hm : h ≤ c) :
    ∀ W : World, (Instr.slice t (.slice A n c) none (some (.int kh h)) none).run P W = .ok (.slice (if c = 0 then A else A.map (·.add (0 * size))) (h.toNat - 0) (c - 0)) W := by
  intro W
  have hel : P.elem t = e := by simp [Program.elem, ht]
  have hu : P.underlying t = some (.slice (P.elem t)) := by rw [hel]; exact ht
  go_simp
  simp [sizeOf, typeInfo, hi, hsz, Result.andThen, Addr.add]
theorem RB.part {w : World} {A : Option Addr} {n c : Nat} {b : List UInt8} (h : RB w (.slice A n c) b) (l m : Nat) (hm : l + m ≤ b.length) : RB w (.slice (if c = l then A else A.map (·.add (l * 1))) m (c - l)) ((b.drop l).take m) := by
  obtain ⟨A', c', e, r⟩ := h
  injection e with e1 e2 e3
  subst e1 e3
  have r1 := (r.drop (k := l) (by omega)).take (m := m) (by omega)
  have hl : ((b.drop l).take m).length = m := by rw [List.length_take, List.length_drop]; omega
  refine ⟨_, _, by rw [hl], ?_⟩
  rw [hl]
  have e : (List.drop (l * 1) (by8 b)).take (m * 1) = by8 ((b.drop l).take m) := by rw [Nat.mul_one, Nat.mul_one, by8_drop, by8_take]
  rw [e] at r1
  exact r1
/-- b[l:h] -/
theorem cut_lh {w : World} {A : Option Addr} {n c : Nat} {b : List UInt8} (hx : RB w (.slice A n c) b) (l h : Nat) (L H : Int) (hL : L = (l : Int)) (hH : H = (h : Int)) (h1 : l ≤ h) (h2 : h ≤ b.length) :
    ∃ B k, (∀ W, (Instr.slice 32 (.slice A n c) (some (.int .i64 L)) (some (.int .i64 H)) none).run Try.prog W = .ok (.slice B (h - l) k) W) ∧ RB w (.slice B (h - l) k) ((b.drop l).take (h - l)) ∧ (∀ d, InB A d → InB B d) := by
  subst hL hH
  obtain ⟨i0, hi0, hz0, hz1, hz2⟩ := info_parts info_u8
  have hc : b.length ≤ c := by
    obtain ⟨A', c', e, r⟩ := hx
    injection e with e1 e2 e3
    subst e3
    exact r.cap
  have h3 := slice_lh (P := Try.prog) 32 5 .i64 .i64 Try.underlying32 hi0 1 hz1 A n c (l : Int) (h : Int) (by omega) (by omega) (by omega)
  simp only [Int.toNat_natCast] at h3
  exact ⟨_, _, h3, hx.part l (h - l) (by omega), fun d hd => hd.drop c l (l * 1)⟩
/-- b[:h] -/
theorem cut_h {w : World} {A : Option Addr} {n c : Nat} {b : List UInt8} (hx : RB w (.slice A n c) b) (h : Nat) (H : Int) (hH : H = (h : Int)) (h2 : h ≤ b.length) :
    ∃ B k, (∀ W, (Instr.slice 32 (.slice A n c) none (some (.int .i64 H)) none).run Try.prog W = .ok (.slice B h k) W) ∧ RB w (.slice B h k) (b.take h) ∧ (∀ d, InB A d → InB B d) := by
  subst hH
  obtain ⟨i0, hi0, hz0, hz1, hz2⟩ := info_parts info_u8
  have hc : b.length ≤ c := by
    obtain ⟨A', c', e, r⟩ := hx
    injection e with e1 e2 e3
    subst e3
    exact r.cap
  have h3 := slice_h (P := Try.prog) 32 5 .i64 Try.underlying32 hi0 1 hz1 A n c (h : Int) (by omega) (by omega)
  simp only [Int.toNat_natCast, Nat.sub_zero] at h3
  have h4 := hx.part 0 h (by omega)
  rw [List.drop_zero] at h4
  exact ⟨_, _, h3, h4, fun d hd => hd.drop c 0 (0 * 1)⟩
/-- b[l:] -/
theorem cut_l {w : World} {A : Option Addr} {c : Nat} {b : List UInt8} (hx : RB w (.slice A b.length c) b) (l : Nat) (L : Int) (hL : L = (l : Int)) (h1 : l ≤ b.length) :
    ∃ B k, (∀ W, (Instr.slice 32 (.slice A b.length c) (some (.int .i64 L)) none none).run Try.prog W = .ok (.slice B (b.length - l) k) W) ∧ RB w (.slice B (b.length - l) k) (b.drop l) ∧ (∀ d, InB A d → InB B d) := by
  subst hL
  obtain ⟨i0, hi0, hz0, hz1, hz2⟩ := info_parts info_u8
  have h3 := slice_from (P := Try.prog) 32 5 .i64 Try.underlying32 hi0 1 hz1 A b.length c l h1
  have h4 := hx.part l (b.length - l) (by omega)
  rw [List.take_of_length_le (by rw [List.length_drop]; omega)] at h4
  exact ⟨_, _, h3, h4, fun d hd => hd.drop c l (l * 1)⟩
section
variable {P : Program} {o : Oper} {a : Act} {w : World}
theorem exec_build (t : TypeId) (parts : Array (Nat × Operand)) (ho : o.op = .build t parts) (vals : Array (Nat × Value)) (hp : parts.map (fun (i, x) => (i, a.eval x)) = vals) (v : Value) (hz : ∀ w, (Instr.build t vals).run P w = .ok v w) :
    (execOp a.eval o).run P w = .ok (.value v) w := by unfold execOp; simp only [ho, hp, Sem.run_bind, hz, Result.andThen_ok, Sem.run_pure]
end
theorem exec_slice8 {o : Oper} {a : Act} {w : World} (x : Operand) (lo hi : Option Operand) (ho : o.op = .slice 32 x lo hi none) (v : Value) (lv hv : Option Value) (hx : a.eval x = v) (hlo : lo.map a.eval = lv) (hhi : hi.map a.eval = hv) (r : Value)
    (hr : ∀ W, (Instr.slice 32 v lv hv none).run Try.prog W = .ok r W) : (execOp a.eval o).run Try.prog w = .ok (.value r) w := by
  have hu : Try.prog.underlying 32 = some (.slice (Try.prog.elem 32)) := by
    have : Try.prog.elem 32 = 5 := by simp [Program.elem, Try.underlying32]
    rw [this]; exact Try.underlying32
  unfold execOp; simp only [ho, hx, hlo, hhi, Option.map_none, Sem.run_bind, run_sliceAt_slice w 32 v lv hv none hu, hr, Result.andThen_ok, Sem.run_pure]
end Go.Proofs.Ythnidgiogjehkaa
