/- A segment's parts have no blank: its line tells its fields. -/
import Derived.Test.YtfliddlcbnaoiaaDumQ
namespace Go.Proofs.Ytfliddlcbnaoiaa
set_option linter.unusedVariables false
set_option linter.unusedSimpArgs false

def Tok (x : List UInt8) : Prop := x ≠ [] ∧ (32 : UInt8) ∉ x
theorem Tok.ten (n : Nat) : Tok (tenS n) := ⟨tenS_ne n, ten_no_blank n⟩
theorem Tok.sack (x : Nat × Nat) : Tok (sackT x) := by
  refine ⟨by unfold sackT; simp, ?_⟩
  unfold sackT
  rw [List.mem_append, List.mem_cons]
  rintro (h | h | h)
  · exact ten_no_blank _ h
  · exact absurd h (by decide)
  · exact ten_no_blank _ h
def Toks (l : List (List UInt8)) : Prop := ∀ x ∈ l, Tok x
theorem Toks.nil : Toks [] := fun _ h => by cases h
theorem Toks.cons {x : List UInt8} {l : List (List UInt8)} (hx : Tok x) (hl : Toks l) : Toks (x :: l) := fun y h => by
  rcases List.mem_cons.1 h with rfl | h
  · exact hx
  · exact hl y h
theorem Toks.append {l m : List (List UInt8)} (hl : Toks l) (hm : Toks m) : Toks (l ++ m) := fun y h => by
  rcases List.mem_append.1 h with h | h
  · exact hl y h
  · exact hm y h
theorem Toks.opt {a : Bool} {l : List (List UInt8)} (hl : a = true → Toks l) : Toks (if a then l else []) := by
  cases a
  · exact Toks.nil
  · exact hl rfl
theorem SegD.words_ok (s : SegD) (hf : s.flags < 64) (hm : s.hasAO = true → Tok s.mac) : Toks s.words := by
  have h9 : Toks s.w9 := Toks.append (Toks.opt fun _ => .cons ⟨by decide, by decide⟩ (.cons (Tok.ten _) .nil)) .nil
  have h8 : Toks s.w8 := Toks.append (Toks.opt fun h => .cons ⟨by decide, by decide⟩ (.cons (Tok.ten _) (.cons (Tok.ten _) (.cons (hm h) .nil)))) h9
  have h7 : Toks s.w7 := Toks.append (Toks.opt fun h => .cons ⟨by decide, by decide⟩ (fun x hx => by
    obtain ⟨y, _, rfl⟩ := List.mem_map.1 hx
    exact Tok.sack y)) h8
  have h6 : Toks s.w6 := Toks.append (Toks.opt fun h => .cons ⟨by decide, by decide⟩ (.cons (Tok.ten _) (.cons (Tok.ten _) .nil))) h7
  have h5 : Toks s.w5 := Toks.append (Toks.opt fun h => .cons ⟨by decide, by decide⟩ .nil) h6
  have h4 : Toks s.w4 := Toks.append (Toks.opt fun h => .cons ⟨by decide, by decide⟩ (.cons (Tok.ten _) .nil)) h5
  have h3 : Toks s.w3 := Toks.append (Toks.opt fun h => .cons ⟨by decide, by decide⟩ (.cons (Tok.ten _) .nil)) h4
  have h2 : Toks s.w2 := .cons ⟨by decide, by decide⟩ (.cons (Tok.ten _) h3)
  have h1 : Toks s.w1 := Toks.append (Toks.opt fun h => .cons ⟨by decide, by decide⟩ (.cons (Tok.ten _) .nil)) h2
  exact .cons ⟨by decide, by decide⟩ (.cons (Tok.ten _) (.cons ⟨by decide, by decide⟩ (.cons (Tok.ten _) (.cons (flagsS_ok ⟨s.flags, hf⟩) (.cons ⟨by decide, by decide⟩ (.cons (Tok.ten _) h1))))))
/-- A segment's line. -/
def SegD.line (s : SegD) : List UInt8 := joinS s.words
theorem SegD.line_words (s t : SegD) (hs : s.flags < 64) (ht : t.flags < 64) (ms : s.hasAO = true → Tok s.mac) (mt : t.hasAO = true → Tok t.mac) (h : s.line = t.line) : s.words = t.words :=
  joinS_inj _ _ (s.words_ok hs ms) (t.words_ok ht mt) h
end Go.Proofs.Ytfliddlcbnaoiaa
