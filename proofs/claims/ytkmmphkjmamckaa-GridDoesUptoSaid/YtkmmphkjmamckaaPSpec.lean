/-
  The parser, plainly: a law without the program.
-/
import Derived.KernelRfl
namespace Go.Proofs.Ytkmmphkjmamckaa
open Go
set_option linter.all false

structure Pr where
  at_ : Int
  ps : List Int
  pl : ByteArray
  long : Bool

structure Ev where
  kind : Int
  b : Int
  ps : List Int
  pl : ByteArray

abbrev noBytes : ByteArray := ByteArray.mk #[]

def Ev.none : Ev := ⟨0, 0, [], noBytes⟩
def Pr.zero : Pr := ⟨0, [], noBytes, false⟩

def okNum (n : Int) : Prop := 0 ≤ n ∧ n ≤ 999

structure GoodP (p : Pr) : Prop where
  lo : 0 ≤ p.at_
  hi : p.at_ ≤ 4
  len : p.ps.length ≤ 4
  pay : p.pl.size ≤ 48
  nums : ∀ n ∈ p.ps, okNum n
  cmd : p.at_ = 2 ↔ 0 < p.ps.length
  rest : p.at_ = 3 ∨ p.at_ = 4 ∨ (p.pl = noBytes ∧ p.long = false)

/-- The last number, so far, and one more digit. -/
def lastNum (ps : List Int) (c : Int) : List Int := ps.set (ps.length - 1) (min (10 * (ps.getD (ps.length - 1) 0) + c - 48) 999)

def cmdP (p : Pr) (c : Int) : Pr × Ev :=
  if 48 ≤ c ∧ c ≤ 57 then ({ p with ps := lastNum p.ps c }, .none)
  else if c = 59 ∧ p.ps.length < 4 then ({ p with ps := p.ps ++ [0] }, .none)
  else if 64 ≤ c ∧ c < 127 then (.zero, ⟨3, c, p.ps, noBytes⟩)
  else if c = 27 then ({ Pr.zero with at_ := 1 }, .none)
  else (.zero, .none)

def byteS (c : Int) : ByteArray := ByteArray.mk #[UInt8.ofNat c.toNat]

def stepP (p : Pr) (c : Int) : Pr × Ev :=
  if p.at_ = 0 then
    if c = 27 then ({ p with at_ := 1 }, .none)
    else if 32 ≤ c ∧ c < 127 then (p, ⟨1, c, [], noBytes⟩)
    else if (8 ≤ c ∧ c ≤ 10) ∨ c = 13 then (p, ⟨2, c, [], noBytes⟩)
    else (p, .none)
  else if p.at_ = 1 then
    if c = 27 then ({ p with at_ := 1 }, .none)
    else if c = 91 then ({ p with at_ := 2, ps := [0] }, .none)
    else if c = 80 then ({ p with at_ := 3 }, .none)
    else if c = 99 then ({ p with at_ := 0 }, ⟨5, 0, [], noBytes⟩)
    else ({ p with at_ := 0 }, .none)
  else if p.at_ = 2 then cmdP p c
  else if p.at_ = 3 then
    if c = 27 then ({ p with at_ := 4 }, .none)
    else if c = 24 then (.zero, .none)
    else if 32 ≤ c ∧ c < 127 then
      if 48 ≤ p.pl.size then ({ p with long := true }, .none) else ({ p with pl := p.pl ++ byteS c }, .none)
    else (p, .none)
  else if p.at_ = 4 then
    if c = 92 ∧ p.long = false then (.zero, ⟨4, 0, [], p.pl⟩) else (.zero, .none)
  else (p, .none)

/-- As the document's own answer takes a byte. -/
def stepR (p : Pr) (b : Int) : Pr × Ev :=
  if b = 27 ∧ p.at_ = 3 then ({ p with at_ := 4 }, .none)
  else if b = 27 ∧ p.at_ = 4 then (.zero, .none)
  else if b = 27 then ({ Pr.zero with at_ := 1 }, .none)
  else if p.at_ = 0 ∧ (32 ≤ b ∧ b ≤ 126) then (p, ⟨1, b, [], noBytes⟩)
  else if p.at_ = 0 then if b = 8 ∨ b = 9 ∨ b = 10 ∨ b = 13 then (p, ⟨2, b, [], noBytes⟩) else (p, .none)
  else if p.at_ = 1 ∧ b = 91 then ({ Pr.zero with at_ := 2, ps := [0] }, .none)
  else if p.at_ = 1 ∧ b = 80 then ({ Pr.zero with at_ := 3 }, .none)
  else if p.at_ = 1 then if b = 99 then (.zero, ⟨5, 0, [], noBytes⟩) else (.zero, .none)
  else if p.at_ = 2 ∧ 48 ≤ b ∧ b ≤ 57 then ({ p with ps := lastNum p.ps b }, .none)
  else if p.at_ = 2 ∧ b = 59 ∧ p.ps.length < 4 then ({ p with ps := p.ps ++ [0] }, .none)
  else if p.at_ = 2 then if 64 ≤ b ∧ b ≤ 126 then (.zero, ⟨3, b, p.ps, noBytes⟩) else (.zero, .none)
  else if p.at_ = 3 ∧ b = 24 then (.zero, .none)
  else if p.at_ = 3 then
    if (32 ≤ b ∧ b ≤ 126) ∧ p.pl.size < 48 then ({ p with pl := p.pl ++ byteS b }, .none)
    else if 32 ≤ b ∧ b ≤ 126 then ({ p with long := true }, .none)
    else (p, .none)
  else if p.at_ = 4 then if b = 92 ∧ p.long = false then (.zero, ⟨4, 0, [], p.pl⟩) else (.zero, .none)
  else (p, .none)

theorem lastNum_len (ps : List Int) (c : Int) : (lastNum ps c).length = ps.length := by simp [lastNum]

theorem byteS_size (c : Int) : (byteS c).size = 1 := rfl

theorem GoodP.zero : GoodP .zero := ⟨by decide, by decide, by decide, by decide, by simp [Pr.zero], by decide, .inr (.inr ⟨rfl, rfl⟩)⟩

theorem lastNum_ok {ps : List Int} (h : ∀ n ∈ ps, okNum n) {c : Int} (h0 : 48 ≤ c) (h1 : c ≤ 57) : ∀ n ∈ lastNum ps c, okNum n := by
  intro n hn
  unfold lastNum at hn
  rcases List.mem_or_eq_of_mem_set hn with hn | hn
  · exact h n hn
  · subst hn
    have h2 : 0 ≤ ps.getD (ps.length - 1) 0 := by
      rw [List.getD_eq_getElem?_getD]
      cases hg : ps[ps.length - 1]? with
      | none => simp
      | some x => exact (h x (List.mem_of_getElem? hg)).1
    unfold okNum
    omega

theorem step_good {p : Pr} (h : GoodP p) {c : Int} : GoodP (stepP p c).1 := by
  obtain ⟨h1, h2, h3, h4, h5, h6, h7⟩ := h
  obtain ⟨a, ps, pl, lg⟩ := p
  simp only at *
  unfold stepP cmdP
  simp only
  have hz := GoodP.zero
  repeat' split
  all_goals first
    | exact hz
    | (refine ⟨?_, ?_, ?_, ?_, ?_, ?_, ?_⟩ <;> simp only [Pr.zero, lastNum_len, List.length_append, List.length_cons, List.length_nil, ByteArray.size_append, byteS_size] <;> first | assumption | omega | (exact lastNum_ok h5 (by omega) (by omega)) | (intro n hn; simp at hn; rcases hn with hn | hn <;> first | exact h5 n hn | (subst hn; exact ⟨by decide, by decide⟩)) | (intro n hn; simp at hn; subst hn; exact ⟨by decide, by decide⟩) | skip)
  all_goals first
    | (rcases h7 with h7 | h7 | h7 <;> first | omega | exact .inr (.inr h7))
    | simp_all [okNum]
    | skip

theorem step_ref {p : Pr} (h : GoodP p) (c : Int) : stepP p c = stepR p c := by
  obtain ⟨h1, h2, h3, h4, h5, h6, h7⟩ := h
  obtain ⟨a, ps, pl, lg⟩ := p
  simp only at *
  have hps : a ≠ 2 → ps = [] := fun hn => List.length_eq_zero_iff.1 (by omega)
  rcases (by omega : a = 0 ∨ a = 1 ∨ a = 2 ∨ a = 3 ∨ a = 4) with rfl | rfl | rfl | rfl | rfl
  · obtain rfl := hps (by omega)
    obtain ⟨rfl, rfl⟩ := h7.resolve_left (by omega) |>.resolve_left (by omega)
    by_cases hc : c = 27
    · subst hc; rfl
    · simp only [stepP, stepR, hc, if_false, false_and, if_true, true_and]
      by_cases h8 : 32 ≤ c ∧ c ≤ 126
      · rw [if_pos (by omega), if_pos h8]
      · rw [if_neg (by omega), if_neg h8]
        by_cases h9 : (8 ≤ c ∧ c ≤ 10) ∨ c = 13
        · rw [if_pos h9, if_pos (by omega)]
        · rw [if_neg h9, if_neg (by omega)]
  · obtain rfl := hps (by omega)
    obtain ⟨rfl, rfl⟩ := h7.resolve_left (by omega) |>.resolve_left (by omega)
    by_cases hc : c = 27
    · subst hc; rfl
    · simp [stepP, stepR, hc, Pr.zero]
      repeat' split
      all_goals first | rfl | omega
  · obtain ⟨rfl, rfl⟩ := h7.resolve_left (by omega) |>.resolve_left (by omega)
    by_cases hc : c = 27
    · subst hc; rfl
    · simp [stepP, cmdP, stepR, hc, Pr.zero]
      repeat' split
      all_goals first | rfl | omega
  · obtain rfl := hps (by omega)
    by_cases hc : c = 27
    · subst hc; rfl
    · simp [stepP, stepR, hc, Pr.zero]
      repeat' split
      all_goals first | rfl | omega
  · obtain rfl := hps (by omega)
    by_cases hc : c = 27
    · subst hc; rfl
    · simp [stepP, stepR, hc, Pr.zero]

def feedP (p : Pr) : List UInt8 → Pr × List Ev
  | [] => (p, [])
  | b :: bs => ((feedP (stepP p b.toNat).1 bs).1, (if (stepP p b.toNat).2.kind = 0 then [] else [(stepP p b.toNat).2]) ++ (feedP (stepP p b.toNat).1 bs).2)

def feedR (p : Pr) : List UInt8 → Pr × List Ev
  | [] => (p, [])
  | b :: bs => ((feedR (stepR p b.toNat).1 bs).1, (if (stepR p b.toNat).2.kind = 0 then [] else [(stepR p b.toNat).2]) ++ (feedR (stepR p b.toNat).1 bs).2)

theorem feed_good : ∀ (s : List UInt8) {p : Pr}, GoodP p → GoodP (feedP p s).1
  | [], _, h => h
  | _ :: s, _, h => feed_good s (step_good h)

theorem feed_ref : ∀ (s : List UInt8) {p : Pr}, GoodP p → feedP p s = feedR p s
  | [], _, _ => rfl
  | b :: s, p, h => by
    unfold feedP feedR
    rw [feed_ref s (step_good h), step_ref h]

end Go.Proofs.Ytkmmphkjmamckaa
