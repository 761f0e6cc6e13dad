/-
  Texts that belong together, joined: PSpec, GSpec, GLaw, GKeep, TSpec, TLaw, VSpec.
-/
import Derived.KernelRfl
/-
  The parser, plainly: a law without the program.
-/
namespace Go.Proofs.YtkmmphkjmamckacDoor
open Go
set_option linter.all false

structure Pr where
  at_ : Int
  ps : List Int
  pl : ByteArray
  long : Bool

structure Ev where
  kind : Int
  b : Int
  ps : List Int
  pl : ByteArray

abbrev noBytes : ByteArray := ByteArray.mk #[]

def Ev.none : Ev := ⟨0, 0, [], noBytes⟩
def Pr.zero : Pr := ⟨0, [], noBytes, false⟩

def okNum (n : Int) : Prop := 0 ≤ n ∧ n ≤ 999

structure GoodP (p : Pr) : Prop where
  lo : 0 ≤ p.at_
  hi : p.at_ ≤ 4
  len : p.ps.length ≤ 4
  pay : p.pl.size ≤ 48
  nums : ∀ n ∈ p.ps, okNum n
  cmd : p.at_ = 2 ↔ 0 < p.ps.length
  rest : p.at_ = 3 ∨ p.at_ = 4 ∨ (p.pl = noBytes ∧ p.long = false)

/-- The last number, so far, and one more digit. -/
def lastNum (ps : List Int) (c : Int) : List Int := ps.set (ps.length - 1) (min (10 * (ps.getD (ps.length - 1) 0) + c - 48) 999)

def cmdP (p : Pr) (c : Int) : Pr × Ev :=
  if 48 ≤ c ∧ c ≤ 57 then ({ p with ps := lastNum p.ps c }, .none)
  else if c = 59 ∧ p.ps.length < 4 then ({ p with ps := p.ps ++ [0] }, .none)
  else if 64 ≤ c ∧ c < 127 then (.zero, ⟨3, c, p.ps, noBytes⟩)
  else if c = 27 then ({ Pr.zero with at_ := 1 }, .none)
  else (.zero, .none)

def byteS (c : Int) : ByteArray := ByteArray.mk #[UInt8.ofNat c.toNat]

def stepP (p : Pr) (c : Int) : Pr × Ev :=
  if p.at_ = 0 then
    if c = 27 then ({ p with at_ := 1 }, .none)
    else if 32 ≤ c ∧ c < 127 then (p, ⟨1, c, [], noBytes⟩)
    else if (8 ≤ c ∧ c ≤ 10) ∨ c = 13 then (p, ⟨2, c, [], noBytes⟩)
    else (p, .none)
  else if p.at_ = 1 then
    if c = 27 then ({ p with at_ := 1 }, .none)
    else if c = 91 then ({ p with at_ := 2, ps := [0] }, .none)
    else if c = 80 then ({ p with at_ := 3 }, .none)
    else if c = 99 then ({ p with at_ := 0 }, ⟨5, 0, [], noBytes⟩)
    else ({ p with at_ := 0 }, .none)
  else if p.at_ = 2 then cmdP p c
  else if p.at_ = 3 then
    if c = 27 then ({ p with at_ := 4 }, .none)
    else if c = 24 then (.zero, .none)
    else if 32 ≤ c ∧ c < 127 then
      if 48 ≤ p.pl.size then ({ p with long := true }, .none) else ({ p with pl := p.pl ++ byteS c }, .none)
    else (p, .none)
  else if p.at_ = 4 then
    if c = 92 ∧ p.long = false then (.zero, ⟨4, 0, [], p.pl⟩) else (.zero, .none)
  else (p, .none)

/-- As the document's own answer takes a byte. -/
def stepR (p : Pr) (b : Int) : Pr × Ev :=
  if b = 27 ∧ p.at_ = 3 then ({ p with at_ := 4 }, .none)
  else if b = 27 ∧ p.at_ = 4 then (.zero, .none)
  else if b = 27 then ({ Pr.zero with at_ := 1 }, .none)
  else if p.at_ = 0 ∧ (32 ≤ b ∧ b ≤ 126) then (p, ⟨1, b, [], noBytes⟩)
  else if p.at_ = 0 then if b = 8 ∨ b = 9 ∨ b = 10 ∨ b = 13 then (p, ⟨2, b, [], noBytes⟩) else (p, .none)
  else if p.at_ = 1 ∧ b = 91 then ({ Pr.zero with at_ := 2, ps := [0] }, .none)
  else if p.at_ = 1 ∧ b = 80 then ({ Pr.zero with at_ := 3 }, .none)
  else if p.at_ = 1 then if b = 99 then (.zero, ⟨5, 0, [], noBytes⟩) else (.zero, .none)
  else if p.at_ = 2 ∧ 48 ≤ b ∧ b ≤ 57 then ({ p with ps := lastNum p.ps b }, .none)
  else if p.at_ = 2 ∧ b = 59 ∧ p.ps.length < 4 then ({ p with ps := p.ps ++ [0] }, .none)
  else if p.at_ = 2 then if 64 ≤ b ∧ b ≤ 126 then (.zero, ⟨3, b, p.ps, noBytes⟩) else (.zero, .none)
  else if p.at_ = 3 ∧ b = 24 then (.zero, .none)
  else if p.at_ = 3 then
    if (32 ≤ b ∧ b ≤ 126) ∧ p.pl.size < 48 then ({ p with pl := p.pl ++ byteS b }, .none)
    else if 32 ≤ b ∧ b ≤ 126 then ({ p with long := true }, .none)
    else (p, .none)
  else if p.at_ = 4 then if b = 92 ∧ p.long = false then (.zero, ⟨4, 0, [], p.pl⟩) else (.zero, .none)
  else (p, .none)

theorem lastNum_len (ps : List Int) (c : Int) : (lastNum ps c).length = ps.length := by simp [lastNum]

theorem byteS_size (c : Int) : (byteS c).size = 1 := rfl

theorem GoodP.zero : GoodP .zero := ⟨by decide, by decide, by decide, by decide, by simp [Pr.zero], by decide, .inr (.inr ⟨rfl, rfl⟩)⟩

theorem lastNum_ok {ps : List Int} (h : ∀ n ∈ ps, okNum n) {c : Int} (h0 : 48 ≤ c) (h1 : c ≤ 57) : ∀ n ∈ lastNum ps c, okNum n := by
  intro n hn
  unfold lastNum at hn
  rcases List.mem_or_eq_of_mem_set hn with hn | hn
  · exact h n hn
  · subst hn
    have h2 : 0 ≤ ps.getD (ps.length - 1) 0 := by
      rw [List.getD_eq_getElem?_getD]
      cases hg : ps[ps.length - 1]? with
      | none => simp
      | some x => exact (h x (List.mem_of_getElem? hg)).1
    unfold okNum
    omega

theorem step_good {p : Pr} (h : GoodP p) {c : Int} : GoodP (stepP p c).1 := by
  obtain ⟨h1, h2, h3, h4, h5, h6, h7⟩ := h
  obtain ⟨a, ps, pl, lg⟩ := p
  simp only at *
  unfold stepP cmdP
  simp only
  have hz := GoodP.zero
  repeat' split
  all_goals first
    | exact hz
    | (refine ⟨?_, ?_, ?_, ?_, ?_, ?_, ?_⟩ <;> simp only [Pr.zero, lastNum_len, List.length_append, List.length_cons, List.length_nil, ByteArray.size_append, byteS_size] <;> first | assumption | omega | (exact lastNum_ok h5 (by omega) (by omega)) | (intro n hn; simp at hn; rcases hn with hn | hn <;> first | exact h5 n hn | (subst hn; exact ⟨by decide, by decide⟩)) | (intro n hn; simp at hn; subst hn; exact ⟨by decide, by decide⟩) | skip)
  all_goals first
    | (rcases h7 with h7 | h7 | h7 <;> first | omega | exact .inr (.inr h7))
    | simp_all [okNum]
    | skip

theorem step_ref {p : Pr} (h : GoodP p) (c : Int) : stepP p c = stepR p c := by
  obtain ⟨h1, h2, h3, h4, h5, h6, h7⟩ := h
  obtain ⟨a, ps, pl, lg⟩ := p
  simp only at *
  have hps : a ≠ 2 → ps = [] := fun hn => List.length_eq_zero_iff.1 (by omega)
  rcases (by omega : a = 0 ∨ a = 1 ∨ a = 2 ∨ a = 3 ∨ a = 4) with rfl | rfl | rfl | rfl | rfl
  · obtain rfl := hps (by omega)
    obtain ⟨rfl, rfl⟩ := h7.resolve_left (by omega) |>.resolve_left (by omega)
    by_cases hc : c = 27
    · subst hc; rfl
    · simp only [stepP, stepR, hc, if_false, false_and, if_true, true_and]
      by_cases h8 : 32 ≤ c ∧ c ≤ 126
      · rw [if_pos (by omega), if_pos h8]
      · rw [if_neg (by omega), if_neg h8]
        by_cases h9 : (8 ≤ c ∧ c ≤ 10) ∨ c = 13
        · rw [if_pos h9, if_pos (by omega)]
        · rw [if_neg h9, if_neg (by omega)]
  · obtain rfl := hps (by omega)
    obtain ⟨rfl, rfl⟩ := h7.resolve_left (by omega) |>.resolve_left (by omega)
    by_cases hc : c = 27
    · subst hc; rfl
    · simp [stepP, stepR, hc, Pr.zero]
      repeat' split
      all_goals first | rfl | omega
  · obtain ⟨rfl, rfl⟩ := h7.resolve_left (by omega) |>.resolve_left (by omega)
    by_cases hc : c = 27
    · subst hc; rfl
    · simp [stepP, cmdP, stepR, hc, Pr.zero]
      repeat' split
      all_goals first | rfl | omega
  · obtain rfl := hps (by omega)
    by_cases hc : c = 27
    · subst hc; rfl
    · simp [stepP, stepR, hc, Pr.zero]
      repeat' split
      all_goals first | rfl | omega
  · obtain rfl := hps (by omega)
    by_cases hc : c = 27
    · subst hc; rfl
    · simp [stepP, stepR, hc, Pr.zero]

def feedP (p : Pr) : List UInt8 → Pr × List Ev
  | [] => (p, [])
  | b :: bs => ((feedP (stepP p b.toNat).1 bs).1, (if (stepP p b.toNat).2.kind = 0 then [] else [(stepP p b.toNat).2]) ++ (feedP (stepP p b.toNat).1 bs).2)

def feedR (p : Pr) : List UInt8 → Pr × List Ev
  | [] => (p, [])
  | b :: bs => ((feedR (stepR p b.toNat).1 bs).1, (if (stepR p b.toNat).2.kind = 0 then [] else [(stepR p b.toNat).2]) ++ (feedR (stepR p b.toNat).1 bs).2)

theorem feed_good : ∀ (s : List UInt8) {p : Pr}, GoodP p → GoodP (feedP p s).1
  | [], _, h => h
  | _ :: s, _, h => feed_good s (step_good h)

theorem feed_ref : ∀ (s : List UInt8) {p : Pr}, GoodP p → feedP p s = feedR p s
  | [], _, _ => rfl
  | b :: s, p, h => by
    unfold feedP feedR
    rw [feed_ref s (step_good h), step_ref h]

end Go.Proofs.YtkmmphkjmamckacDoor

/-
  A screen, plainly: a law without the program.
-/
namespace Go.Proofs.YtkmmphkjmamckacDoor
open Go
set_option linter.all false

structure Cl where
  ch : Int
  ink : Int
  pic : Int
  bold : Bool

abbrev Cl.z : Cl := ⟨0, 0, 0, false⟩

theorem Cl.ext_iff' {a b : Cl} : a = b ↔ a.ch = b.ch ∧ a.ink = b.ink ∧ a.pic = b.pic ∧ a.bold = b.bold := by
  cases a; cases b; simp only [Cl.mk.injEq]

instance : DecidableEq Cl := fun _ _ => decidable_of_iff _ Cl.ext_iff'.symm

structure Gr where
  wide : Int
  high : Int
  cells : List Cl
  row : Int
  col : Int
  ink : Int
  bold : Bool
  top : Int
  bottom : Int

abbrev Gr.zero : Gr := ⟨0, 0, [], 0, 0, 0, false, 0, 0⟩

def goodC (c : Cl) : Bool := decide (0 ≤ c.pic ∧ c.pic ≤ 8 ∧ 0 ≤ c.ink ∧ c.ink ≤ 8) &&
  (if c.pic = 0 then decide ((c.ch = 0 ∧ c.ink = 0 ∧ c.bold = false) ∨ (32 ≤ c.ch ∧ c.ch < 127)) else decide (c.ch = 0 ∧ c.ink = 0 ∧ c.bold = false))

def goodG (g : Gr) : Bool := decide (1 ≤ g.wide ∧ g.wide ≤ 24 ∧ 1 ≤ g.high ∧ g.high ≤ 10 ∧ (g.cells.length : Int) = g.wide * g.high ∧
  0 ≤ g.row ∧ g.row < g.high ∧ 0 ≤ g.col ∧ g.col ≤ g.wide ∧ 0 ≤ g.ink ∧ g.ink ≤ 8 ∧ 0 ≤ g.top ∧ g.top < g.bottom ∧ g.bottom ≤ g.high) && g.cells.all goodC

structure GoodG (g : Gr) : Prop where
  w1 : 1 ≤ g.wide
  w2 : g.wide ≤ 24
  h1 : 1 ≤ g.high
  h2 : g.high ≤ 10
  len : (g.cells.length : Int) = g.wide * g.high
  r1 : 0 ≤ g.row
  r2 : g.row < g.high
  c1 : 0 ≤ g.col
  c2 : g.col ≤ g.wide
  i1 : 0 ≤ g.ink
  i2 : g.ink ≤ 8
  t1 : 0 ≤ g.top
  t2 : g.top < g.bottom
  b2 : g.bottom ≤ g.high
  all : ∀ c ∈ g.cells, goodC c = true

theorem goodG_iff {g : Gr} : goodG g = true ↔ GoodG g := by
  unfold goodG
  rw [Bool.and_eq_true, decide_eq_true_eq, List.all_eq_true]
  constructor
  · rintro ⟨⟨a1, a2, a3, a4, a5, a6, a7, a8, a9, b1, b2, b3, b4, b5⟩, h⟩
    exact ⟨a1, a2, a3, a4, a5, a6, a7, a8, a9, b1, b2, b3, b4, b5, h⟩
  · rintro ⟨a1, a2, a3, a4, a5, a6, a7, a8, a9, b1, b2, b3, b4, b5, h⟩
    exact ⟨⟨a1, a2, a3, a4, a5, a6, a7, a8, a9, b1, b2, b3, b4, b5⟩, h⟩

/-! ### Lists by their places -/

def tabC (n : Nat) (f : Nat → Cl) : List Cl := (List.range n).map f

abbrev cg (l : List Cl) (i : Nat) : Cl := l.getD i .z

theorem tab_len (n : Nat) (f : Nat → Cl) : (tabC n f).length = n := by simp [tabC]

theorem tab_cg {n : Nat} {f : Nat → Cl} {i : Nat} (h : i < n) : cg (tabC n f) i = f i := by
  simp [tabC, cg, List.getD_eq_getElem?_getD, h]

theorem cg_ext {l m : List Cl} (hl : l.length = m.length) (h : ∀ i, i < l.length → cg l i = cg m i) : l = m := by
  refine List.ext_getElem hl fun i h1 h2 => ?_
  have := h i h1
  simpa [cg, List.getD_eq_getElem?_getD, List.getElem?_eq_getElem h1, List.getElem?_eq_getElem h2] using this

theorem cg_mem {l : List Cl} {i : Nat} (h : i < l.length) : cg l i ∈ l := by
  simp [cg, List.getD_eq_getElem?_getD, List.getElem?_eq_getElem h]

theorem mem_cg {l : List Cl} {c : Cl} (h : c ∈ l) : ∃ i, i < l.length ∧ c = cg l i := by
  obtain ⟨i, hi, rfl⟩ := List.getElem_of_mem h
  exact ⟨i, hi, by simp [cg, List.getD_eq_getElem?_getD, List.getElem?_eq_getElem hi]⟩

theorem cg_out {l : List Cl} {i : Nat} (h : l.length ≤ i) : cg l i = .z := by
  simp [cg, List.getD_eq_getElem?_getD, List.getElem?_eq_none h]

theorem cg_append {l m : List Cl} {i : Nat} : cg (l ++ m) i = if i < l.length then cg l i else cg m (i - l.length) := by
  simp only [cg, List.getD_eq_getElem?_getD]
  split
  · rw [List.getElem?_append_left (by omega)]
  · rw [List.getElem?_append_right (by omega)]

theorem cg_take {l : List Cl} {n i : Nat} (h : i < n) : cg (l.take n) i = cg l i := by
  simp only [cg, List.getD_eq_getElem?_getD]
  rw [List.getElem?_take_of_lt h]

theorem cg_drop {l : List Cl} {n i : Nat} : cg (l.drop n) i = cg l (n + i) := by
  simp only [cg, List.getD_eq_getElem?_getD, List.getElem?_drop]

theorem cg_repl {n i : Nat} : cg (List.replicate n Cl.z) i = .z := by
  simp only [cg, List.getD_eq_getElem?_getD, List.getElem?_replicate]
  split <;> rfl

theorem cg_set {l : List Cl} {k i : Nat} {c : Cl} (h : k < l.length) : cg (l.set k c) i = if i = k then c else cg l i := by
  simp only [cg, List.getD_eq_getElem?_getD]
  split
  · next e => subst e; simp [h]
  · next e => rw [List.getElem?_set_ne (fun h => e h.symm)]

theorem div_lt {i w t : Nat} (h : 0 < w) : i / w < t ↔ i < t * w := Nat.div_lt_iff_lt_mul h
theorem le_div {i w t : Nat} (h : 0 < w) : t ≤ i / w ↔ t * w ≤ i := Nat.le_div_iff_mul_le h

/-! ### Rolling, erasing, drawing -/

/-- Rows from one to below another one, n up (n below 0: down), empty ones where there is nothing. -/
def rollC (w fr to : Nat) (n : Int) (l : List Cl) : List Cl := tabC l.length fun i =>
  if i / w < fr ∨ to ≤ i / w then cg l i
  else if (fr : Int) ≤ (i / w : Nat) + n ∧ ((i / w : Nat) : Int) + n < to then cg l ((i : Int) + n * w).toNat else .z

def eraseC (lo hi : Nat) (l : List Cl) : List Cl := tabC l.length fun i => if lo ≤ i ∧ i < hi then .z else cg l i

def rollG (g : Gr) (fr to n : Int) : Gr := { g with cells := rollC g.wide.toNat fr.toNat to.toNat n g.cells }

def newG (w h : Int) : Gr := ⟨max 1 (min w 24), max 1 (min h 10), List.replicate (max 1 (min w 24) * max 1 (min h 10)).toNat .z, 0, 0, 0, false, 0, max 1 (min h 10)⟩

def feedG (g : Gr) : Gr :=
  if g.row = g.bottom - 1 then rollG g g.top g.bottom 1
  else if g.row < g.high - 1 then { g with row := g.row + 1 } else g

def showG (g : Gr) (ch : Int) : Gr :=
  let g := if g.col = g.wide then feedG { g with col := 0 } else g
  { g with cells := g.cells.set (g.row * g.wide + g.col).toNat ⟨ch, g.ink, 0, g.bold⟩, col := g.col + 1 }

def controlG (g : Gr) (c : Int) : Gr :=
  if c = 8 then { g with col := max 0 (min g.col (g.wide - 1) - 1) }
  else if c = 9 then { g with col := min (g.wide - 1) (g.col / 8 * 8 + 8) }
  else if c = 10 then feedG g
  else if c = 13 then { g with col := 0 }
  else g

def numP (l : List Int) (k : Nat) (least : Int) : Int := max least (min (l.getD k 0) 999)

def eraseG (g : Gr) (how a fr to : Int) : Gr :=
  if how = 0 then { g with cells := eraseC a.toNat to.toNat g.cells }
  else if how = 1 then { g with cells := eraseC fr.toNat (a + 1).toNat g.cells }
  else if how = 2 then { g with cells := eraseC fr.toNat to.toNat g.cells }
  else g

def inkG (g : Gr) (x : Int) : Gr :=
  if x = 0 then { g with ink := 0, bold := false }
  else if x = 1 then { g with bold := true }
  else if x = 22 then { g with bold := false }
  else if 30 ≤ x ∧ x < 38 then { g with ink := x - 29 }
  else if x = 39 then { g with ink := 0 }
  else g

def regionG (g : Gr) (top b : Int) : Gr :=
  let bottom := if b = 0 ∨ g.high < b then g.high else b
  if top < bottom then { g with top := top, bottom := bottom, row := 0, col := 0 } else g

def commandG (g : Gr) (c : Int) (l : List Int) : Gr :=
  let n := numP l 0 1
  if c = 65 then { g with row := max 0 (g.row - n) }
  else if c = 66 then { g with row := min (g.high - 1) (g.row + n) }
  else if c = 67 then { g with col := min (g.wide - 1) (g.col + n) }
  else if c = 68 then { g with col := max 0 (min g.col (g.wide - 1) - n) }
  else if c = 72 then { g with row := min g.high n - 1, col := min g.wide (numP l 1 1) - 1 }
  else if c = 74 then eraseG g (numP l 0 0) (g.row * g.wide + min g.col (g.wide - 1)) 0 g.cells.length
  else if c = 75 then eraseG g (numP l 0 0) (g.row * g.wide + min g.col (g.wide - 1)) (g.row * g.wide) ((g.row + 1) * g.wide)
  else if c = 76 ∨ c = 77 then
    if g.row < g.top ∨ g.bottom ≤ g.row then g
    else { rollG g g.row g.bottom (if c = 76 then - min n 10 else min n 10) with col := 0 }
  else if c = 109 then l.foldl inkG g
  else if c = 114 then regionG g (n - 1) (numP l 1 0)
  else g

def picC (w h left : Int) : List UInt8 → Int → Int → List Cl → List Cl
  | [], _, _, l => l
  | b :: bs, r, c, l =>
    if b.toNat = 45 then picC w h left bs (r + 1) left l
    else if 97 ≤ b.toNat ∧ b.toNat < 105 ∧ r < h ∧ c < w then picC w h left bs r (c + 1) (l.set (r * w + c).toNat ⟨0, 0, (b.toNat : Int) - 96, false⟩)
    else picC w h left bs r (c + 1) l

def pictureG (g : Gr) (s : List UInt8) : Gr := { g with cells := picC g.wide g.high (min g.col (g.wide - 1)) s g.row (min g.col (g.wide - 1)) g.cells }

def doG (g : Gr) (e : Ev) : Gr × Int :=
  if goodG g = false then (g, 1)
  else if e.kind = 1 then if e.b < 32 ∨ 126 < e.b then (g, 6) else (showG g e.b, 0)
  else if e.kind = 2 then (controlG g e.b, 0)
  else if e.kind = 3 then (commandG g e.b e.ps, 0)
  else if e.kind = 4 then (pictureG g e.pl.data.toList, 0)
  else if e.kind = 5 then (newG g.wide g.high, 0)
  else (g, 2)

def allG (g : Gr) : List Ev → Gr × Int
  | [] => (g, 0)
  | e :: es => if (doG g e).2 = 0 then allG (doG g e).1 es else doG g e

def atG (g : Gr) (r c : Int) : Cl :=
  if g.wide ≤ 24 ∧ g.high ≤ 10 ∧ 0 ≤ r ∧ r < g.high ∧ 0 ≤ c ∧ c < g.wide then cg g.cells (r * g.wide + c).toNat else .z

def resizeC (w w' h' : Nat) (h : Nat) (l : List Cl) : List Cl := tabC (w' * h') fun i => if i / w' < h ∧ i % w' < w then cg l (i / w' * w + i % w') else .z

def resizeG (g : Gr) (w h : Int) : Gr × Int :=
  if goodG g = false then (g, 1)
  else
    let w' := max 1 (min w 24)
    let h' := max 1 (min h 10)
    (⟨w', h', resizeC g.wide.toNat w'.toNat h'.toNat g.high.toNat g.cells, min g.row (h' - 1), min g.col (w' - 1), g.ink, g.bold, 0, h'⟩, 0)

theorem rollC_len (w fr to : Nat) (n : Int) (l : List Cl) : (rollC w fr to n l).length = l.length := tab_len _ _
theorem eraseC_len (lo hi : Nat) (l : List Cl) : (eraseC lo hi l).length = l.length := tab_len _ _

theorem picC_len (w h left : Int) : ∀ (s : List UInt8) (r c : Int) (l : List Cl), (picC w h left s r c l).length = l.length
  | [], _, _, _ => rfl
  | b :: s, r, c, l => by
    unfold picC
    split
    · exact picC_len w h left s _ _ l
    · split
      · rw [picC_len w h left s, List.length_set]
      · exact picC_len w h left s _ _ l

theorem roll_cg {w fr to : Nat} {n : Int} {l : List Cl} {i : Nat} (hi : i < l.length) : cg (rollC w fr to n l) i =
    if i / w < fr ∨ to ≤ i / w then cg l i
    else if (fr : Int) ≤ (i / w : Nat) + n ∧ ((i / w : Nat) : Int) + n < to then cg l ((i : Int) + n * w).toNat else .z := tab_cg hi

theorem erase_cg {lo hi : Nat} {l : List Cl} {i : Nat} (h : i < l.length) : cg (eraseC lo hi l) i = if lo ≤ i ∧ i < hi then .z else cg l i := tab_cg h

theorem split_row {w i : Nat} (hw : 0 < w) : ∃ q s, s < w ∧ i = q * w + s ∧ i / w = q ∧ i % w = s :=
  ⟨i / w, i % w, Nat.mod_lt i hw, by have := Nat.div_add_mod i w; rw [Nat.mul_comm] at this; omega, rfl, rfl⟩

theorem row_div {w q s : Nat} (h : s < w) : (q * w + s) / w = q := by
  rw [Nat.mul_comm, Nat.mul_add_div (by omega), Nat.div_eq_of_lt h]; rfl

theorem row_mod {w q s : Nat} (h : s < w) : (q * w + s) % w = s := by
  rw [Nat.mul_comm, Nat.mul_add_mod, Nat.mod_eq_of_lt h]

theorem row_src {w q s : Nat} {m : Int} (h : 0 ≤ (q : Int) + m) : (((q * w + s : Nat) : Int) + m * w).toNat = ((q : Int) + m).toNat * w + s := by
  obtain ⟨p, hp⟩ : ∃ p : Nat, (p : Int) = q + m := ⟨((q : Int) + m).toNat, Int.toNat_of_nonneg h⟩
  have hm : m = (p : Int) - q := by omega
  subst hm
  rw [Int.sub_mul, show ((q : Int) + (p - q)).toNat = p by omega]
  have e1 : ((p : Int) * w) = ((p * w : Nat) : Int) := by simp
  have e2 : ((q : Int) * w) = ((q * w : Nat) : Int) := by simp
  rw [e1, e2]
  omega

theorem row_lt {w q s to : Nat} (hs : s < w) (h : q < to) : q * w + s < to * w := by
  have := Nat.mul_le_mul_right w (show q + 1 ≤ to from h)
  rw [Nat.add_mul] at this
  omega

/-- Rolling on, the same way. -/
theorem roll_roll {w fr to : Nat} (hw : 0 < w) {l : List Cl} (hl : to * w ≤ l.length) {m n : Int} (h : (0 ≤ m ∧ 0 ≤ n) ∨ (m ≤ 0 ∧ n ≤ 0)) : rollC w fr to m (rollC w fr to n l) = rollC w fr to (m + n) l := by
  refine cg_ext (by simp only [rollC_len]) fun i hi => ?_
  simp only [rollC_len] at hi
  rw [roll_cg (by rw [rollC_len]; exact hi), roll_cg (n := m + n) hi]
  obtain ⟨q, s, hs, hi2, hq, hm⟩ := split_row (i := i) hw
  rw [hq]
  by_cases h1 : q < fr ∨ to ≤ q
  · rw [if_pos h1, if_pos h1, roll_cg hi, hq, if_pos h1]
  · rw [if_neg h1, if_neg h1]
    by_cases h2 : (fr : Int) ≤ (q : Nat) + m ∧ ((q : Nat) : Int) + m < to
    · rw [if_pos h2, hi2, row_src (by omega)]
      have hin : ((q : Int) + m).toNat * w + s < l.length := Nat.lt_of_lt_of_le (row_lt hs (by omega)) hl
      rw [roll_cg hin, row_div hs, if_neg (by omega)]
      by_cases h3 : (fr : Int) ≤ (q : Nat) + (m + n) ∧ ((q : Nat) : Int) + (m + n) < to
      · rw [if_pos h3, if_pos (by omega), row_src (by omega), row_src (by omega)]
        rw [show ((((q : Int) + m).toNat : Int) + n).toNat = ((q : Int) + (m + n)).toNat by omega]
      · rw [if_neg h3, if_neg (by omega)]
    · rw [if_neg h2, if_neg (by omega)]

theorem roll_zero {w fr to : Nat} {l : List Cl} : rollC w fr to 0 l = l := by
  refine cg_ext (rollC_len _ _ _ _ _) fun i hi => ?_
  rw [rollC_len] at hi
  rw [roll_cg hi]
  split
  · rfl
  · rw [if_pos (by omega)]
    congr 1
    omega

theorem roll_far {w fr to : Nat} {l : List Cl} {m n : Int} (hm : (to : Int) - fr ≤ m ∨ m ≤ (fr : Int) - to) (hn : (to : Int) - fr ≤ n ∨ n ≤ (fr : Int) - to) : rollC w fr to m l = rollC w fr to n l := by
  refine cg_ext (by simp only [rollC_len]) fun i hi => ?_
  rw [rollC_len] at hi
  rw [roll_cg hi, roll_cg hi]
  split
  · rfl
  · rw [if_neg (by omega), if_neg (by omega)]

end Go.Proofs.YtkmmphkjmamckacDoor

/-
  A screen, plainly: it stays good, and what each event does to its cells.
-/
namespace Go.Proofs.YtkmmphkjmamckacDoor
open Go
set_option linter.all false

abbrev AllG (l : List Cl) : Prop := ∀ c ∈ l, goodC c = true

theorem good_z : goodC .z = true := rfl

theorem AllG.cg {l : List Cl} (h : AllG l) (i : Nat) : goodC (cg l i) = true := by
  rcases Nat.lt_or_ge i l.length with hi | hi
  · exact h _ (cg_mem hi)
  · rw [cg_out hi]; rfl

theorem AllG.tab {n : Nat} {f : Nat → Cl} (h : ∀ i, i < n → goodC (f i) = true) : AllG (tabC n f) := fun c hc => by
  obtain ⟨i, hi, rfl⟩ := mem_cg hc
  rw [tab_len] at hi
  rw [tab_cg hi]
  exact h i hi

theorem AllG.roll {l : List Cl} (h : AllG l) (w fr to : Nat) (n : Int) : AllG (rollC w fr to n l) := AllG.tab fun i _ => by
  split
  · exact h.cg _
  · split
    · exact h.cg _
    · rfl

theorem AllG.erase {l : List Cl} (h : AllG l) (lo hi : Nat) : AllG (eraseC lo hi l) := AllG.tab fun i _ => by
  split
  · rfl
  · exact h.cg _

theorem AllG.set {l : List Cl} (h : AllG l) {c : Cl} (hc : goodC c = true) (i : Nat) : AllG (l.set i c) := fun x hx => by
  rcases List.mem_or_eq_of_mem_set hx with hx | hx
  · exact h x hx
  · rw [hx]; exact hc

theorem AllG.pic {w h left : Int} : ∀ (s : List UInt8) (r c : Int) (l : List Cl), AllG l → AllG (picC w h left s r c l)
  | [], _, _, _, hl => hl
  | b :: s, r, c, l, hl => by
    unfold picC
    split
    · exact AllG.pic s _ _ _ hl
    · split
      · next hb =>
        refine AllG.pic s _ _ _ (hl.set ?_ _)
        have : (97 : Int) ≤ b.toNat := by omega
        have : (b.toNat : Int) < 105 := by omega
        unfold goodC
        simp only [Bool.and_eq_true, decide_eq_true_eq]
        refine ⟨by omega, ?_⟩
        rw [if_neg (by omega)]
        rfl
      · exact AllG.pic s _ _ _ hl

theorem AllG.repl (n : Nat) : AllG (List.replicate n .z) := fun c hc => by
  rw [(List.mem_replicate.1 hc).2]; rfl

/-- A screen with others of its parts. -/
theorem GoodG.with {g : Gr} (h : GoodG g) {l : List Cl} {r c i t b : Int} {bo : Bool} (hl : l.length = g.cells.length) (hg : AllG l) (hr : 0 ≤ r ∧ r < g.high) (hc : 0 ≤ c ∧ c ≤ g.wide) (hi : 0 ≤ i ∧ i ≤ 8) (ht : 0 ≤ t ∧ t < b ∧ b ≤ g.high) : GoodG ⟨g.wide, g.high, l, r, c, i, bo, t, b⟩ :=
  ⟨h.w1, h.w2, h.h1, h.h2, by show (l.length : Int) = _; rw [hl]; exact h.len, hr.1, hr.2, hc.1, hc.2, hi.1, hi.2, ht.1, ht.2.1, ht.2.2, hg⟩

structure Sides (g x : Gr) : Prop where
  wide : x.wide = g.wide
  high : x.high = g.high

theorem GoodG.cellsWith {g : Gr} (h : GoodG g) {l : List Cl} (hl : l.length = g.cells.length) (hg : AllG l) : GoodG { g with cells := l } :=
  h.with hl hg ⟨h.r1, h.r2⟩ ⟨h.c1, h.c2⟩ ⟨h.i1, h.i2⟩ ⟨h.t1, h.t2, h.b2⟩

theorem GoodG.roll {g : Gr} (h : GoodG g) (a b n : Int) : GoodG (rollG g a b n) := h.cellsWith (rollC_len _ _ _ _ _) (AllG.roll h.all _ _ _ _)

theorem feed_ok' {g : Gr} (h : GoodG g) : GoodG (feedG g) ∧ (feedG g).wide = g.wide ∧ (feedG g).high = g.high ∧ (feedG g).col = g.col ∧ (feedG g).ink = g.ink ∧ (feedG g).bold = g.bold ∧ (feedG g).top = g.top ∧ (feedG g).bottom = g.bottom := by
  unfold feedG
  have := h.r1
  have := h.r2
  split
  · exact ⟨h.roll _ _ _, rfl, rfl, rfl, rfl, rfl, rfl, rfl⟩
  · split
    · exact ⟨h.with rfl h.all (by omega) ⟨h.c1, h.c2⟩ ⟨h.i1, h.i2⟩ ⟨h.t1, h.t2, h.b2⟩, rfl, rfl, rfl, rfl, rfl, rfl, rfl⟩
    · exact ⟨h, rfl, rfl, rfl, rfl, rfl, rfl, rfl⟩

theorem GoodG.col {g : Gr} (h : GoodG g) {c : Int} (hc : 0 ≤ c ∧ c ≤ g.wide) : GoodG { g with col := c } :=
  h.with rfl h.all ⟨h.r1, h.r2⟩ hc ⟨h.i1, h.i2⟩ ⟨h.t1, h.t2, h.b2⟩

theorem show_ok' {g : Gr} (h : GoodG g) {ch : Int} (h0 : 32 ≤ ch) (h1 : ch ≤ 126) : GoodG (showG g ch) ∧ Sides g (showG g ch) := by
  have key : ∀ x : Gr, GoodG x → x.col < x.wide → GoodG { x with cells := x.cells.set (x.row * x.wide + x.col).toNat ⟨ch, x.ink, 0, x.bold⟩, col := x.col + 1 } := fun x hx hc => by
    refine hx.with (List.length_set ..) (AllG.set hx.all ?_ _) ⟨hx.r1, hx.r2⟩ ⟨by have := hx.c1; omega, by omega⟩ ⟨hx.i1, hx.i2⟩ ⟨hx.t1, hx.t2, hx.b2⟩
    unfold goodC
    have := hx.i1
    have := hx.i2
    simp only [Bool.and_eq_true, decide_eq_true_eq, if_true]
    exact ⟨by omega, .inr (by omega)⟩
  unfold showG
  have := h.w1
  split
  · next hc =>
    have f := feed_ok' (h.col (c := 0) (by omega))
    simp only at f
    refine ⟨key _ f.1 (by rw [f.2.2.2.1, f.2.1]; show (0 : Int) < g.wide; omega), f.2.1, f.2.2.1⟩
  · next hc => exact ⟨key g h (by have := h.c2; omega), rfl, rfl⟩

theorem control_ok' {g : Gr} (h : GoodG g) (c : Int) : GoodG (controlG g c) ∧ Sides g (controlG g c) := by
  have := h.w1
  have := h.c1
  have := h.c2
  unfold controlG
  split
  · exact ⟨h.col (by omega), rfl, rfl⟩
  · split
    · exact ⟨h.col (by omega), rfl, rfl⟩
    · split
      · exact ⟨(feed_ok' h).1, (feed_ok' h).2.1, (feed_ok' h).2.2.1⟩
      · split
        · exact ⟨h.col (by omega), rfl, rfl⟩
        · exact ⟨h, rfl, rfl⟩

theorem ink_ok' {g : Gr} (h : GoodG g) (x : Int) : GoodG (inkG g x) ∧ Sides g (inkG g x) := by
  have key : ∀ i b, 0 ≤ i ∧ i ≤ 8 → GoodG { g with ink := i, bold := b } := fun i b hi => h.with rfl h.all ⟨h.r1, h.r2⟩ ⟨h.c1, h.c2⟩ hi ⟨h.t1, h.t2, h.b2⟩
  have := h.i1
  have := h.i2
  unfold inkG
  repeat' split
  all_goals first
    | exact ⟨h, rfl, rfl⟩
    | exact ⟨key _ _ (by omega), rfl, rfl⟩

theorem inks_ok' : ∀ (l : List Int) {g : Gr}, GoodG g → GoodG (l.foldl inkG g) ∧ Sides g (l.foldl inkG g)
  | [], g, h => ⟨h, rfl, rfl⟩
  | x :: l, g, h => by
    have h1 := ink_ok' h x
    have h2 := inks_ok' l h1.1
    exact ⟨h2.1, h2.2.wide.trans h1.2.wide, h2.2.high.trans h1.2.high⟩

theorem erase_ok' {g : Gr} (h : GoodG g) (how a b c : Int) : GoodG (eraseG g how a b c) ∧ Sides g (eraseG g how a b c) := by
  unfold eraseG
  repeat' split
  all_goals first
    | exact ⟨h, rfl, rfl⟩
    | exact ⟨h.cellsWith (eraseC_len _ _ _) (AllG.erase h.all _ _), rfl, rfl⟩

theorem command_ok' {g : Gr} (h : GoodG g) (c : Int) (l : List Int) : GoodG (commandG g c l) ∧ Sides g (commandG g c l) := by
  have hw1 := h.w1
  have hh1 := h.h1
  have hr1 := h.r1
  have hr2 := h.r2
  have hc1 := h.c1
  have hc2 := h.c2
  have hrow : ∀ r : Int, 0 ≤ r ∧ r < g.high → GoodG { g with row := r } := fun r hr => h.with rfl h.all hr ⟨h.c1, h.c2⟩ ⟨h.i1, h.i2⟩ ⟨h.t1, h.t2, h.b2⟩
  have hn : ∀ k, 1 ≤ numP l k 1 := fun k => by unfold numP; omega
  have hn0 := hn 0
  have hn1 := hn 1
  have h01 : 0 ≤ numP l 1 0 := by unfold numP; omega
  unfold commandG
  generalize numP l 0 1 = n at hn0 ⊢
  generalize numP l 1 1 = m at hn1 ⊢
  generalize numP l 1 0 = b at h01 ⊢
  generalize numP l 0 0 = a
  clear hn
  have s : ∀ {x : Gr}, GoodG x → x.wide = g.wide → x.high = g.high → GoodG x ∧ Sides g x := fun h a b => ⟨h, a, b⟩
  dsimp only
  by_cases e1 : c = 65
  · rw [if_pos e1]; exact s (hrow _ (by omega)) rfl rfl
  rw [if_neg e1]
  by_cases e1 : c = 66
  · rw [if_pos e1]; exact s (hrow _ (by omega)) rfl rfl
  rw [if_neg e1]
  by_cases e1 : c = 67
  · rw [if_pos e1]; exact s (h.col (by omega)) rfl rfl
  rw [if_neg e1]
  by_cases e1 : c = 68
  · rw [if_pos e1]; exact s (h.col (by omega)) rfl rfl
  rw [if_neg e1]
  by_cases e1 : c = 72
  · rw [if_pos e1]; exact s (h.with rfl h.all (by omega) (by omega) ⟨h.i1, h.i2⟩ ⟨h.t1, h.t2, h.b2⟩) rfl rfl
  rw [if_neg e1]
  by_cases e1 : c = 74
  · rw [if_pos e1]; exact erase_ok' h _ _ _ _
  rw [if_neg e1]
  by_cases e1 : c = 75
  · rw [if_pos e1]; exact erase_ok' h _ _ _ _
  rw [if_neg e1]
  by_cases e1 : c = 76 ∨ c = 77
  · rw [if_pos e1]
    by_cases e2 : g.row < g.top ∨ g.bottom ≤ g.row
    · rw [if_pos e2]; exact s h rfl rfl
    · rw [if_neg e2]
      exact s ((h.roll _ _ _).col (c := 0) (by show (0:Int) ≤ 0 ∧ (0 : Int) ≤ g.wide; omega)) rfl rfl
  rw [if_neg e1]
  by_cases e1 : c = 109
  · rw [if_pos e1]; exact inks_ok' l h
  rw [if_neg e1]
  by_cases e1 : c = 114
  · rw [if_pos e1]
    unfold regionG
    dsimp only
    have hb : 0 < (if b = 0 ∨ g.high < b then g.high else b) ∧ (if b = 0 ∨ g.high < b then g.high else b) ≤ g.high := by split <;> omega
    generalize (if b = 0 ∨ g.high < b then g.high else b) = b' at hb ⊢
    by_cases e2 : n - 1 < b'
    · rw [if_pos e2]
      exact s (h.with rfl h.all (by omega) (by omega) ⟨h.i1, h.i2⟩ (by omega)) rfl rfl
    · rw [if_neg e2]; exact s h rfl rfl
  rw [if_neg e1]
  exact s h rfl rfl

theorem picture_ok' {g : Gr} (h : GoodG g) (s : List UInt8) : GoodG (pictureG g s) ∧ Sides g (pictureG g s) :=
  ⟨h.cellsWith (picC_len _ _ _ _ _ _ _) (AllG.pic s _ _ _ h.all), rfl, rfl⟩

theorem new_ok' (w h : Int) : GoodG (newG w h) := by
  refine ⟨by show (1 : Int) ≤ max 1 (min w 24); omega, by show max 1 (min w 24) ≤ (24 : Int); omega, by show (1 : Int) ≤ max 1 (min h 10); omega, by show max 1 (min h 10) ≤ (10 : Int); omega, ?_, Int.le_refl _, by show (0 : Int) < max 1 (min h 10); omega, Int.le_refl _, by show (0 : Int) ≤ max 1 (min w 24); omega, Int.le_refl _, by show (0 : Int) ≤ 8; decide, Int.le_refl _, by show (0 : Int) < max 1 (min h 10); omega, Int.le_refl _, AllG.repl _⟩
  show ((List.replicate _ _).length : Int) = _
  rw [List.length_replicate]
  exact Int.toNat_of_nonneg (Int.mul_nonneg (by omega) (by omega))

theorem new_sides {g : Gr} (h : GoodG g) : Sides g (newG g.wide g.high) := by
  have := h.w1
  have := h.w2
  have := h.h1
  have := h.h2
  exact ⟨by show max 1 (min g.wide 24) = g.wide; omega, by show max 1 (min g.high 10) = g.high; omega⟩

theorem do_ok' {g : Gr} (h : GoodG g) (e : Ev) : GoodG (doG g e).1 ∧ Sides g (doG g e).1 := by
  unfold doG
  split
  · exact ⟨h, rfl, rfl⟩
  split
  · split
    · exact ⟨h, rfl, rfl⟩
    · exact show_ok' h (by omega) (by omega)
  split
  · exact control_ok' h _
  split
  · exact command_ok' h _ _
  split
  · exact picture_ok' h _
  split
  · exact ⟨new_ok' _ _, new_sides h⟩
  · exact ⟨h, rfl, rfl⟩

theorem do_err {g : Gr} {e : Ev} (h : (doG g e).2 ≠ 0) : (doG g e).1 = g := by
  unfold doG at h ⊢
  repeat' (split at h)
  all_goals first
    | (exfalso; exact h rfl)
    | (simp only [*, if_true, if_false, Bool.false_eq_true, Bool.true_eq_false])

theorem do_bad {g : Gr} {e : Ev} (h : ¬ GoodG g) : doG g e = (g, 1) := by
  unfold doG
  rw [if_pos (by rw [← Bool.not_eq_true, goodG_iff]; exact h)]

theorem do_good_eq' {g : Gr} (h : GoodG g) (e : Ev) : doG g e = if e.kind = 1 then if e.b < 32 ∨ 126 < e.b then (g, 6) else (showG g e.b, 0)
  else if e.kind = 2 then (controlG g e.b, 0)
  else if e.kind = 3 then (commandG g e.b e.ps, 0)
  else if e.kind = 4 then (pictureG g e.pl.data.toList, 0)
  else if e.kind = 5 then (newG g.wide g.high, 0)
  else (g, 2) := by
  unfold doG
  rw [if_neg (by rw [goodG_iff.2 h]; simp)]

theorem do_zero {g : Gr} {e : Ev} (h : (doG g e).2 = 0) : GoodG g := by
  rw [← goodG_iff]
  cases hg : goodG g with
  | true => rfl
  | false =>
    unfold doG at h
    rw [if_pos hg] at h
    cases h

end Go.Proofs.YtkmmphkjmamckacDoor

/-
  A screen, plainly: what the statements say of single events.
-/
namespace Go.Proofs.YtkmmphkjmamckacDoor
open Go
set_option linter.all false

theorem cells_len' {g : Gr} (h : GoodG g) : g.cells.length = g.high.toNat * g.wide.toNat := by
  have hl := h.len
  have := h.w1
  have := h.h1
  obtain ⟨w, hw⟩ : ∃ w : Nat, g.wide = w := ⟨g.wide.toNat, by omega⟩
  obtain ⟨k, hk⟩ : ∃ k : Nat, g.high = k := ⟨g.high.toNat, by omega⟩
  rw [hw, hk] at hl ⊢
  simp only [Int.toNat_natCast]
  rw [Nat.mul_comm]
  exact_mod_cast hl

theorem nat_place {w : Int} (hw : 0 ≤ w) (r c : Nat) : ((r : Int) * w + c).toNat = r * w.toNat + c := by
  obtain ⟨k, hk⟩ : ∃ k : Nat, w = k := ⟨w.toNat, by omega⟩
  rw [hk]
  simp only [Int.toNat_natCast]
  have e : (r : Int) * k + c = ((r * k + c : Nat) : Int) := by simp
  rw [e, Int.toNat_natCast]

theorem at_eq {g : Gr} (h : GoodG g) {r c : Nat} (hr : (r : Int) < g.high) (hc : (c : Int) < g.wide) : atG g r c = cg g.cells (r * g.wide.toNat + c) := by
  have := h.w1
  unfold atG
  rw [if_pos ⟨h.w2, h.h2, by omega, hr, by omega, hc⟩, nat_place (by omega)]

theorem place_in {g : Gr} (h : GoodG g) {r c : Nat} (hr : (r : Int) < g.high) (hc : (c : Int) < g.wide) : r * g.wide.toNat + c < g.cells.length := by
  rw [cells_len' h]
  exact row_lt (by omega) (by omega)

theorem place_inj {w r c r' c' : Nat} (hc : c < w) (hc' : c' < w) : r * w + c = r' * w + c' ↔ r = r' ∧ c = c' := by
  constructor
  · intro h
    have h1 := congrArg (· / w) h
    have h2 := congrArg (· % w) h
    simp only [row_div hc, row_div hc', row_mod hc, row_mod hc'] at h1 h2
    exact ⟨h1, h2⟩
  · rintro ⟨rfl, rfl⟩; rfl

theorem print_law {g : Gr} {ch : Int} (h : (doG g ⟨1, ch, [], noBytes⟩).2 = 0) (hcol : g.col ≠ g.wide) :
    GoodG g ∧ GoodG (doG g ⟨1, ch, [], noBytes⟩).1 ∧ (doG g ⟨1, ch, [], noBytes⟩).1.row = g.row ∧ (doG g ⟨1, ch, [], noBytes⟩).1.col = g.col + 1 ∧
    ∀ r c : Nat, (r : Int) < g.high → (c : Int) < g.wide → atG (doG g ⟨1, ch, [], noBytes⟩).1 r c = if (r : Int) = g.row ∧ (c : Int) = g.col then ⟨ch, g.ink, 0, g.bold⟩ else atG g r c := by
  have hg := do_zero h
  have ho := do_ok' hg ⟨1, ch, [], noBytes⟩
  have hr1 := hg.r1
  have hr2 := hg.r2
  have hc1 := hg.c1
  have hc2 := hg.c2
  refine ⟨hg, ho.1, ?_⟩
  have he : (doG g ⟨1, ch, [], noBytes⟩).1 = { g with cells := g.cells.set (g.row * g.wide + g.col).toNat ⟨ch, g.ink, 0, g.bold⟩, col := g.col + 1 } := by
    unfold doG at h ⊢
    rw [if_neg (by rw [goodG_iff.2 hg]; simp)] at h ⊢
    dsimp only at h ⊢
    rw [if_pos rfl] at h ⊢
    by_cases hb : ch < 32 ∨ 126 < ch
    · rw [if_pos hb] at h; cases h
    · rw [if_neg hb]
      unfold showG
      rw [if_neg hcol]
  rw [he] at ho ⊢
  refine ⟨rfl, rfl, fun r c hr hc => ?_⟩
  rw [at_eq ho.1 hr hc, at_eq hg hr hc]
  obtain ⟨r', hr'⟩ : ∃ r' : Nat, g.row = r' := ⟨g.row.toNat, by omega⟩
  obtain ⟨c', hc'⟩ : ∃ c' : Nat, g.col = c' := ⟨g.col.toNat, by omega⟩
  show cg (g.cells.set _ _) (r * g.wide.toNat + c) = _
  rw [hr', hc', nat_place (by omega), cg_set (place_in hg (by omega) (by omega))]
  simp only [place_inj (w := g.wide.toNat) (r := r) (c := c) (r' := r') (c' := c') (by omega) (by omega), Int.natCast_inj]

theorem feed_law {g : Gr} (hg : GoodG g) : (g.row ≠ g.bottom - 1 → (feedG g).cells = g.cells ∧ (feedG g).row = min (g.row + 1) (g.high - 1) ∧ (feedG g).col = g.col) ∧
    (g.row = g.bottom - 1 → (feedG g).row = g.row ∧ (feedG g).col = g.col ∧ ∀ r c : Nat, (r : Int) < g.high → (c : Int) < g.wide → atG (feedG g) r c =
      if (r : Int) = g.bottom - 1 then .z else if g.top ≤ r ∧ (r : Int) < g.bottom then atG g (r + 1 : Nat) c else atG g r c) := by
  have hr1 := hg.r1
  have hr2 := hg.r2
  have ht1 := hg.t1
  have ht2 := hg.t2
  have hb2 := hg.b2
  have hw1 := hg.w1
  constructor
  · intro h
    unfold feedG
    rw [if_neg h]
    split
    · exact ⟨rfl, by show g.row + 1 = _; omega, rfl⟩
    · exact ⟨rfl, by omega, rfl⟩
  · intro h
    have hf := (feed_ok' hg).1
    unfold feedG at hf ⊢
    rw [if_pos h] at hf ⊢
    refine ⟨rfl, rfl, fun r c hr hc => ?_⟩
    rw [at_eq hf hr hc]
    show cg (rollC _ _ _ _ g.cells) (r * g.wide.toNat + c) = _
    have hcw : c < g.wide.toNat := by omega
    rw [roll_cg (place_in hg hr hc), row_div hcw]
    by_cases h1 : (r : Int) = g.bottom - 1
    · rw [if_pos h1, if_neg (by omega), if_neg (by omega)]
    · rw [if_neg h1]
      by_cases h2 : g.top ≤ r ∧ (r : Int) < g.bottom
      · rw [if_pos h2, if_neg (by omega), if_pos (by omega)]
        have := row_src (w := g.wide.toNat) (q := r) (s := c) (m := 1) (by omega)
        rw [this, at_eq hg (by omega) hc]
        congr 2
      · rw [if_neg h2, if_pos (by omega), at_eq hg hr hc]

theorem do_ctl {g : Gr} (hg : GoodG g) (b : Int) (ps : List Int) (pl : ByteArray) : doG g ⟨2, b, ps, pl⟩ = (controlG g b, 0) := by
  unfold doG
  rw [if_neg (by rw [goodG_iff.2 hg]; simp)]
  dsimp only
  rw [if_neg (by omega), if_pos rfl]

theorem do_csi {g : Gr} (hg : GoodG g) (b : Int) (ps : List Int) (pl : ByteArray) : doG g ⟨3, b, ps, pl⟩ = (commandG g b ps, 0) := by
  unfold doG
  rw [if_neg (by rw [goodG_iff.2 hg]; simp)]
  dsimp only
  rw [if_neg (by omega), if_neg (by omega), if_pos rfl]

theorem do_pic {g : Gr} (hg : GoodG g) (b : Int) (ps : List Int) (pl : ByteArray) : doG g ⟨4, b, ps, pl⟩ = (pictureG g pl.data.toList, 0) := by
  unfold doG
  rw [if_neg (by rw [goodG_iff.2 hg]; simp)]
  dsimp only
  rw [if_neg (by omega), if_neg (by omega), if_neg (by omega), if_pos rfl]

theorem erase_law {g : Gr} (hg : GoodG g) {how : Int} (h0 : 0 ≤ how) (h3 : how < 3) :
    (commandG g 74 [how]).cells.length = g.cells.length ∧ (commandG g 74 [how]).row = g.row ∧ (commandG g 74 [how]).col = g.col ∧
    ∀ i : Nat, i < g.cells.length → cg (commandG g 74 [how]).cells i = if how = 2 ∨ (how = 0 ∧ g.row * g.wide + min g.col (g.wide - 1) ≤ i) ∨ (how = 1 ∧ (i : Int) ≤ g.row * g.wide + min g.col (g.wide - 1)) then .z else cg g.cells i := by
  have hn : numP [how] 0 0 = how := by show max 0 (min how 999) = how; omega
  have hpl : 0 ≤ g.row * g.wide := Int.mul_nonneg hg.r1 (by have := hg.w1; omega)
  have hm : 0 ≤ min g.col (g.wide - 1) := by have := hg.c1; have := hg.w1; omega
  unfold commandG
  dsimp only
  rw [if_neg (by omega), if_neg (by omega), if_neg (by omega), if_neg (by omega), if_neg (by omega), if_pos rfl, hn]
  unfold eraseG
  rcases (by omega : how = 0 ∨ how = 1 ∨ how = 2) with rfl | rfl | rfl
  · rw [if_pos rfl]
    refine ⟨eraseC_len _ _ _, rfl, rfl, fun i hi => ?_⟩
    show cg (eraseC _ _ g.cells) i = _
    rw [erase_cg hi]
    congr 1
    apply propext
    omega
  · rw [if_neg (by omega), if_pos rfl]
    refine ⟨eraseC_len _ _ _, rfl, rfl, fun i hi => ?_⟩
    show cg (eraseC _ _ g.cells) i = _
    rw [erase_cg hi]
    congr 1
    apply propext
    omega
  · rw [if_neg (by omega), if_neg (by omega), if_pos rfl]
    refine ⟨eraseC_len _ _ _, rfl, rfl, fun i hi => ?_⟩
    show cg (eraseC _ _ g.cells) i = _
    rw [erase_cg hi]
    congr 1
    apply propext
    omega

theorem region_law {g : Gr} (hg : GoodG g) {e : Ev} (hk : ¬ (e.kind = 1 ∨ e.kind = 4 ∨ e.kind = 5 ∨ (e.kind = 3 ∧ (e.b = 74 ∨ e.b = 75)))) (h : (doG g e).2 = 0) :
    ∀ r c : Nat, (r : Int) < g.high → (c : Int) < g.wide → ((r : Int) < g.top ∨ g.bottom ≤ r) → atG (doG g e).1 r c = atG g r c := by
  intro r c hr hc hout
  have ho := do_ok' hg e
  have hcw : c < g.wide.toNat := by omega
  have hr1 := hg.r1
  have ht1 := hg.t1
  have same : (doG g e).1.cells = g.cells → atG (doG g e).1 r c = atG g r c := fun hs => by
    rw [at_eq ho.1 (by rw [ho.2.high]; exact hr) (by rw [ho.2.wide]; exact hc), at_eq hg hr hc, hs, ho.2.wide]
  have roll : ∀ a b n, (doG g e).1.cells = (rollG g a b n).cells → g.top ≤ a → b = g.bottom → atG (doG g e).1 r c = atG g r c := fun a b n hs ha hb => by
    rw [at_eq ho.1 (by rw [ho.2.high]; exact hr) (by rw [ho.2.wide]; exact hc), at_eq hg hr hc, hs, ho.2.wide]
    show cg (rollC _ _ _ _ g.cells) _ = _
    rw [roll_cg (place_in hg hr hc), row_div hcw, if_pos (by omega)]
  have hfeed : (doG g e).1 = feedG g → atG (doG g e).1 r c = atG g r c := fun hs => by
    by_cases h1 : g.row = g.bottom - 1
    · refine roll g.top g.bottom 1 ?_ (Int.le_refl _) rfl
      rw [hs]; unfold feedG; rw [if_pos h1]
    · refine same ?_
      rw [hs]; exact ((feed_law hg).1 h1).1
  obtain ⟨k, b, ps, pl⟩ := e
  simp only at hk
  by_cases h2 : k = 2
  · subst h2
    rw [do_ctl hg] at ho same roll hfeed ⊢
    by_cases h10 : b = 10
    · subst h10; exact hfeed rfl
    · refine same ?_
      show (controlG g b).cells = _
      unfold controlG
      repeat' split
      all_goals first | rfl | omega
  by_cases h3 : k = 3
  · subst h3
    rw [do_csi hg] at ho same roll hfeed ⊢
    by_cases h7 : b = 76 ∨ b = 77
    · by_cases hin : g.row < g.top ∨ g.bottom ≤ g.row
      · refine same ?_
        show (commandG g b ps).cells = _
        unfold commandG
        dsimp only
        rw [if_neg (by omega), if_neg (by omega), if_neg (by omega), if_neg (by omega), if_neg (by omega), if_neg (by omega), if_neg (by omega), if_pos h7, if_pos hin]
      · refine roll g.row g.bottom (if b = 76 then - min (numP ps 0 1) 10 else min (numP ps 0 1) 10) ?_ (by omega) rfl
        show (commandG g b ps).cells = _
        unfold commandG
        dsimp only
        rw [if_neg (by omega), if_neg (by omega), if_neg (by omega), if_neg (by omega), if_neg (by omega), if_neg (by omega), if_neg (by omega), if_pos h7, if_neg hin]
    · refine same ?_
      have hinks : ∀ (l : List Int) (x : Gr), (l.foldl inkG x).cells = x.cells := fun l => by
        induction l with
        | nil => intro x; rfl
        | cons a l ih =>
          intro x
          rw [List.foldl_cons, ih]
          unfold inkG
          repeat' split
          all_goals rfl
      have hreg : ∀ a b, (regionG g a b).cells = g.cells := fun a b => by
        unfold regionG
        dsimp only
        generalize (if b = 0 ∨ g.high < b then g.high else b) = q
        split <;> rfl
      show (commandG g b ps).cells = _
      unfold commandG
      dsimp only
      by_cases e1 : b = 65
      · rw [if_pos e1]
      rw [if_neg e1]
      by_cases e1 : b = 66
      · rw [if_pos e1]
      rw [if_neg e1]
      by_cases e1 : b = 67
      · rw [if_pos e1]
      rw [if_neg e1]
      by_cases e1 : b = 68
      · rw [if_pos e1]
      rw [if_neg e1]
      by_cases e1 : b = 72
      · rw [if_pos e1]
      rw [if_neg e1, if_neg (by omega), if_neg (by omega), if_neg h7]
      by_cases e1 : b = 109
      · rw [if_pos e1]; exact hinks _ _
      rw [if_neg e1]
      by_cases e1 : b = 114
      · rw [if_pos e1]; exact hreg _ _
      rw [if_neg e1]
  · exfalso
    unfold doG at h
    rw [if_neg (by rw [goodG_iff.2 hg]; simp)] at h
    dsimp only at h
    rw [if_neg (by omega), if_neg h2, if_neg h3, if_neg (by omega), if_neg (by omega)] at h
    cases h

theorem pic_law {w h left : Int} (hw : 0 < w) (row : Nat) (hl : 0 ≤ left) (l0 : List Cl) : ∀ (s : List UInt8) (r c : Int) (l : List Cl), (row : Int) ≤ r → left ≤ c → (∀ i, cg l i = cg l0 i ∨ ((cg l i).pic ≠ 0 ∧ row ≤ i / w.toNat ∧ left ≤ (i % w.toNat : Nat))) →
    ∀ i, cg (picC w h left s r c l) i = cg l0 i ∨ ((cg (picC w h left s r c l) i).pic ≠ 0 ∧ row ≤ i / w.toNat ∧ left ≤ (i % w.toNat : Nat))
  | [], _, _, _, _, _, hi => hi
  | b :: s, r, c, l, hr, hc, hi => by
    unfold picC
    split
    · exact pic_law hw row hl l0 s _ _ _ (by omega) (Int.le_refl _) hi
    · split
      · next hb =>
        refine pic_law hw row hl l0 s _ _ _ hr (by omega) fun i => ?_
        obtain ⟨r', hr'⟩ : ∃ r' : Nat, r = r' := ⟨r.toNat, by omega⟩
        obtain ⟨c', hc'⟩ : ∃ c' : Nat, c = c' := ⟨c.toNat, by omega⟩
        rw [hr', hc', nat_place (by omega)]
        by_cases hlt : r' * w.toNat + c' < l.length
        · rw [cg_set hlt]
          by_cases e : i = r' * w.toNat + c'
          · rw [if_pos e, e, row_div (by omega), row_mod (by omega)]
            refine .inr ⟨?_, by omega, by omega⟩
            show (b.toNat : Int) - 96 ≠ 0
            omega
          · rw [if_neg e]; exact hi i
        · rw [List.set_eq_of_length_le (by omega)]; exact hi i
      · exact pic_law hw row hl l0 s _ _ _ hr (by omega) hi

theorem picture_law {g : Gr} (hg : GoodG g) (s : List UInt8) : ∀ r c : Nat, (r : Int) < g.high → (c : Int) < g.wide → atG g r c = atG (pictureG g s) r c ∨ ((atG (pictureG g s) r c).pic ≠ 0 ∧ g.row ≤ r ∧ min g.col (g.wide - 1) ≤ c) := by
  intro r c hr hc
  have ho := picture_ok' hg s
  have hr1 := hg.r1
  have hc1 := hg.c1
  have hw1 := hg.w1
  rw [at_eq hg hr hc, at_eq ho.1 hr hc]
  have hcw : c < g.wide.toNat := by omega
  have := pic_law (w := g.wide) (h := g.high) (left := min g.col (g.wide - 1)) (by omega) g.row.toNat (by omega) g.cells s g.row (min g.col (g.wide - 1)) g.cells (by omega) (Int.le_refl _) (fun i => .inl rfl) (r * g.wide.toNat + c)
  rw [row_div hcw, row_mod hcw] at this
  rcases this with h | ⟨h1, h2, h3⟩
  · exact .inl h.symm
  · exact .inr ⟨h1, by omega, h3⟩

theorem resize_law {g : Gr} (hg : GoodG g) (w h : Int) : (resizeG g w h).2 = 0 ∧ GoodG (resizeG g w h).1 ∧ (resizeG g w h).1.wide = max 1 (min w 24) ∧ (resizeG g w h).1.high = max 1 (min h 10) ∧
    ∀ r c : Nat, (r : Int) < (resizeG g w h).1.high → (c : Int) < (resizeG g w h).1.wide → atG (resizeG g w h).1 r c = atG g r c := by
  have hr1 := hg.r1
  have hc1 := hg.c1
  have hw1 := hg.w1
  have he : resizeG g w h = (⟨max 1 (min w 24), max 1 (min h 10), resizeC g.wide.toNat (max 1 (min w 24)).toNat (max 1 (min h 10)).toNat g.high.toNat g.cells, min g.row (max 1 (min h 10) - 1), min g.col (max 1 (min w 24) - 1), g.ink, g.bold, 0, max 1 (min h 10)⟩, 0) := by
    unfold resizeG
    rw [if_neg (by rw [goodG_iff.2 hg]; simp)]
  have hgood : GoodG (resizeG g w h).1 := by
    rw [he]
    refine ⟨?_, ?_, ?_, ?_, ?_, ?_, ?_, ?_, ?_, hg.i1, hg.i2, Int.le_refl _, ?_, Int.le_refl _, ?_⟩
    · show (1 : Int) ≤ max 1 (min w 24); omega
    · show max 1 (min w 24) ≤ (24 : Int); omega
    · show (1 : Int) ≤ max 1 (min h 10); omega
    · show max 1 (min h 10) ≤ (10 : Int); omega
    · show ((resizeC _ _ _ _ _).length : Int) = max 1 (min w 24) * max 1 (min h 10)
      unfold resizeC
      rw [tab_len]
      have e1 : ((max 1 (min w 24)).toNat : Int) = max 1 (min w 24) := Int.toNat_of_nonneg (by omega)
      have e2 : ((max 1 (min h 10)).toNat : Int) = max 1 (min h 10) := Int.toNat_of_nonneg (by omega)
      push_cast
      rw [e1, e2]
    · show 0 ≤ min g.row (max 1 (min h 10) - 1); omega
    · show min g.row (max 1 (min h 10) - 1) < max 1 (min h 10); omega
    · show 0 ≤ min g.col (max 1 (min w 24) - 1); omega
    · show min g.col (max 1 (min w 24) - 1) ≤ max 1 (min w 24); omega
    · show (0 : Int) < max 1 (min h 10); omega
    · refine AllG.tab fun i _ => ?_
      split
      · exact AllG.cg hg.all _
      · rfl
  refine ⟨by rw [he], hgood, by rw [he], by rw [he], fun r c hr hc => ?_⟩
  rw [at_eq hgood hr hc]
  rw [he] at hr hc ⊢
  simp only at hr hc ⊢
  have hcw : c < (max 1 (min w 24)).toNat := by omega
  unfold resizeC
  rw [tab_cg (by rw [Nat.mul_comm (max 1 (min w 24)).toNat]; exact row_lt hcw (by omega)), row_div hcw, row_mod hcw]
  split
  · next hin => rw [at_eq hg (by omega) (by omega)]
  · next hin =>
    unfold atG
    rw [if_neg (by omega)]

end Go.Proofs.YtkmmphkjmamckacDoor

/-
  Panes laid out, plainly: a law without the program.
-/
namespace Go.Proofs.YtkmmphkjmamckacDoor
set_option linter.all false

/-- Columns of panes. -/
abbrev Cols := List (List Int)

def isPane (p : Int) : Bool := decide (0 ≤ p ∧ p < 6)

structure GoodT (t : Cols) : Prop where
  each : ∀ c ∈ t, 1 ≤ c.length ∧ c.length ≤ 3
  pane : ∀ p ∈ t.flatten, isPane p = true
  nodup : t.flatten.Nodup
  some : t ≠ []

/-- No pane twice, so far as one may look. -/
def apart : List Int → Bool
  | [] => true
  | p :: l => !(l.contains p) && apart l

def goodT (t : Cols) : Bool := t.all (fun c => decide (1 ≤ c.length ∧ c.length ≤ 3)) && t.flatten.all isPane && apart t.flatten && !t.isEmpty

theorem apart_iff : ∀ {l : List Int}, apart l = true ↔ l.Nodup
  | [] => by simp [apart]
  | p :: l => by simp [apart, apart_iff (l := l), List.nodup_cons]

theorem goodT_iff {t : Cols} : goodT t = true ↔ GoodT t := by
  unfold goodT
  simp only [Bool.and_eq_true, List.all_eq_true, decide_eq_true_eq, apart_iff, Bool.not_eq_true', List.isEmpty_eq_false_iff]
  exact ⟨fun ⟨⟨⟨a, b⟩, c⟩, d⟩ => ⟨a, b, c, d⟩, fun ⟨a, b, c, d⟩ => ⟨⟨⟨a, b⟩, c⟩, d⟩⟩

theorem nodup_le : ∀ {l m : List Int}, l.Nodup → (∀ x ∈ l, x ∈ m) → l.length ≤ m.length
  | [], m, _, _ => by simp
  | a :: l, m, hn, hs => by
    rw [List.nodup_cons] at hn
    have ha := hs a List.mem_cons_self
    have := nodup_le (l := l) (m := m.erase a) hn.2 fun x hx => (List.mem_erase_of_ne fun e : x = a => hn.1 (e ▸ hx)).2 (hs x (List.mem_cons_of_mem _ hx))
    rw [List.length_erase_of_mem ha] at this
    have := List.length_pos_of_mem ha
    simp only [List.length_cons]
    omega

theorem pane_few {l : List Int} (h : ∀ p ∈ l, isPane p = true) (hn : l.Nodup) : l.length ≤ 6 := by
  refine nodup_le (m := [0, 1, 2, 3, 4, 5]) hn fun p hp => ?_
  · have := h p hp
    simp only [isPane, decide_eq_true_eq] at this
    simp only [List.mem_cons, List.not_mem_nil, or_false]
    omega

theorem cols_len : ∀ {t : Cols}, (∀ c ∈ t, 1 ≤ c.length) → t.length ≤ t.flatten.length
  | [], _ => by simp
  | c :: t, h => by
    have := cols_len (t := t) fun d hd => h d (List.mem_cons_of_mem _ hd)
    have := h c List.mem_cons_self
    simp only [List.length_cons, List.flatten_cons, List.length_append]
    omega

theorem GoodT.few {t : Cols} (h : GoodT t) : t.length ≤ 6 := Nat.le_trans (cols_len fun c hc => (h.each c hc).1) (pane_few h.pane h.nodup)

/-- Where a pane is: its column, its place there. -/
def findT : Cols → Int → Option (Nat × Nat)
  | [], _ => none
  | c :: t, p => if c.contains p then some (0, c.idxOf p) else (findT t p).map fun x => (x.1 + 1, x.2)

def hasT (t : Cols) (p : Int) : Bool := t.flatten.contains p

theorem find_none : ∀ {t : Cols} {p : Int}, findT t p = none ↔ hasT t p = false
  | [], p => by simp [findT, hasT]
  | c :: t, p => by
    have ih := find_none (t := t) (p := p)
    unfold findT
    split
    · next h => simp [hasT, List.contains_iff_mem] at h ⊢; exact fun hn => (hn h).elim
    · next h =>
      rw [Option.map_eq_none_iff, ih]
      simp [hasT, List.contains_iff_mem] at h ⊢
      exact fun _ => h

theorem find_some : ∀ {t : Cols} {p : Int} {i k : Nat}, findT t p = some (i, k) → i < t.length ∧ k < (t.getD i []).length ∧ (t.getD i []).getD k 0 = p
  | [], p, i, k, h => by simp [findT] at h
  | c :: t, p, i, k, h => by
    unfold findT at h
    split at h
    · next hc =>
      simp only [Option.some.injEq, Prod.mk.injEq] at h
      obtain ⟨rfl, rfl⟩ := h
      have hm : p ∈ c := by simpa [List.contains_iff_mem] using hc
      have hlt := List.idxOf_lt_length_of_mem hm
      refine ⟨by simp, by simpa using hlt, ?_⟩
      simp [List.getD_eq_getElem?_getD, List.getElem?_eq_getElem hlt]
    · next hc =>
      cases hf : findT t p with
      | none => rw [hf] at h; simp at h
      | some x =>
        rw [hf] at h
        simp only [Option.map_some, Option.some.injEq, Prod.mk.injEq] at h
        obtain ⟨rfl, rfl⟩ := h
        have := find_some (t := t) (p := p) (i := x.1) (k := x.2) (by rw [hf])
        simpa using this

theorem has_find {t : Cols} {p : Int} : hasT t p = true ↔ ∃ i k, findT t p = some (i, k) := by
  cases h : findT t p with
  | none => simp [find_none.1 h]
  | some x =>
    simp only [Option.some.injEq]
    refine ⟨fun _ => ⟨x.1, x.2, rfl⟩, fun _ => ?_⟩
    cases hh : hasT t p with
    | true => rfl
    | false => rw [find_none.2 hh] at h; cases h

/-! ### Sharing a length -/

def shareT (length n k : Int) : Int × Int :=
  if n < 1 ∨ 6 < n ∨ k < 0 ∨ n ≤ k ∨ length < 0 ∨ 24 < length then (0, 0)
  else if length - (n - 1) < n then (0, 0)
  else (k * ((length - (n - 1)) / n + 1) + min k ((length - (n - 1)) % n), (length - (n - 1)) / n + if k < (length - (n - 1)) % n then 1 else 0)

structure Rc where
  row : Int
  col : Int
  high : Int
  wide : Int

abbrev Rc.zero : Rc := ⟨0, 0, 0, 0⟩

theorem Rc.ext_iff' {a b : Rc} : a = b ↔ a.row = b.row ∧ a.col = b.col ∧ a.high = b.high ∧ a.wide = b.wide := by
  cases a; cases b; simp only [Rc.mk.injEq]

instance : DecidableEq Rc := fun _ _ => decidable_of_iff _ Rc.ext_iff'.symm

def whereT (t : Cols) (wide high p : Int) : Rc :=
  match findT t p with
  | none => .zero
  | some (i, k) =>
    if goodT t = false then .zero
    else
      let x := shareT wide t.length i
      let y := shareT high (t.getD i []).length k
      if x.2 = 0 ∨ y.2 = 0 then .zero else ⟨y.1, x.1, y.2, x.2⟩

/-- The shares, if there is room. -/
theorem share_room {length n k : Int} (h : (shareT length n k).2 ≠ 0) : 1 ≤ n ∧ n ≤ 6 ∧ 0 ≤ k ∧ k < n ∧ 2 * n - 1 ≤ length ∧ length ≤ 24 := by
  unfold shareT at h
  split at h
  · exact (h rfl).elim
  · split at h
    · exact (h rfl).elim
    · omega

theorem share_no {length n k : Int} (h : ¬ (1 ≤ n ∧ n ≤ 6 ∧ 0 ≤ k ∧ k < n ∧ 2 * n - 1 ≤ length ∧ length ≤ 24)) : shareT length n k = (0, 0) := by
  unfold shareT
  split
  · rfl
  · rw [if_pos (by omega)]

/-- A share's parts by each and more. -/
theorem share_eq {length n k : Int} (h : 1 ≤ n ∧ n ≤ 6 ∧ 0 ≤ k ∧ k < n ∧ 2 * n - 1 ≤ length ∧ length ≤ 24) :
    ∃ each more : Int, 1 ≤ each ∧ 0 ≤ more ∧ more < n ∧ length - (n - 1) = n * each + more ∧ each = (length - (n - 1)) / n ∧ more = (length - (n - 1)) % n ∧ shareT length n k = (k * (each + 1) + min k more, each + if k < more then 1 else 0) := by
  refine ⟨(length - (n - 1)) / n, (length - (n - 1)) % n, ?_, Int.emod_nonneg _ (by omega), Int.emod_lt_of_pos _ (by omega), (Int.mul_ediv_add_emod _ _).symm, rfl, rfl, ?_⟩
  · exact Int.le_ediv_of_mul_le (by omega) (by omega)
  · unfold shareT
    rw [if_neg (by omega), if_neg (by omega)]

theorem share_pos {length n k : Int} (h : 1 ≤ n ∧ n ≤ 6 ∧ 0 ≤ k ∧ k < n ∧ 2 * n - 1 ≤ length ∧ length ≤ 24) : 1 ≤ (shareT length n k).2 ∧ 0 ≤ (shareT length n k).1 := by
  obtain ⟨e, m, he, hm, hmn, hl, _, _, hs⟩ := share_eq h
  rw [hs]
  simp only
  have := Int.mul_nonneg h.2.2.1 (show 0 ≤ e + 1 by omega)
  constructor
  · split <;> omega
  · omega

theorem share_zero {length n k : Int} : (shareT length n k).2 = 0 → shareT length n k = (0, 0) := fun h => share_no fun hr => by
  have := (share_pos hr).1
  omega

theorem share_nonneg (length n k : Int) : 0 ≤ (shareT length n k).1 ∧ 0 ≤ (shareT length n k).2 := by
  by_cases h : 1 ≤ n ∧ n ≤ 6 ∧ 0 ≤ k ∧ k < n ∧ 2 * n - 1 ≤ length ∧ length ≤ 24
  · have := share_pos h
    omega
  · rw [share_no h]; exact ⟨Int.le_refl _, Int.le_refl _⟩

/-- One share stands behind the other, with a cell between. -/
theorem share_next {length n k : Int} (h : 1 ≤ n ∧ n ≤ 6 ∧ 0 ≤ k ∧ k + 1 < n ∧ 2 * n - 1 ≤ length ∧ length ≤ 24) : (shareT length n (k + 1)).1 = (shareT length n k).1 + (shareT length n k).2 + 1 := by
  obtain ⟨e, m, he, hm, hmn, hl, h1, h2, hs⟩ := share_eq (length := length) (n := n) (k := k) (by omega)
  obtain ⟨e', m', _, _, _, _, h1', h2', hs'⟩ := share_eq (length := length) (n := n) (k := k + 1) (by omega)
  rw [← h1] at h1'
  rw [← h2] at h2'
  subst h1' h2'
  rw [hs, hs']
  simp only
  rw [Int.add_mul]
  split <;> omega

theorem share_first {length n : Int} : (shareT length n 0).1 = 0 := by
  by_cases h : 1 ≤ n ∧ n ≤ 6 ∧ 0 ≤ (0 : Int) ∧ 0 < n ∧ 2 * n - 1 ≤ length ∧ length ≤ 24
  · obtain ⟨e, m, he, hm, hmn, hl, _, _, hs⟩ := share_eq h
    rw [hs]
    simp only
    omega
  · rw [share_no h]

/-- The last share ends where the length does. -/
theorem share_last {length n : Int} (h : 1 ≤ n ∧ n ≤ 6 ∧ 2 * n - 1 ≤ length ∧ length ≤ 24) : (shareT length n (n - 1)).1 + (shareT length n (n - 1)).2 = length := by
  obtain ⟨e, m, he, hm, hmn, hl, _, _, hs⟩ := share_eq (length := length) (n := n) (k := n - 1) (by omega)
  rw [hs]
  simp only
  rw [if_neg (by omega), Int.sub_mul, Int.mul_add]
  omega

/-- Behind a share, all shares that come. -/
theorem share_after {length n k : Int} (hr : 1 ≤ n ∧ n ≤ 6 ∧ 2 * n - 1 ≤ length ∧ length ≤ 24) (h0 : 0 ≤ k) : ∀ d : Nat, k + 1 + d < n → (shareT length n k).1 + (shareT length n k).2 + 1 ≤ (shareT length n (k + 1 + d)).1
  | 0, h => by
    have := share_next (length := length) (n := n) (k := k) (by omega)
    simp only [Int.natCast_zero, Int.add_zero] at *
    omega
  | d + 1, h => by
    have ih := share_after hr h0 d (by omega)
    have h1 := share_next (length := length) (n := n) (k := k + 1 + d) (by omega)
    have h2 := (share_pos (length := length) (n := n) (k := k + 1 + d) (by omega)).1
    have e : k + 1 + ((d + 1 : Nat) : Int) = k + 1 + d + 1 := by omega
    rw [e, h1]
    omega

theorem share_lt {length n k j : Int} (hr : 1 ≤ n ∧ n ≤ 6 ∧ 2 * n - 1 ≤ length ∧ length ≤ 24) (h0 : 0 ≤ k) (h : k < j) (hj : j < n) : (shareT length n k).1 + (shareT length n k).2 + 1 ≤ (shareT length n j).1 := by
  have := share_after hr h0 (j - k - 1).toNat (by omega)
  rwa [show k + 1 + ((j - k - 1).toNat : Int) = j by omega] at this

theorem share_in (length n k : Int) : (shareT length n k).1 + (shareT length n k).2 ≤ max 0 length := by
  by_cases h : 1 ≤ n ∧ n ≤ 6 ∧ 0 ≤ k ∧ k < n ∧ 2 * n - 1 ≤ length ∧ length ≤ 24
  · have hl := share_last (length := length) (n := n) (by omega)
    by_cases hk : k = n - 1
    · subst hk; omega
    · have := share_lt (length := length) (n := n) (k := k) (j := n - 1) (by omega) (by omega) (by omega) (by omega)
      have := share_pos (length := length) (n := n) (k := n - 1) (by omega)
      omega
  · rw [share_no h]
    show (0 : Int) + 0 ≤ _
    omega

end Go.Proofs.YtkmmphkjmamckacDoor

/-
  Panes laid out, plainly: places apart, panes put in and taken out.
-/
namespace Go.Proofs.YtkmmphkjmamckacDoor
set_option linter.all false

theorem where_shape (t : Cols) (wide high p : Int) : whereT t wide high p = .zero ∨ ∃ i k, findT t p = some (i, k) ∧ GoodT t ∧ (shareT wide t.length i).2 ≠ 0 ∧ (shareT high (t.getD i []).length k).2 ≠ 0 ∧
    whereT t wide high p = ⟨(shareT high (t.getD i []).length k).1, (shareT wide t.length i).1, (shareT high (t.getD i []).length k).2, (shareT wide t.length i).2⟩ := by
  unfold whereT
  cases hf : findT t p with
  | none => exact .inl rfl
  | some x =>
    obtain ⟨i, k⟩ := x
    simp only
    by_cases hg : goodT t = false
    · rw [if_pos hg]; exact .inl rfl
    · rw [if_neg hg]
      by_cases hz : (shareT wide t.length i).2 = 0 ∨ (shareT high (t.getD i []).length k).2 = 0
      · rw [if_pos hz]; exact .inl rfl
      · rw [if_neg hz]
        exact .inr ⟨i, k, rfl, goodT_iff.1 (by simpa using hg), fun h => hz (.inl h), fun h => hz (.inr h), rfl⟩

def inR (r : Rc) (row col : Int) : Prop := r.row ≤ row ∧ row < r.row + r.high ∧ r.col ≤ col ∧ col < r.col + r.wide

theorem where_in (t : Cols) (wide high p : Int) : 0 ≤ (whereT t wide high p).row ∧ 0 ≤ (whereT t wide high p).col ∧ (whereT t wide high p).row + (whereT t wide high p).high ≤ max 0 high ∧ (whereT t wide high p).col + (whereT t wide high p).wide ≤ max 0 wide ∧
    0 ≤ (whereT t wide high p).high ∧ 0 ≤ (whereT t wide high p).wide ∧ (0 < (whereT t wide high p).high ↔ 0 < (whereT t wide high p).wide) ∧ (0 < (whereT t wide high p).wide → hasT t p = true) := by
  rcases where_shape t wide high p with h | ⟨i, k, hf, hg, hw, hh, h⟩
  · rw [h]; exact ⟨Int.le_refl _, Int.le_refl _, by show (0 : Int) + 0 ≤ _; omega, by show (0 : Int) + 0 ≤ _; omega, Int.le_refl _, Int.le_refl _, Iff.rfl, fun h => by simp at h⟩
  · rw [h]
    simp only
    have a := share_nonneg wide t.length i
    have b := share_nonneg high (t.getD i []).length k
    have c := share_in wide t.length i
    have d := share_in high (t.getD i []).length k
    refine ⟨b.1, a.1, d, c, b.2, a.2, by omega, fun _ => has_find.2 ⟨i, k, hf⟩⟩

/-- No place is that of two panes. -/
theorem where_apart {t : Cols} {wide high p q row col : Int} (hp : inR (whereT t wide high p) row col) (hq : inR (whereT t wide high q) row col) : p = q := by
  rcases where_shape t wide high p with h | ⟨i, k, hf, hg, hw, hh, h⟩
  · rw [h] at hp; simp only [inR, Rc.zero] at hp; omega
  rcases where_shape t wide high q with h' | ⟨j, l, hf', hg', hw', hh', h'⟩
  · rw [h'] at hq; simp only [inR, Rc.zero] at hq; omega
  rw [h] at hp
  rw [h'] at hq
  simp only [inR] at hp hq
  have r1 := share_room hw
  have r2 := share_room hw'
  have hij : i = j := by
    rcases Nat.lt_trichotomy i j with hlt | rfl | hlt
    · have := share_lt (length := wide) (n := t.length) (k := i) (j := j) (by omega) (by omega) (by omega) (by omega)
      omega
    · rfl
    · have := share_lt (length := wide) (n := t.length) (k := j) (j := i) (by omega) (by omega) (by omega) (by omega)
      omega
  subst hij
  have s1 := share_room hh
  have s2 := share_room hh'
  have hkl : k = l := by
    rcases Nat.lt_trichotomy k l with hlt | rfl | hlt
    · have := share_lt (length := high) (n := (t.getD i []).length) (k := k) (j := l) (by omega) (by omega) (by omega) (by omega)
      omega
    · rfl
    · have := share_lt (length := high) (n := (t.getD i []).length) (k := l) (j := k) (by omega) (by omega) (by omega) (by omega)
      omega
  subst hkl
  rw [← (find_some hf).2.2, ← (find_some hf').2.2]

/-! ### Putting in, taking out -/

def insL {α : Type} (l : List α) (i : Nat) (x : α) : List α := l.take i ++ x :: l.drop i

def splitT (t : Cols) (p n : Int) (right : Bool) : Cols × Int :=
  if goodT t = false ∨ isPane n = false then (t, 1)
  else match findT t p with
    | none => (t, 3)
    | some (i, k) =>
      if hasT t n = true then (t, 4)
      else if right = false ∧ 3 ≤ (t.getD i []).length then (t, 5)
      else if right = true then (insL t (i + 1) [n], 0)
      else (t.set i (insL (t.getD i []) (k + 1) n), 0)

def killT (t : Cols) (p : Int) : Cols × Int :=
  if goodT t = false then (t, 1)
  else match findT t p with
    | none => (t, 3)
    | some (i, k) =>
      if t.length = 1 ∧ (t.getD 0 []).length = 1 then (t, 5)
      else if (t.getD i []).length = 1 then (t.eraseIdx i, 0)
      else (t.set i ((t.getD i []).eraseIdx k), 0)

/-- A column as the document makes it anew. -/
def colR (p n : Int) (right : Bool) (c : List Int) : List Int := c.flatMap fun q => if q = p ∧ right = false then [q, n] else [q]

/-- None: a column has too many. -/
def splitR (p n : Int) (right : Bool) : Cols → Option Cols
  | [] => some []
  | c :: t => if 3 < (colR p n right c).length then none
    else (splitR p n right t).map fun l => (colR p n right c) :: (if c.contains p ∧ right = true then [n] :: l else l)

def killR (t : Cols) (p : Int) : Cols := (t.map fun c => c.filter (· ≠ p)).filter fun c => !c.isEmpty

theorem idx_ne {q p : Int} (h : q ≠ p) {c : List Int} : (q :: c).idxOf p = c.idxOf p + 1 := by
  rw [List.idxOf_cons]
  have : (q == p) = false := by simpa using h
  rw [this]
  rfl

theorem colR_right (p n : Int) (c : List Int) : colR p n true c = c := by
  induction c with
  | nil => rfl
  | cons q c ih => simp [colR] at ih ⊢

theorem colR_not {p n : Int} {right : Bool} {c : List Int} (h : p ∉ c) : colR p n right c = c := by
  induction c with
  | nil => rfl
  | cons q c ih =>
    rw [List.mem_cons, not_or] at h
    have := ih h.2
    simp only [colR] at this ⊢
    rw [List.flatMap_cons, this, if_neg (by rintro ⟨rfl, _⟩; exact h.1 rfl)]
    rfl

theorem colR_in {p n : Int} {c : List Int} (hp : p ∈ c) (hn : c.Nodup) : colR p n false c = insL c (c.idxOf p + 1) n := by
  induction c with
  | nil => simp at hp
  | cons q c ih =>
    rw [List.nodup_cons] at hn
    by_cases e : q = p
    · subst e
      have := colR_not (p := q) (n := n) (right := false) hn.1
      simp only [colR] at this ⊢
      rw [List.flatMap_cons, this]
      simp [insL]
    · have hc : p ∈ c := by
        rcases List.mem_cons.1 hp with h | h
        · exact (e h.symm).elim
        · exact h
      have := ih hc hn.2
      simp only [colR] at this ⊢
      rw [List.flatMap_cons, this, if_neg (by rintro ⟨rfl, _⟩; exact e rfl)]
      rw [idx_ne e]
      simp [insL]

theorem splitR_not {p n : Int} {right : Bool} : ∀ {t : Cols}, (∀ c ∈ t, c.length ≤ 3) → p ∉ t.flatten → splitR p n right t = some t
  | [], _, _ => rfl
  | c :: t, h, hp => by
    simp only [List.flatten_cons, List.mem_append, not_or] at hp
    unfold splitR
    have hcp : ¬ (c.contains p = true ∧ right = true) := by rintro ⟨h, _⟩; exact hp.1 (by simpa [List.contains_iff_mem] using h)
    rw [colR_not hp.1, if_neg (by have := h c List.mem_cons_self; omega), splitR_not (fun d hd => h d (List.mem_cons_of_mem _ hd)) hp.2, Option.map_some, if_neg hcp]

/-- What the document makes of it. -/
theorem split_law {p n : Int} {right : Bool} : ∀ {t : Cols} {i k : Nat}, (∀ c ∈ t, c.length ≤ 3) → t.flatten.Nodup → findT t p = some (i, k) →
    splitR p n right t = if right = false ∧ 3 ≤ (t.getD i []).length then none else some (if right = true then insL t (i + 1) [n] else t.set i (insL (t.getD i []) (k + 1) n))
  | [], _, _, _, _, h => by simp [findT] at h
  | c :: t, i, k, h3, hn, hf => by
    simp only [List.flatten_cons, List.nodup_append] at hn
    unfold findT at hf
    have hc3 := h3 c List.mem_cons_self
    have ht3 : ∀ d ∈ t, d.length ≤ 3 := fun d hd => h3 d (List.mem_cons_of_mem _ hd)
    split at hf
    · next hc =>
      simp only [Option.some.injEq, Prod.mk.injEq] at hf
      obtain ⟨rfl, rfl⟩ := hf
      have hm : p ∈ c := by simpa [List.contains_iff_mem] using hc
      have hnt : p ∉ t.flatten := fun h => hn.2.2 p hm p h rfl
      unfold splitR
      rw [splitR_not ht3 hnt]
      cases right with
      | true =>
        rw [colR_right, if_neg (by omega), Option.map_some, if_pos ⟨hc, rfl⟩, if_neg (by simp), if_pos rfl]
        simp [insL]
      | false =>
        rw [colR_in hm hn.1]
        have hl : (insL c (c.idxOf p + 1) n).length = c.length + 1 := by
          have := List.idxOf_lt_length_of_mem hm
          simp [insL]; omega
        simp only [List.getD_cons_zero]
        by_cases hlt : 3 ≤ c.length
        · rw [if_pos (by omega), if_pos ⟨trivial, hlt⟩]
        · rw [if_neg (by omega), if_neg (by rintro ⟨_, h⟩; exact hlt h)]
          simp
    · next hc =>
      cases hf' : findT t p with
      | none => rw [hf'] at hf; simp at hf
      | some x =>
        rw [hf'] at hf
        simp only [Option.map_some, Option.some.injEq, Prod.mk.injEq] at hf
        obtain ⟨rfl, rfl⟩ := hf
        have hm : p ∉ c := by simpa [List.contains_iff_mem] using hc
        have ih := split_law (right := right) (n := n) ht3 hn.2.1 hf'
        unfold splitR
        have hno : ¬ (c.contains p = true ∧ right = true) := fun h => hc h.1
        rw [colR_not hm, if_neg (by omega), ih]
        simp only [hno, if_false, List.getD_cons_succ]
        by_cases h5 : right = false ∧ 3 ≤ (t.getD x.1 []).length
        · rw [if_pos h5, if_pos h5]; rfl
        · rw [if_neg h5, if_neg h5]
          cases right <;> simp [insL]

theorem filter_not {p : Int} {c : List Int} (h : p ∉ c) : c.filter (· ≠ p) = c := by
  rw [List.filter_eq_self]
  intro q hq
  simp only [ne_eq, decide_not, Bool.not_eq_true', decide_eq_false_iff_not]
  rintro rfl
  exact h hq

theorem filter_in {p : Int} {c : List Int} (h : p ∈ c) (hn : c.Nodup) : c.filter (· ≠ p) = c.eraseIdx (c.idxOf p) := by
  induction c with
  | nil => simp at h
  | cons q c ih =>
    rw [List.nodup_cons] at hn
    by_cases e : q = p
    · subst e
      rw [List.filter_cons_of_neg (by simp), filter_not hn.1]
      simp
    · have hc : p ∈ c := by
        rcases List.mem_cons.1 h with h | h
        · exact (e h.symm).elim
        · exact h
      rw [List.filter_cons_of_pos (by simpa using e), ih hc hn.2, idx_ne e]
      rfl

theorem killR_not {p : Int} : ∀ {t : Cols}, (∀ c ∈ t, 1 ≤ c.length) → p ∉ t.flatten → killR t p = t
  | [], _, _ => rfl
  | c :: t, h, hp => by
    simp only [List.flatten_cons, List.mem_append, not_or] at hp
    have ih := killR_not (t := t) (fun d hd => h d (List.mem_cons_of_mem _ hd)) hp.2
    unfold killR at ih ⊢
    rw [List.map_cons, filter_not hp.1, List.filter_cons_of_pos, ih]
    have := h c List.mem_cons_self
    cases c <;> simp at this ⊢

theorem kill_law {p : Int} : ∀ {t : Cols} {i k : Nat}, (∀ c ∈ t, 1 ≤ c.length) → t.flatten.Nodup → findT t p = some (i, k) →
    killR t p = if (t.getD i []).length = 1 then t.eraseIdx i else t.set i ((t.getD i []).eraseIdx k)
  | [], _, _, _, _, h => by simp [findT] at h
  | c :: t, i, k, h1, hn, hf => by
    simp only [List.flatten_cons, List.nodup_append] at hn
    unfold findT at hf
    have hc1 := h1 c List.mem_cons_self
    have ht1 : ∀ d ∈ t, 1 ≤ d.length := fun d hd => h1 d (List.mem_cons_of_mem _ hd)
    split at hf
    · next hc =>
      simp only [Option.some.injEq, Prod.mk.injEq] at hf
      obtain ⟨rfl, rfl⟩ := hf
      have hm : p ∈ c := by simpa [List.contains_iff_mem] using hc
      have hnt : p ∉ t.flatten := fun h => hn.2.2 p hm p h rfl
      have ih := killR_not ht1 hnt
      have hlt := List.idxOf_lt_length_of_mem hm
      unfold killR at ih ⊢
      simp only [List.getD_cons_zero, List.set_cons_zero, List.eraseIdx_cons_zero]
      rw [List.map_cons, filter_in hm hn.1]
      by_cases hl : c.length = 1
      · rw [if_pos hl, List.filter_cons_of_neg, ih]
        have : (c.eraseIdx (c.idxOf p)).length = 0 := by rw [List.length_eraseIdx_of_lt hlt]; omega
        rw [List.length_eq_zero_iff] at this
        rw [this]; simp
      · rw [if_neg hl, List.filter_cons_of_pos, ih]
        have : (c.eraseIdx (c.idxOf p)).length ≠ 0 := by rw [List.length_eraseIdx_of_lt hlt]; omega
        cases hh : c.eraseIdx (c.idxOf p) with
        | nil => rw [hh] at this; simp at this
        | cons _ _ => rfl
    · next hc =>
      cases hf' : findT t p with
      | none => rw [hf'] at hf; simp at hf
      | some x =>
        rw [hf'] at hf
        simp only [Option.map_some, Option.some.injEq, Prod.mk.injEq] at hf
        obtain ⟨rfl, rfl⟩ := hf
        have hm : p ∉ c := by simpa [List.contains_iff_mem] using hc
        have ih := kill_law ht1 hn.2.1 hf'
        unfold killR at ih ⊢
        rw [List.map_cons, filter_not hm, List.filter_cons_of_pos (by cases c <;> simp at hc1 ⊢), ih]
        simp only [List.getD_cons_succ]
        split <;> rfl

theorem kill_eq {t : Cols} (hg : GoodT t) {p : Int} (hp : hasT t p = true) (h1 : ¬ (t.length = 1 ∧ (t.getD 0 []).length = 1)) : killT t p = (killR t p, 0) := by
  obtain ⟨i, k, hf⟩ := has_find.1 hp
  unfold killT
  rw [if_neg (by rw [goodT_iff.2 hg]; simp), hf]
  simp only
  rw [if_neg h1, kill_law (fun c hc => (hg.each c hc).1) hg.nodup hf]
  split <;> rfl

theorem split_eq {t : Cols} (hg : GoodT t) {p n : Int} {right : Bool} (hn : isPane n = true) (hp : hasT t p = true) (hnn : hasT t n = false) : splitT t p n right = match splitR p n right t with | none => (t, 5) | some x => (x, 0) := by
  obtain ⟨i, k, hf⟩ := has_find.1 hp
  unfold splitT
  rw [if_neg (by rw [goodT_iff.2 hg, hn]; simp), hf]
  simp only
  rw [hnn, if_neg (by simp), split_law (fun c hc => (hg.each c hc).2) hg.nodup hf]
  by_cases h : right = false ∧ 3 ≤ (t.getD i []).length
  · rw [if_pos h, if_pos h]
  · rw [if_neg h, if_neg h]
    split <;> rfl

theorem insL_perm {α : Type} (l : List α) (i : Nat) (x : α) : (insL l i x).Perm (x :: l) := by
  unfold insL
  have h := List.perm_middle (a := x) (l₁ := l.take i) (l₂ := l.drop i)
  rwa [List.take_append_drop] at h

theorem set_split {α : Type} {l : List α} {i : Nat} (h : i < l.length) (x : α) : l.set i x = l.take i ++ x :: l.drop (i + 1) := by
  rw [List.set_eq_take_append_cons_drop, if_pos h]

theorem cut_at {α : Type} {l : List α} {i : Nat} (h : i < l.length) (d : α) : l = l.take i ++ l.getD i d :: l.drop (i + 1) := by
  have := set_split h (l.getD i d)
  rw [← this]
  refine List.ext_getElem (by simp) fun j h1 h2 => ?_
  rw [List.getElem_set]
  split
  · next e => subst e; simp [List.getD_eq_getElem?_getD, List.getElem?_eq_getElem h1]
  · rfl

/-- What Split answers when it is OK. -/
theorem split_ok {t : Cols} {p n : Int} {right : Bool} (h : (splitT t p n right).2 = 0) : GoodT t ∧ isPane n = true ∧ hasT t n = false ∧ ∃ i k, findT t p = some (i, k) ∧
    (splitT t p n right).1 = if right = true then insL t (i + 1) [n] else t.set i (insL (t.getD i []) (k + 1) n) := by
  unfold splitT at h ⊢
  by_cases h1 : goodT t = false ∨ isPane n = false
  · rw [if_pos h1] at h; cases h
  rw [if_neg h1] at h ⊢
  have hg : GoodT t := goodT_iff.1 (by cases hh : goodT t with | true => rfl | false => exact (h1 (.inl hh)).elim)
  have hn : isPane n = true := by cases hh : isPane n with | true => rfl | false => exact (h1 (.inr hh)).elim
  cases hf : findT t p with
  | none => rw [hf] at h; cases h
  | some x =>
    obtain ⟨i, k⟩ := x
    rw [hf] at h
    simp only at h ⊢
    by_cases h2 : hasT t n = true
    · rw [if_pos h2] at h; cases h
    rw [if_neg h2] at h ⊢
    by_cases h3 : right = false ∧ 3 ≤ (t.getD i []).length
    · rw [if_pos h3] at h; cases h
    rw [if_neg h3] at h ⊢
    refine ⟨hg, hn, by simpa using h2, i, k, rfl, ?_⟩
    split <;> rfl

theorem split_flat {t : Cols} {p n : Int} {right : Bool} {i k : Nat} (hf : findT t p = some (i, k)) : (if right = true then insL t (i + 1) [n] else t.set i (insL (t.getD i []) (k + 1) n)).flatten.Perm (n :: t.flatten) := by
  have hi := (find_some hf).1
  split
  · exact (insL_perm t (i + 1) [n]).flatten
  · rw [set_split hi]
    have e := cut_at hi []
    rw [List.flatten_append, List.flatten_cons]
    have h1 : (t.take i).flatten ++ (insL (t.getD i []) (k + 1) n ++ (t.drop (i + 1)).flatten) = (t.take i).flatten ++ ((t.getD i []).take (k + 1)) ++ n :: ((t.getD i []).drop (k + 1) ++ (t.drop (i + 1)).flatten) := by
      simp [insL]
    rw [h1]
    refine List.perm_middle.trans (List.Perm.cons _ ?_)
    have h2 : t.flatten = (t.take i).flatten ++ (t.getD i [] ++ (t.drop (i + 1)).flatten) := by
      conv => lhs; rw [e]
      rw [List.flatten_append, List.flatten_cons]
    have h3 : (t.getD i []).take (k + 1) ++ ((t.getD i []).drop (k + 1) ++ (t.drop (i + 1)).flatten) = t.getD i [] ++ (t.drop (i + 1)).flatten := by
      rw [← List.append_assoc, List.take_append_drop]
    rw [h2, List.append_assoc, h3]

theorem split_good {t : Cols} {p n : Int} {right : Bool} (h : (splitT t p n right).2 = 0) : GoodT (splitT t p n right).1 ∧ hasT (splitT t p n right).1 n = true ∧ 2 ≤ (splitT t p n right).1.flatten.length := by
  obtain ⟨hg, hn, hnn, i, k, hf, he⟩ := split_ok h
  have hfl := split_flat (n := n) (right := right) hf
  obtain ⟨hi, hk, _⟩ := find_some hf
  have hnot : n ∉ t.flatten := by simpa [hasT, List.contains_iff_mem] using hnn
  have h3 : right = false → (t.getD i []).length < 3 := fun hr => by
    apply Classical.byContradiction
    intro hc
    unfold splitT at h
    rw [if_neg (by rw [goodT_iff.2 hg, hn]; simp), hf] at h
    simp only at h
    rw [hnn, if_neg (by simp), if_pos ⟨hr, by omega⟩] at h
    cases h
  rw [he]
  refine ⟨⟨?_, fun q hq => ?_, ?_, ?_⟩, ?_, ?_⟩
  · intro c hc
    split at hc
    · rcases List.mem_cons.1 ((insL_perm t (i + 1) [n]).mem_iff.1 hc) with rfl | hc
      · exact ⟨Nat.le_refl 1, by show 1 ≤ 3; decide⟩
      · exact hg.each c hc
    · next hr =>
      have hr' : right = false := by simpa using hr
      rcases List.mem_or_eq_of_mem_set hc with hc | rfl
      · exact hg.each c hc
      · have := (insL_perm (t.getD i []) (k + 1) n).length_eq
        simp only [List.length_cons] at this
        have := h3 hr'
        omega
  · rcases List.mem_cons.1 (hfl.mem_iff.1 hq) with rfl | hq
    · exact hn
    · exact hg.pane q hq
  · rw [hfl.nodup_iff, List.nodup_cons]
    exact ⟨hnot, hg.nodup⟩
  · intro hz
    have := hfl.length_eq
    rw [hz] at this
    simp at this
  · unfold hasT
    rw [List.contains_iff_mem]
    exact hfl.mem_iff.2 List.mem_cons_self
  · rw [hfl.length_eq, List.length_cons]
    have := cols_len (t := t) fun c hc => (hg.each c hc).1
    omega

theorem cols_two {t : Cols} (h : 2 ≤ t.flatten.length) : ¬ (t.length = 1 ∧ (t.getD 0 []).length = 1) := by
  rintro ⟨h1, h2⟩
  cases t with
  | nil => simp at h1
  | cons c t =>
    have : t = [] := List.length_eq_zero_iff.1 (by simpa using h1)
    subst this
    simp at h h2
    omega

theorem filter_ins {c : List Int} {k : Nat} {n : Int} (h : n ∉ c) : (insL c k n).filter (· ≠ n) = c := by
  unfold insL
  rw [List.filter_append, List.filter_cons_of_neg (by simp), ← List.filter_append, List.take_append_drop]
  exact filter_not h

/-- What is put in and taken out again leaves all as it was. -/
theorem split_back {t : Cols} {p n : Int} {right : Bool} (h : (splitT t p n right).2 = 0) : killT (splitT t p n right).1 n = (t, 0) := by
  obtain ⟨hg', hh, h2⟩ := split_good h
  rw [kill_eq hg' hh (cols_two h2)]
  obtain ⟨hg, hn, hnn, i, k, hf, he⟩ := split_ok h
  have hnot : n ∉ t.flatten := by simpa [hasT, List.contains_iff_mem] using hnn
  obtain ⟨hi, hk, _⟩ := find_some hf
  have h1 : ∀ c ∈ t, 1 ≤ c.length := fun c hc => (hg.each c hc).1
  have hr := killR_not h1 hnot
  have hcn : ∀ c ∈ t, n ∉ c := fun c hc hm => hnot (List.mem_flatten.2 ⟨c, hc, hm⟩)
  rw [he]
  congr 1
  split
  · conv => rhs; rw [← hr]
    unfold killR insL
    rw [List.map_append, List.map_cons, List.filter_append, List.filter_cons_of_neg (by simp), ← List.filter_append, ← List.map_append, List.take_append_drop]
  · conv => rhs; rw [← hr]
    unfold killR
    rw [List.map_set]
    congr 1
    have hm : (t.getD i []) ∈ t := by
      rw [List.getD_eq_getElem?_getD, List.getElem?_eq_getElem hi]; exact List.getElem_mem _
    rw [filter_ins (hcn _ hm)]
    refine List.ext_getElem (by simp) fun j h1 h2 => ?_
    rw [List.getElem_set]
    split
    · next e =>
      subst e
      rw [List.getElem_map]
      have : t.getD i [] = t[i] := by simp [List.getD_eq_getElem?_getD, List.getElem?_eq_getElem hi]
      rw [← this, filter_not (hcn _ hm)]
    · rfl

end Go.Proofs.YtkmmphkjmamckacDoor

/-
  What a client is to see, plainly: a law without the program.
-/
namespace Go.Proofs.YtkmmphkjmamckacDoor
open Go
set_option linter.all false

structure Vw where
  cols : Cols
  grids : List Gr
  wide : Int
  high : Int
  focus : Int

/-- The pane that is at a place. -/
def paneAt (t : Cols) (wide high r c : Int) : Option Nat :=
  [0, 1, 2, 3, 4, 5].find? fun p : Nat => decide ((whereT t wide high p).row ≤ r ∧ r < (whereT t wide high p).row + (whereT t wide high p).high ∧ (whereT t wide high p).col ≤ c ∧ c < (whereT t wide high p).col + (whereT t wide high p).wide)

def lineAt (wide : Int) (n : Nat) (c : Int) : Bool := (List.range (n - 1)).any fun i => decide (0 < (shareT wide n i).2 ∧ c = (shareT wide n i).1 + (shareT wide n i).2)

def sign (c : Int) : Cl := ⟨c, 0, 0, false⟩

def cellV (v : Vw) (r c : Int) : Cl :=
  if r < 0 ∨ c < 0 ∨ v.high ≤ r ∨ v.wide ≤ c then sign 46
  else match paneAt v.cols v.wide v.high r c with
    | some p => atG (v.grids.getD p .zero) (r - (whereT v.cols v.wide v.high p).row) (c - (whereT v.cols v.wide v.high p).col)
    | none => if lineAt v.wide v.cols.length c = true then sign 124 else sign 45

def statusV (t : Cols) (focus col : Int) : Cl :=
  if 0 ≤ col ∧ col % 2 = 0 ∧ (col / 2).toNat < t.flatten.length then
    ⟨48 + max 0 (min (t.flatten.getD (col / 2).toNat 0) 9), 0, 0, decide (t.flatten.getD (col / 2).toNat 0 = focus)⟩
  else sign 32

def screenCells (v : Vw) (w h : Nat) : List Cl := tabC (w * h) fun i => if i / w + 1 = h then statusV v.cols v.focus ((i % w : Nat) : Int) else cellV v ((i / w : Nat) : Int) ((i % w : Nat) : Int)

def cursorV (v : Vw) (w h : Int) : Int × Int :=
  if v.focus < 0 ∨ 6 ≤ v.focus then (0, 0)
  else
    let a := whereT v.cols v.wide v.high v.focus
    let f := v.grids.getD v.focus.toNat .zero
    if 0 < a.wide then (max 0 (min (a.row + min f.row (a.high - 1)) (h - 1)), max 0 (min (a.col + min f.col (a.wide - 1)) (w - 1))) else (0, 0)

def screenV (v : Vw) (wide high : Int) : Gr :=
  let w := max 1 (min wide 24)
  let h := max 1 (min high 10)
  ⟨w, h, screenCells v w.toNat h.toNat, (cursorV v w h).1, (cursorV v w h).2, 0, false, 0, h⟩

theorem paneAt_some {t : Cols} {wide high r c : Int} {p : Nat} (hp : p < 6) (h : inR (whereT t wide high p) r c) : paneAt t wide high r c = some p := by
  cases hf : paneAt t wide high r c with
  | none =>
    unfold paneAt at hf
    rw [List.find?_eq_none] at hf
    have := hf p (by simp only [List.mem_cons, List.not_mem_nil, or_false]; omega)
    exact (this (by rw [decide_eq_true_eq]; exact h)).elim
  | some q =>
    have := List.find?_some hf
    rw [decide_eq_true_eq] at this
    have e := where_apart h this
    rw [show p = q by omega]

theorem paneAt_none {t : Cols} {wide high r c : Int} (h : ∀ p : Nat, p < 6 → ¬ inR (whereT t wide high p) r c) : paneAt t wide high r c = none := by
  unfold paneAt
  rw [List.find?_eq_none]
  intro p hp hq
  rw [decide_eq_true_eq] at hq
  refine h p ?_ hq
  simp only [List.mem_cons, List.not_mem_nil, or_false] at hp
  omega

theorem paneAt_in {t : Cols} {wide high r c : Int} {p : Nat} (h : paneAt t wide high r c = some p) : p < 6 ∧ inR (whereT t wide high p) r c := by
  have h1 := List.find?_some h
  have h2 := List.mem_of_find?_eq_some h
  rw [decide_eq_true_eq] at h1
  refine ⟨?_, h1⟩
  simp only [List.mem_cons, List.not_mem_nil, or_false] at h2
  omega

theorem lineAt_iff {wide : Int} {n : Nat} {c : Int} : lineAt wide n c = true ↔ ∃ i : Nat, i + 1 < n ∧ 0 < (shareT wide n i).2 ∧ c = (shareT wide n i).1 + (shareT wide n i).2 := by
  unfold lineAt
  rw [List.any_eq_true]
  constructor
  · rintro ⟨i, hi, h⟩
    rw [List.mem_range] at hi
    rw [decide_eq_true_eq] at h
    exact ⟨i, by omega, h⟩
  · rintro ⟨i, hi, h⟩
    exact ⟨i, List.mem_range.2 (by omega), decide_eq_true h⟩

/-- A line stands ahead of a share that is not the first. -/
theorem lineAt_iff' {wide : Int} {n : Nat} {c : Int} : lineAt wide n c = true ↔ ∃ i : Nat, 1 ≤ i ∧ i < n ∧ 0 < (shareT wide n i).2 ∧ c = (shareT wide n i).1 - 1 := by
  rw [lineAt_iff]
  constructor
  · rintro ⟨i, hi, h1, h2⟩
    have hr := share_room (show (shareT wide n i).2 ≠ 0 by omega)
    have := share_next (length := wide) (n := n) (k := i) (by omega)
    have := share_pos (length := wide) (n := n) (k := i + 1) (by omega)
    refine ⟨i + 1, by omega, hi, ?_, ?_⟩
    · rw [show ((i + 1 : Nat) : Int) = i + 1 by omega]; omega
    · rw [show ((i + 1 : Nat) : Int) = i + 1 by omega]; omega
  · rintro ⟨i, h0, hi, h1, h2⟩
    have hr := share_room (show (shareT wide n i).2 ≠ 0 by omega)
    have h3 := share_next (length := wide) (n := n) (k := (i - 1 : Nat)) (by omega)
    have h4 := share_pos (length := wide) (n := n) (k := (i - 1 : Nat)) (by omega)
    rw [show ((i - 1 : Nat) : Int) + 1 = i by omega] at h3
    exact ⟨i - 1, by omega, by omega, by omega⟩

theorem screen_len (v : Vw) (w h : Nat) : (screenCells v w h).length = w * h := tab_len _ _

end Go.Proofs.YtkmmphkjmamckacDoor

