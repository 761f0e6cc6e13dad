/-
  Texts that belong together, joined: PSpec, GSpec, GLaw, GKeep, TSpec, TLaw, VSpec, DSpec, DLaw, SSpec, SLaw, TopLaw, PFeed.
-/
import Derived.KernelRfl
/-
  The parser, plainly: a law without the program.
-/
namespace Go.Proofs.YtkmmphkjmamckabDoor
open Go
set_option linter.all false

structure Pr where
  at_ : Int
  ps : List Int
  pl : ByteArray
  long : Bool

structure Ev where
  kind : Int
  b : Int
  ps : List Int
  pl : ByteArray

abbrev noBytes : ByteArray := ByteArray.mk #[]

def Ev.none : Ev := ⟨0, 0, [], noBytes⟩
def Pr.zero : Pr := ⟨0, [], noBytes, false⟩

def okNum (n : Int) : Prop := 0 ≤ n ∧ n ≤ 999

structure GoodP (p : Pr) : Prop where
  lo : 0 ≤ p.at_
  hi : p.at_ ≤ 4
  len : p.ps.length ≤ 4
  pay : p.pl.size ≤ 48
  nums : ∀ n ∈ p.ps, okNum n
  cmd : p.at_ = 2 ↔ 0 < p.ps.length
  rest : p.at_ = 3 ∨ p.at_ = 4 ∨ (p.pl = noBytes ∧ p.long = false)

/-- The last number, so far, and one more digit. -/
def lastNum (ps : List Int) (c : Int) : List Int := ps.set (ps.length - 1) (min (10 * (ps.getD (ps.length - 1) 0) + c - 48) 999)

def cmdP (p : Pr) (c : Int) : Pr × Ev :=
  if 48 ≤ c ∧ c ≤ 57 then ({ p with ps := lastNum p.ps c }, .none)
  else if c = 59 ∧ p.ps.length < 4 then ({ p with ps := p.ps ++ [0] }, .none)
  else if 64 ≤ c ∧ c < 127 then (.zero, ⟨3, c, p.ps, noBytes⟩)
  else if c = 27 then ({ Pr.zero with at_ := 1 }, .none)
  else (.zero, .none)

def byteS (c : Int) : ByteArray := ByteArray.mk #[UInt8.ofNat c.toNat]

def stepP (p : Pr) (c : Int) : Pr × Ev :=
  if p.at_ = 0 then
    if c = 27 then ({ p with at_ := 1 }, .none)
    else if 32 ≤ c ∧ c < 127 then (p, ⟨1, c, [], noBytes⟩)
    else if (8 ≤ c ∧ c ≤ 10) ∨ c = 13 then (p, ⟨2, c, [], noBytes⟩)
    else (p, .none)
  else if p.at_ = 1 then
    if c = 27 then ({ p with at_ := 1 }, .none)
    else if c = 91 then ({ p with at_ := 2, ps := [0] }, .none)
    else if c = 80 then ({ p with at_ := 3 }, .none)
    else if c = 99 then ({ p with at_ := 0 }, ⟨5, 0, [], noBytes⟩)
    else ({ p with at_ := 0 }, .none)
  else if p.at_ = 2 then cmdP p c
  else if p.at_ = 3 then
    if c = 27 then ({ p with at_ := 4 }, .none)
    else if c = 24 then (.zero, .none)
    else if 32 ≤ c ∧ c < 127 then
      if 48 ≤ p.pl.size then ({ p with long := true }, .none) else ({ p with pl := p.pl ++ byteS c }, .none)
    else (p, .none)
  else if p.at_ = 4 then
    if c = 92 ∧ p.long = false then (.zero, ⟨4, 0, [], p.pl⟩) else (.zero, .none)
  else (p, .none)

theorem lastNum_len (ps : List Int) (c : Int) : (lastNum ps c).length = ps.length := by simp [lastNum]

theorem byteS_size (c : Int) : (byteS c).size = 1 := rfl

theorem GoodP.zero : GoodP .zero := ⟨by decide, by decide, by decide, by decide, by simp [Pr.zero], by decide, .inr (.inr ⟨rfl, rfl⟩)⟩

theorem lastNum_ok {ps : List Int} (h : ∀ n ∈ ps, okNum n) {c : Int} (h0 : 48 ≤ c) (h1 : c ≤ 57) : ∀ n ∈ lastNum ps c, okNum n := by
  intro n hn
  unfold lastNum at hn
  rcases List.mem_or_eq_of_mem_set hn with hn | hn
  · exact h n hn
  · subst hn
    have h2 : 0 ≤ ps.getD (ps.length - 1) 0 := by
      rw [List.getD_eq_getElem?_getD]
      cases hg : ps[ps.length - 1]? with
      | none => simp
      | some x => exact (h x (List.mem_of_getElem? hg)).1
    unfold okNum
    omega

theorem step_good {p : Pr} (h : GoodP p) {c : Int} : GoodP (stepP p c).1 := by
  obtain ⟨h1, h2, h3, h4, h5, h6, h7⟩ := h
  obtain ⟨a, ps, pl, lg⟩ := p
  simp only at *
  unfold stepP cmdP
  simp only
  have hz := GoodP.zero
  repeat' split
  all_goals first
    | exact hz
    | (refine ⟨?_, ?_, ?_, ?_, ?_, ?_, ?_⟩ <;> simp only [Pr.zero, lastNum_len, List.length_append, List.length_cons, List.length_nil, ByteArray.size_append, byteS_size] <;> first | assumption | omega | (exact lastNum_ok h5 (by omega) (by omega)) | (intro n hn; simp at hn; rcases hn with hn | hn <;> first | exact h5 n hn | (subst hn; exact ⟨by decide, by decide⟩)) | (intro n hn; simp at hn; subst hn; exact ⟨by decide, by decide⟩) | skip)
  all_goals first
    | (rcases h7 with h7 | h7 | h7 <;> first | omega | exact .inr (.inr h7))
    | simp_all [okNum]
    | skip

def feedP (p : Pr) : List UInt8 → Pr × List Ev
  | [] => (p, [])
  | b :: bs => ((feedP (stepP p b.toNat).1 bs).1, (if (stepP p b.toNat).2.kind = 0 then [] else [(stepP p b.toNat).2]) ++ (feedP (stepP p b.toNat).1 bs).2)

theorem feed_good : ∀ (s : List UInt8) {p : Pr}, GoodP p → GoodP (feedP p s).1
  | [], _, h => h
  | _ :: s, _, h => feed_good s (step_good h)

end Go.Proofs.YtkmmphkjmamckabDoor

/-
  A screen, plainly: a law without the program.
-/
namespace Go.Proofs.YtkmmphkjmamckabDoor
open Go
set_option linter.all false

structure Cl where
  ch : Int
  ink : Int
  pic : Int
  bold : Bool

abbrev Cl.z : Cl := ⟨0, 0, 0, false⟩

theorem Cl.ext_iff' {a b : Cl} : a = b ↔ a.ch = b.ch ∧ a.ink = b.ink ∧ a.pic = b.pic ∧ a.bold = b.bold := by
  cases a; cases b; simp only [Cl.mk.injEq]

instance : DecidableEq Cl := fun _ _ => decidable_of_iff _ Cl.ext_iff'.symm

structure Gr where
  wide : Int
  high : Int
  cells : List Cl
  row : Int
  col : Int
  ink : Int
  bold : Bool
  top : Int
  bottom : Int

abbrev Gr.zero : Gr := ⟨0, 0, [], 0, 0, 0, false, 0, 0⟩

def goodC (c : Cl) : Bool := decide (0 ≤ c.pic ∧ c.pic ≤ 8 ∧ 0 ≤ c.ink ∧ c.ink ≤ 8) &&
  (if c.pic = 0 then decide ((c.ch = 0 ∧ c.ink = 0 ∧ c.bold = false) ∨ (32 ≤ c.ch ∧ c.ch < 127)) else decide (c.ch = 0 ∧ c.ink = 0 ∧ c.bold = false))

def goodG (g : Gr) : Bool := decide (1 ≤ g.wide ∧ g.wide ≤ 24 ∧ 1 ≤ g.high ∧ g.high ≤ 10 ∧ (g.cells.length : Int) = g.wide * g.high ∧
  0 ≤ g.row ∧ g.row < g.high ∧ 0 ≤ g.col ∧ g.col ≤ g.wide ∧ 0 ≤ g.ink ∧ g.ink ≤ 8 ∧ 0 ≤ g.top ∧ g.top < g.bottom ∧ g.bottom ≤ g.high) && g.cells.all goodC

structure GoodG (g : Gr) : Prop where
  w1 : 1 ≤ g.wide
  w2 : g.wide ≤ 24
  h1 : 1 ≤ g.high
  h2 : g.high ≤ 10
  len : (g.cells.length : Int) = g.wide * g.high
  r1 : 0 ≤ g.row
  r2 : g.row < g.high
  c1 : 0 ≤ g.col
  c2 : g.col ≤ g.wide
  i1 : 0 ≤ g.ink
  i2 : g.ink ≤ 8
  t1 : 0 ≤ g.top
  t2 : g.top < g.bottom
  b2 : g.bottom ≤ g.high
  all : ∀ c ∈ g.cells, goodC c = true

theorem goodG_iff {g : Gr} : goodG g = true ↔ GoodG g := by
  unfold goodG
  rw [Bool.and_eq_true, decide_eq_true_eq, List.all_eq_true]
  constructor
  · rintro ⟨⟨a1, a2, a3, a4, a5, a6, a7, a8, a9, b1, b2, b3, b4, b5⟩, h⟩
    exact ⟨a1, a2, a3, a4, a5, a6, a7, a8, a9, b1, b2, b3, b4, b5, h⟩
  · rintro ⟨a1, a2, a3, a4, a5, a6, a7, a8, a9, b1, b2, b3, b4, b5, h⟩
    exact ⟨⟨a1, a2, a3, a4, a5, a6, a7, a8, a9, b1, b2, b3, b4, b5⟩, h⟩

/-! ### Lists by their places -/

def tabC (n : Nat) (f : Nat → Cl) : List Cl := (List.range n).map f

abbrev cg (l : List Cl) (i : Nat) : Cl := l.getD i .z

theorem tab_len (n : Nat) (f : Nat → Cl) : (tabC n f).length = n := by simp [tabC]

theorem tab_cg {n : Nat} {f : Nat → Cl} {i : Nat} (h : i < n) : cg (tabC n f) i = f i := by
  simp [tabC, cg, List.getD_eq_getElem?_getD, h]

theorem cg_ext {l m : List Cl} (hl : l.length = m.length) (h : ∀ i, i < l.length → cg l i = cg m i) : l = m := by
  refine List.ext_getElem hl fun i h1 h2 => ?_
  have := h i h1
  simpa [cg, List.getD_eq_getElem?_getD, List.getElem?_eq_getElem h1, List.getElem?_eq_getElem h2] using this

theorem cg_mem {l : List Cl} {i : Nat} (h : i < l.length) : cg l i ∈ l := by
  simp [cg, List.getD_eq_getElem?_getD, List.getElem?_eq_getElem h]

theorem mem_cg {l : List Cl} {c : Cl} (h : c ∈ l) : ∃ i, i < l.length ∧ c = cg l i := by
  obtain ⟨i, hi, rfl⟩ := List.getElem_of_mem h
  exact ⟨i, hi, by simp [cg, List.getD_eq_getElem?_getD, List.getElem?_eq_getElem hi]⟩

theorem cg_out {l : List Cl} {i : Nat} (h : l.length ≤ i) : cg l i = .z := by
  simp [cg, List.getD_eq_getElem?_getD, List.getElem?_eq_none h]

theorem cg_append {l m : List Cl} {i : Nat} : cg (l ++ m) i = if i < l.length then cg l i else cg m (i - l.length) := by
  simp only [cg, List.getD_eq_getElem?_getD]
  split
  · rw [List.getElem?_append_left (by omega)]
  · rw [List.getElem?_append_right (by omega)]

theorem cg_take {l : List Cl} {n i : Nat} (h : i < n) : cg (l.take n) i = cg l i := by
  simp only [cg, List.getD_eq_getElem?_getD]
  rw [List.getElem?_take_of_lt h]

theorem cg_drop {l : List Cl} {n i : Nat} : cg (l.drop n) i = cg l (n + i) := by
  simp only [cg, List.getD_eq_getElem?_getD, List.getElem?_drop]

theorem cg_repl {n i : Nat} : cg (List.replicate n Cl.z) i = .z := by
  simp only [cg, List.getD_eq_getElem?_getD, List.getElem?_replicate]
  split <;> rfl

theorem cg_set {l : List Cl} {k i : Nat} {c : Cl} (h : k < l.length) : cg (l.set k c) i = if i = k then c else cg l i := by
  simp only [cg, List.getD_eq_getElem?_getD]
  split
  · next e => subst e; simp [h]
  · next e => rw [List.getElem?_set_ne (fun h => e h.symm)]

theorem div_lt {i w t : Nat} (h : 0 < w) : i / w < t ↔ i < t * w := Nat.div_lt_iff_lt_mul h
theorem le_div {i w t : Nat} (h : 0 < w) : t ≤ i / w ↔ t * w ≤ i := Nat.le_div_iff_mul_le h

/-! ### Rolling, erasing, drawing -/

/-- Rows from one to below another one, n up (n below 0: down), empty ones where there is nothing. -/
def rollC (w fr to : Nat) (n : Int) (l : List Cl) : List Cl := tabC l.length fun i =>
  if i / w < fr ∨ to ≤ i / w then cg l i
  else if (fr : Int) ≤ (i / w : Nat) + n ∧ ((i / w : Nat) : Int) + n < to then cg l ((i : Int) + n * w).toNat else .z

def eraseC (lo hi : Nat) (l : List Cl) : List Cl := tabC l.length fun i => if lo ≤ i ∧ i < hi then .z else cg l i

def rollG (g : Gr) (fr to n : Int) : Gr := { g with cells := rollC g.wide.toNat fr.toNat to.toNat n g.cells }

def newG (w h : Int) : Gr := ⟨max 1 (min w 24), max 1 (min h 10), List.replicate (max 1 (min w 24) * max 1 (min h 10)).toNat .z, 0, 0, 0, false, 0, max 1 (min h 10)⟩

def feedG (g : Gr) : Gr :=
  if g.row = g.bottom - 1 then rollG g g.top g.bottom 1
  else if g.row < g.high - 1 then { g with row := g.row + 1 } else g

def showG (g : Gr) (ch : Int) : Gr :=
  let g := if g.col = g.wide then feedG { g with col := 0 } else g
  { g with cells := g.cells.set (g.row * g.wide + g.col).toNat ⟨ch, g.ink, 0, g.bold⟩, col := g.col + 1 }

def controlG (g : Gr) (c : Int) : Gr :=
  if c = 8 then { g with col := max 0 (min g.col (g.wide - 1) - 1) }
  else if c = 9 then { g with col := min (g.wide - 1) (g.col / 8 * 8 + 8) }
  else if c = 10 then feedG g
  else if c = 13 then { g with col := 0 }
  else g

def numP (l : List Int) (k : Nat) (least : Int) : Int := max least (min (l.getD k 0) 999)

def eraseG (g : Gr) (how a fr to : Int) : Gr :=
  if how = 0 then { g with cells := eraseC a.toNat to.toNat g.cells }
  else if how = 1 then { g with cells := eraseC fr.toNat (a + 1).toNat g.cells }
  else if how = 2 then { g with cells := eraseC fr.toNat to.toNat g.cells }
  else g

def inkG (g : Gr) (x : Int) : Gr :=
  if x = 0 then { g with ink := 0, bold := false }
  else if x = 1 then { g with bold := true }
  else if x = 22 then { g with bold := false }
  else if 30 ≤ x ∧ x < 38 then { g with ink := x - 29 }
  else if x = 39 then { g with ink := 0 }
  else g

def regionG (g : Gr) (top b : Int) : Gr :=
  let bottom := if b = 0 ∨ g.high < b then g.high else b
  if top < bottom then { g with top := top, bottom := bottom, row := 0, col := 0 } else g

def commandG (g : Gr) (c : Int) (l : List Int) : Gr :=
  let n := numP l 0 1
  if c = 65 then { g with row := max 0 (g.row - n) }
  else if c = 66 then { g with row := min (g.high - 1) (g.row + n) }
  else if c = 67 then { g with col := min (g.wide - 1) (g.col + n) }
  else if c = 68 then { g with col := max 0 (min g.col (g.wide - 1) - n) }
  else if c = 72 then { g with row := min g.high n - 1, col := min g.wide (numP l 1 1) - 1 }
  else if c = 74 then eraseG g (numP l 0 0) (g.row * g.wide + min g.col (g.wide - 1)) 0 g.cells.length
  else if c = 75 then eraseG g (numP l 0 0) (g.row * g.wide + min g.col (g.wide - 1)) (g.row * g.wide) ((g.row + 1) * g.wide)
  else if c = 76 ∨ c = 77 then
    if g.row < g.top ∨ g.bottom ≤ g.row then g
    else { rollG g g.row g.bottom (if c = 76 then - min n 10 else min n 10) with col := 0 }
  else if c = 109 then l.foldl inkG g
  else if c = 114 then regionG g (n - 1) (numP l 1 0)
  else g

def picC (w h left : Int) : List UInt8 → Int → Int → List Cl → List Cl
  | [], _, _, l => l
  | b :: bs, r, c, l =>
    if b.toNat = 45 then picC w h left bs (r + 1) left l
    else if 97 ≤ b.toNat ∧ b.toNat < 105 ∧ r < h ∧ c < w then picC w h left bs r (c + 1) (l.set (r * w + c).toNat ⟨0, 0, (b.toNat : Int) - 96, false⟩)
    else picC w h left bs r (c + 1) l

def pictureG (g : Gr) (s : List UInt8) : Gr := { g with cells := picC g.wide g.high (min g.col (g.wide - 1)) s g.row (min g.col (g.wide - 1)) g.cells }

def doG (g : Gr) (e : Ev) : Gr × Int :=
  if goodG g = false then (g, 1)
  else if e.kind = 1 then if e.b < 32 ∨ 126 < e.b then (g, 6) else (showG g e.b, 0)
  else if e.kind = 2 then (controlG g e.b, 0)
  else if e.kind = 3 then (commandG g e.b e.ps, 0)
  else if e.kind = 4 then (pictureG g e.pl.data.toList, 0)
  else if e.kind = 5 then (newG g.wide g.high, 0)
  else (g, 2)

def allG (g : Gr) : List Ev → Gr × Int
  | [] => (g, 0)
  | e :: es => if (doG g e).2 = 0 then allG (doG g e).1 es else doG g e

def atG (g : Gr) (r c : Int) : Cl :=
  if g.wide ≤ 24 ∧ g.high ≤ 10 ∧ 0 ≤ r ∧ r < g.high ∧ 0 ≤ c ∧ c < g.wide then cg g.cells (r * g.wide + c).toNat else .z

def resizeC (w w' h' : Nat) (h : Nat) (l : List Cl) : List Cl := tabC (w' * h') fun i => if i / w' < h ∧ i % w' < w then cg l (i / w' * w + i % w') else .z

def resizeG (g : Gr) (w h : Int) : Gr × Int :=
  if goodG g = false then (g, 1)
  else
    let w' := max 1 (min w 24)
    let h' := max 1 (min h 10)
    (⟨w', h', resizeC g.wide.toNat w'.toNat h'.toNat g.high.toNat g.cells, min g.row (h' - 1), min g.col (w' - 1), g.ink, g.bold, 0, h'⟩, 0)

theorem rollC_len (w fr to : Nat) (n : Int) (l : List Cl) : (rollC w fr to n l).length = l.length := tab_len _ _
theorem eraseC_len (lo hi : Nat) (l : List Cl) : (eraseC lo hi l).length = l.length := tab_len _ _

theorem picC_len (w h left : Int) : ∀ (s : List UInt8) (r c : Int) (l : List Cl), (picC w h left s r c l).length = l.length
  | [], _, _, _ => rfl
  | b :: s, r, c, l => by
    unfold picC
    split
    · exact picC_len w h left s _ _ l
    · split
      · rw [picC_len w h left s, List.length_set]
      · exact picC_len w h left s _ _ l

theorem roll_cg {w fr to : Nat} {n : Int} {l : List Cl} {i : Nat} (hi : i < l.length) : cg (rollC w fr to n l) i =
    if i / w < fr ∨ to ≤ i / w then cg l i
    else if (fr : Int) ≤ (i / w : Nat) + n ∧ ((i / w : Nat) : Int) + n < to then cg l ((i : Int) + n * w).toNat else .z := tab_cg hi

theorem erase_cg {lo hi : Nat} {l : List Cl} {i : Nat} (h : i < l.length) : cg (eraseC lo hi l) i = if lo ≤ i ∧ i < hi then .z else cg l i := tab_cg h

theorem split_row {w i : Nat} (hw : 0 < w) : ∃ q s, s < w ∧ i = q * w + s ∧ i / w = q ∧ i % w = s :=
  ⟨i / w, i % w, Nat.mod_lt i hw, by have := Nat.div_add_mod i w; rw [Nat.mul_comm] at this; omega, rfl, rfl⟩

theorem row_div {w q s : Nat} (h : s < w) : (q * w + s) / w = q := by
  rw [Nat.mul_comm, Nat.mul_add_div (by omega), Nat.div_eq_of_lt h]; rfl

theorem row_mod {w q s : Nat} (h : s < w) : (q * w + s) % w = s := by
  rw [Nat.mul_comm, Nat.mul_add_mod, Nat.mod_eq_of_lt h]

theorem row_src {w q s : Nat} {m : Int} (h : 0 ≤ (q : Int) + m) : (((q * w + s : Nat) : Int) + m * w).toNat = ((q : Int) + m).toNat * w + s := by
  obtain ⟨p, hp⟩ : ∃ p : Nat, (p : Int) = q + m := ⟨((q : Int) + m).toNat, Int.toNat_of_nonneg h⟩
  have hm : m = (p : Int) - q := by omega
  subst hm
  rw [Int.sub_mul, show ((q : Int) + (p - q)).toNat = p by omega]
  have e1 : ((p : Int) * w) = ((p * w : Nat) : Int) := by simp
  have e2 : ((q : Int) * w) = ((q * w : Nat) : Int) := by simp
  rw [e1, e2]
  omega

theorem row_lt {w q s to : Nat} (hs : s < w) (h : q < to) : q * w + s < to * w := by
  have := Nat.mul_le_mul_right w (show q + 1 ≤ to from h)
  rw [Nat.add_mul] at this
  omega

/-- Rolling on, the same way. -/
theorem roll_roll {w fr to : Nat} (hw : 0 < w) {l : List Cl} (hl : to * w ≤ l.length) {m n : Int} (h : (0 ≤ m ∧ 0 ≤ n) ∨ (m ≤ 0 ∧ n ≤ 0)) : rollC w fr to m (rollC w fr to n l) = rollC w fr to (m + n) l := by
  refine cg_ext (by simp only [rollC_len]) fun i hi => ?_
  simp only [rollC_len] at hi
  rw [roll_cg (by rw [rollC_len]; exact hi), roll_cg (n := m + n) hi]
  obtain ⟨q, s, hs, hi2, hq, hm⟩ := split_row (i := i) hw
  rw [hq]
  by_cases h1 : q < fr ∨ to ≤ q
  · rw [if_pos h1, if_pos h1, roll_cg hi, hq, if_pos h1]
  · rw [if_neg h1, if_neg h1]
    by_cases h2 : (fr : Int) ≤ (q : Nat) + m ∧ ((q : Nat) : Int) + m < to
    · rw [if_pos h2, hi2, row_src (by omega)]
      have hin : ((q : Int) + m).toNat * w + s < l.length := Nat.lt_of_lt_of_le (row_lt hs (by omega)) hl
      rw [roll_cg hin, row_div hs, if_neg (by omega)]
      by_cases h3 : (fr : Int) ≤ (q : Nat) + (m + n) ∧ ((q : Nat) : Int) + (m + n) < to
      · rw [if_pos h3, if_pos (by omega), row_src (by omega), row_src (by omega)]
        rw [show ((((q : Int) + m).toNat : Int) + n).toNat = ((q : Int) + (m + n)).toNat by omega]
      · rw [if_neg h3, if_neg (by omega)]
    · rw [if_neg h2, if_neg (by omega)]

theorem roll_zero {w fr to : Nat} {l : List Cl} : rollC w fr to 0 l = l := by
  refine cg_ext (rollC_len _ _ _ _ _) fun i hi => ?_
  rw [rollC_len] at hi
  rw [roll_cg hi]
  split
  · rfl
  · rw [if_pos (by omega)]
    congr 1
    omega

end Go.Proofs.YtkmmphkjmamckabDoor

/-
  A screen, plainly: it stays good, and what each event does to its cells.
-/
namespace Go.Proofs.YtkmmphkjmamckabDoor
open Go
set_option linter.all false

abbrev AllG (l : List Cl) : Prop := ∀ c ∈ l, goodC c = true

theorem AllG.cg {l : List Cl} (h : AllG l) (i : Nat) : goodC (cg l i) = true := by
  rcases Nat.lt_or_ge i l.length with hi | hi
  · exact h _ (cg_mem hi)
  · rw [cg_out hi]; rfl

theorem AllG.tab {n : Nat} {f : Nat → Cl} (h : ∀ i, i < n → goodC (f i) = true) : AllG (tabC n f) := fun c hc => by
  obtain ⟨i, hi, rfl⟩ := mem_cg hc
  rw [tab_len] at hi
  rw [tab_cg hi]
  exact h i hi

theorem AllG.roll {l : List Cl} (h : AllG l) (w fr to : Nat) (n : Int) : AllG (rollC w fr to n l) := AllG.tab fun i _ => by
  split
  · exact h.cg _
  · split
    · exact h.cg _
    · rfl

theorem AllG.erase {l : List Cl} (h : AllG l) (lo hi : Nat) : AllG (eraseC lo hi l) := AllG.tab fun i _ => by
  split
  · rfl
  · exact h.cg _

theorem AllG.set {l : List Cl} (h : AllG l) {c : Cl} (hc : goodC c = true) (i : Nat) : AllG (l.set i c) := fun x hx => by
  rcases List.mem_or_eq_of_mem_set hx with hx | hx
  · exact h x hx
  · rw [hx]; exact hc

theorem AllG.pic {w h left : Int} : ∀ (s : List UInt8) (r c : Int) (l : List Cl), AllG l → AllG (picC w h left s r c l)
  | [], _, _, _, hl => hl
  | b :: s, r, c, l, hl => by
    unfold picC
    split
    · exact AllG.pic s _ _ _ hl
    · split
      · next hb =>
        refine AllG.pic s _ _ _ (hl.set ?_ _)
        have : (97 : Int) ≤ b.toNat := by omega
        have : (b.toNat : Int) < 105 := by omega
        unfold goodC
        simp only [Bool.and_eq_true, decide_eq_true_eq]
        refine ⟨by omega, ?_⟩
        rw [if_neg (by omega)]
        rfl
      · exact AllG.pic s _ _ _ hl

theorem AllG.repl (n : Nat) : AllG (List.replicate n .z) := fun c hc => by
  rw [(List.mem_replicate.1 hc).2]; rfl

/-- A screen with others of its parts. -/
theorem GoodG.with {g : Gr} (h : GoodG g) {l : List Cl} {r c i t b : Int} {bo : Bool} (hl : l.length = g.cells.length) (hg : AllG l) (hr : 0 ≤ r ∧ r < g.high) (hc : 0 ≤ c ∧ c ≤ g.wide) (hi : 0 ≤ i ∧ i ≤ 8) (ht : 0 ≤ t ∧ t < b ∧ b ≤ g.high) : GoodG ⟨g.wide, g.high, l, r, c, i, bo, t, b⟩ :=
  ⟨h.w1, h.w2, h.h1, h.h2, by show (l.length : Int) = _; rw [hl]; exact h.len, hr.1, hr.2, hc.1, hc.2, hi.1, hi.2, ht.1, ht.2.1, ht.2.2, hg⟩

structure Sides (g x : Gr) : Prop where
  wide : x.wide = g.wide
  high : x.high = g.high

theorem GoodG.cellsWith {g : Gr} (h : GoodG g) {l : List Cl} (hl : l.length = g.cells.length) (hg : AllG l) : GoodG { g with cells := l } :=
  h.with hl hg ⟨h.r1, h.r2⟩ ⟨h.c1, h.c2⟩ ⟨h.i1, h.i2⟩ ⟨h.t1, h.t2, h.b2⟩

theorem GoodG.roll {g : Gr} (h : GoodG g) (a b n : Int) : GoodG (rollG g a b n) := h.cellsWith (rollC_len _ _ _ _ _) (AllG.roll h.all _ _ _ _)

theorem feed_ok' {g : Gr} (h : GoodG g) : GoodG (feedG g) ∧ (feedG g).wide = g.wide ∧ (feedG g).high = g.high ∧ (feedG g).col = g.col ∧ (feedG g).ink = g.ink ∧ (feedG g).bold = g.bold ∧ (feedG g).top = g.top ∧ (feedG g).bottom = g.bottom := by
  unfold feedG
  have := h.r1
  have := h.r2
  split
  · exact ⟨h.roll _ _ _, rfl, rfl, rfl, rfl, rfl, rfl, rfl⟩
  · split
    · exact ⟨h.with rfl h.all (by omega) ⟨h.c1, h.c2⟩ ⟨h.i1, h.i2⟩ ⟨h.t1, h.t2, h.b2⟩, rfl, rfl, rfl, rfl, rfl, rfl, rfl⟩
    · exact ⟨h, rfl, rfl, rfl, rfl, rfl, rfl, rfl⟩

theorem GoodG.col {g : Gr} (h : GoodG g) {c : Int} (hc : 0 ≤ c ∧ c ≤ g.wide) : GoodG { g with col := c } :=
  h.with rfl h.all ⟨h.r1, h.r2⟩ hc ⟨h.i1, h.i2⟩ ⟨h.t1, h.t2, h.b2⟩

theorem show_ok' {g : Gr} (h : GoodG g) {ch : Int} (h0 : 32 ≤ ch) (h1 : ch ≤ 126) : GoodG (showG g ch) ∧ Sides g (showG g ch) := by
  have key : ∀ x : Gr, GoodG x → x.col < x.wide → GoodG { x with cells := x.cells.set (x.row * x.wide + x.col).toNat ⟨ch, x.ink, 0, x.bold⟩, col := x.col + 1 } := fun x hx hc => by
    refine hx.with (List.length_set ..) (AllG.set hx.all ?_ _) ⟨hx.r1, hx.r2⟩ ⟨by have := hx.c1; omega, by omega⟩ ⟨hx.i1, hx.i2⟩ ⟨hx.t1, hx.t2, hx.b2⟩
    unfold goodC
    have := hx.i1
    have := hx.i2
    simp only [Bool.and_eq_true, decide_eq_true_eq, if_true]
    exact ⟨by omega, .inr (by omega)⟩
  unfold showG
  have := h.w1
  split
  · next hc =>
    have f := feed_ok' (h.col (c := 0) (by omega))
    simp only at f
    refine ⟨key _ f.1 (by rw [f.2.2.2.1, f.2.1]; show (0 : Int) < g.wide; omega), f.2.1, f.2.2.1⟩
  · next hc => exact ⟨key g h (by have := h.c2; omega), rfl, rfl⟩

theorem control_ok' {g : Gr} (h : GoodG g) (c : Int) : GoodG (controlG g c) ∧ Sides g (controlG g c) := by
  have := h.w1
  have := h.c1
  have := h.c2
  unfold controlG
  split
  · exact ⟨h.col (by omega), rfl, rfl⟩
  · split
    · exact ⟨h.col (by omega), rfl, rfl⟩
    · split
      · exact ⟨(feed_ok' h).1, (feed_ok' h).2.1, (feed_ok' h).2.2.1⟩
      · split
        · exact ⟨h.col (by omega), rfl, rfl⟩
        · exact ⟨h, rfl, rfl⟩

theorem ink_ok' {g : Gr} (h : GoodG g) (x : Int) : GoodG (inkG g x) ∧ Sides g (inkG g x) := by
  have key : ∀ i b, 0 ≤ i ∧ i ≤ 8 → GoodG { g with ink := i, bold := b } := fun i b hi => h.with rfl h.all ⟨h.r1, h.r2⟩ ⟨h.c1, h.c2⟩ hi ⟨h.t1, h.t2, h.b2⟩
  have := h.i1
  have := h.i2
  unfold inkG
  repeat' split
  all_goals first
    | exact ⟨h, rfl, rfl⟩
    | exact ⟨key _ _ (by omega), rfl, rfl⟩

theorem inks_ok' : ∀ (l : List Int) {g : Gr}, GoodG g → GoodG (l.foldl inkG g) ∧ Sides g (l.foldl inkG g)
  | [], g, h => ⟨h, rfl, rfl⟩
  | x :: l, g, h => by
    have h1 := ink_ok' h x
    have h2 := inks_ok' l h1.1
    exact ⟨h2.1, h2.2.wide.trans h1.2.wide, h2.2.high.trans h1.2.high⟩

theorem erase_ok' {g : Gr} (h : GoodG g) (how a b c : Int) : GoodG (eraseG g how a b c) ∧ Sides g (eraseG g how a b c) := by
  unfold eraseG
  repeat' split
  all_goals first
    | exact ⟨h, rfl, rfl⟩
    | exact ⟨h.cellsWith (eraseC_len _ _ _) (AllG.erase h.all _ _), rfl, rfl⟩

theorem command_ok' {g : Gr} (h : GoodG g) (c : Int) (l : List Int) : GoodG (commandG g c l) ∧ Sides g (commandG g c l) := by
  have hw1 := h.w1
  have hh1 := h.h1
  have hr1 := h.r1
  have hr2 := h.r2
  have hc1 := h.c1
  have hc2 := h.c2
  have hrow : ∀ r : Int, 0 ≤ r ∧ r < g.high → GoodG { g with row := r } := fun r hr => h.with rfl h.all hr ⟨h.c1, h.c2⟩ ⟨h.i1, h.i2⟩ ⟨h.t1, h.t2, h.b2⟩
  have hn : ∀ k, 1 ≤ numP l k 1 := fun k => by unfold numP; omega
  have hn0 := hn 0
  have hn1 := hn 1
  have h01 : 0 ≤ numP l 1 0 := by unfold numP; omega
  unfold commandG
  generalize numP l 0 1 = n at hn0 ⊢
  generalize numP l 1 1 = m at hn1 ⊢
  generalize numP l 1 0 = b at h01 ⊢
  generalize numP l 0 0 = a
  clear hn
  have s : ∀ {x : Gr}, GoodG x → x.wide = g.wide → x.high = g.high → GoodG x ∧ Sides g x := fun h a b => ⟨h, a, b⟩
  dsimp only
  by_cases e1 : c = 65
  · rw [if_pos e1]; exact s (hrow _ (by omega)) rfl rfl
  rw [if_neg e1]
  by_cases e1 : c = 66
  · rw [if_pos e1]; exact s (hrow _ (by omega)) rfl rfl
  rw [if_neg e1]
  by_cases e1 : c = 67
  · rw [if_pos e1]; exact s (h.col (by omega)) rfl rfl
  rw [if_neg e1]
  by_cases e1 : c = 68
  · rw [if_pos e1]; exact s (h.col (by omega)) rfl rfl
  rw [if_neg e1]
  by_cases e1 : c = 72
  · rw [if_pos e1]; exact s (h.with rfl h.all (by omega) (by omega) ⟨h.i1, h.i2⟩ ⟨h.t1, h.t2, h.b2⟩) rfl rfl
  rw [if_neg e1]
  by_cases e1 : c = 74
  · rw [if_pos e1]; exact erase_ok' h _ _ _ _
  rw [if_neg e1]
  by_cases e1 : c = 75
  · rw [if_pos e1]; exact erase_ok' h _ _ _ _
  rw [if_neg e1]
  by_cases e1 : c = 76 ∨ c = 77
  · rw [if_pos e1]
    by_cases e2 : g.row < g.top ∨ g.bottom ≤ g.row
    · rw [if_pos e2]; exact s h rfl rfl
    · rw [if_neg e2]
      exact s ((h.roll _ _ _).col (c := 0) (by show (0:Int) ≤ 0 ∧ (0 : Int) ≤ g.wide; omega)) rfl rfl
  rw [if_neg e1]
  by_cases e1 : c = 109
  · rw [if_pos e1]; exact inks_ok' l h
  rw [if_neg e1]
  by_cases e1 : c = 114
  · rw [if_pos e1]
    unfold regionG
    dsimp only
    have hb : 0 < (if b = 0 ∨ g.high < b then g.high else b) ∧ (if b = 0 ∨ g.high < b then g.high else b) ≤ g.high := by split <;> omega
    generalize (if b = 0 ∨ g.high < b then g.high else b) = b' at hb ⊢
    by_cases e2 : n - 1 < b'
    · rw [if_pos e2]
      exact s (h.with rfl h.all (by omega) (by omega) ⟨h.i1, h.i2⟩ (by omega)) rfl rfl
    · rw [if_neg e2]; exact s h rfl rfl
  rw [if_neg e1]
  exact s h rfl rfl

theorem picture_ok' {g : Gr} (h : GoodG g) (s : List UInt8) : GoodG (pictureG g s) ∧ Sides g (pictureG g s) :=
  ⟨h.cellsWith (picC_len _ _ _ _ _ _ _) (AllG.pic s _ _ _ h.all), rfl, rfl⟩

theorem new_ok' (w h : Int) : GoodG (newG w h) := by
  refine ⟨by show (1 : Int) ≤ max 1 (min w 24); omega, by show max 1 (min w 24) ≤ (24 : Int); omega, by show (1 : Int) ≤ max 1 (min h 10); omega, by show max 1 (min h 10) ≤ (10 : Int); omega, ?_, Int.le_refl _, by show (0 : Int) < max 1 (min h 10); omega, Int.le_refl _, by show (0 : Int) ≤ max 1 (min w 24); omega, Int.le_refl _, by show (0 : Int) ≤ 8; decide, Int.le_refl _, by show (0 : Int) < max 1 (min h 10); omega, Int.le_refl _, AllG.repl _⟩
  show ((List.replicate _ _).length : Int) = _
  rw [List.length_replicate]
  exact Int.toNat_of_nonneg (Int.mul_nonneg (by omega) (by omega))

theorem new_sides {g : Gr} (h : GoodG g) : Sides g (newG g.wide g.high) := by
  have := h.w1
  have := h.w2
  have := h.h1
  have := h.h2
  exact ⟨by show max 1 (min g.wide 24) = g.wide; omega, by show max 1 (min g.high 10) = g.high; omega⟩

theorem do_ok' {g : Gr} (h : GoodG g) (e : Ev) : GoodG (doG g e).1 ∧ Sides g (doG g e).1 := by
  unfold doG
  split
  · exact ⟨h, rfl, rfl⟩
  split
  · split
    · exact ⟨h, rfl, rfl⟩
    · exact show_ok' h (by omega) (by omega)
  split
  · exact control_ok' h _
  split
  · exact command_ok' h _ _
  split
  · exact picture_ok' h _
  split
  · exact ⟨new_ok' _ _, new_sides h⟩
  · exact ⟨h, rfl, rfl⟩

theorem do_err {g : Gr} {e : Ev} (h : (doG g e).2 ≠ 0) : (doG g e).1 = g := by
  unfold doG at h ⊢
  repeat' (split at h)
  all_goals first
    | (exfalso; exact h rfl)
    | (simp only [*, if_true, if_false, Bool.false_eq_true, Bool.true_eq_false])

theorem do_good_eq' {g : Gr} (h : GoodG g) (e : Ev) : doG g e = if e.kind = 1 then if e.b < 32 ∨ 126 < e.b then (g, 6) else (showG g e.b, 0)
  else if e.kind = 2 then (controlG g e.b, 0)
  else if e.kind = 3 then (commandG g e.b e.ps, 0)
  else if e.kind = 4 then (pictureG g e.pl.data.toList, 0)
  else if e.kind = 5 then (newG g.wide g.high, 0)
  else (g, 2) := by
  unfold doG
  rw [if_neg (by rw [goodG_iff.2 h]; simp)]

theorem do_zero {g : Gr} {e : Ev} (h : (doG g e).2 = 0) : GoodG g := by
  rw [← goodG_iff]
  cases hg : goodG g with
  | true => rfl
  | false =>
    unfold doG at h
    rw [if_pos hg] at h
    cases h

end Go.Proofs.YtkmmphkjmamckabDoor

/-
  A screen, plainly: what the statements say of single events.
-/
namespace Go.Proofs.YtkmmphkjmamckabDoor
open Go
set_option linter.all false

theorem cells_len' {g : Gr} (h : GoodG g) : g.cells.length = g.high.toNat * g.wide.toNat := by
  have hl := h.len
  have := h.w1
  have := h.h1
  obtain ⟨w, hw⟩ : ∃ w : Nat, g.wide = w := ⟨g.wide.toNat, by omega⟩
  obtain ⟨k, hk⟩ : ∃ k : Nat, g.high = k := ⟨g.high.toNat, by omega⟩
  rw [hw, hk] at hl ⊢
  simp only [Int.toNat_natCast]
  rw [Nat.mul_comm]
  exact_mod_cast hl

theorem nat_place {w : Int} (hw : 0 ≤ w) (r c : Nat) : ((r : Int) * w + c).toNat = r * w.toNat + c := by
  obtain ⟨k, hk⟩ : ∃ k : Nat, w = k := ⟨w.toNat, by omega⟩
  rw [hk]
  simp only [Int.toNat_natCast]
  have e : (r : Int) * k + c = ((r * k + c : Nat) : Int) := by simp
  rw [e, Int.toNat_natCast]

theorem at_eq {g : Gr} (h : GoodG g) {r c : Nat} (hr : (r : Int) < g.high) (hc : (c : Int) < g.wide) : atG g r c = cg g.cells (r * g.wide.toNat + c) := by
  have := h.w1
  unfold atG
  rw [if_pos ⟨h.w2, h.h2, by omega, hr, by omega, hc⟩, nat_place (by omega)]

theorem resize_law {g : Gr} (hg : GoodG g) (w h : Int) : (resizeG g w h).2 = 0 ∧ GoodG (resizeG g w h).1 ∧ (resizeG g w h).1.wide = max 1 (min w 24) ∧ (resizeG g w h).1.high = max 1 (min h 10) ∧
    ∀ r c : Nat, (r : Int) < (resizeG g w h).1.high → (c : Int) < (resizeG g w h).1.wide → atG (resizeG g w h).1 r c = atG g r c := by
  have hr1 := hg.r1
  have hc1 := hg.c1
  have hw1 := hg.w1
  have he : resizeG g w h = (⟨max 1 (min w 24), max 1 (min h 10), resizeC g.wide.toNat (max 1 (min w 24)).toNat (max 1 (min h 10)).toNat g.high.toNat g.cells, min g.row (max 1 (min h 10) - 1), min g.col (max 1 (min w 24) - 1), g.ink, g.bold, 0, max 1 (min h 10)⟩, 0) := by
    unfold resizeG
    rw [if_neg (by rw [goodG_iff.2 hg]; simp)]
  have hgood : GoodG (resizeG g w h).1 := by
    rw [he]
    refine ⟨?_, ?_, ?_, ?_, ?_, ?_, ?_, ?_, ?_, hg.i1, hg.i2, Int.le_refl _, ?_, Int.le_refl _, ?_⟩
    · show (1 : Int) ≤ max 1 (min w 24); omega
    · show max 1 (min w 24) ≤ (24 : Int); omega
    · show (1 : Int) ≤ max 1 (min h 10); omega
    · show max 1 (min h 10) ≤ (10 : Int); omega
    · show ((resizeC _ _ _ _ _).length : Int) = max 1 (min w 24) * max 1 (min h 10)
      unfold resizeC
      rw [tab_len]
      have e1 : ((max 1 (min w 24)).toNat : Int) = max 1 (min w 24) := Int.toNat_of_nonneg (by omega)
      have e2 : ((max 1 (min h 10)).toNat : Int) = max 1 (min h 10) := Int.toNat_of_nonneg (by omega)
      push_cast
      rw [e1, e2]
    · show 0 ≤ min g.row (max 1 (min h 10) - 1); omega
    · show min g.row (max 1 (min h 10) - 1) < max 1 (min h 10); omega
    · show 0 ≤ min g.col (max 1 (min w 24) - 1); omega
    · show min g.col (max 1 (min w 24) - 1) ≤ max 1 (min w 24); omega
    · show (0 : Int) < max 1 (min h 10); omega
    · refine AllG.tab fun i _ => ?_
      split
      · exact AllG.cg hg.all _
      · rfl
  refine ⟨by rw [he], hgood, by rw [he], by rw [he], fun r c hr hc => ?_⟩
  rw [at_eq hgood hr hc]
  rw [he] at hr hc ⊢
  simp only at hr hc ⊢
  have hcw : c < (max 1 (min w 24)).toNat := by omega
  unfold resizeC
  rw [tab_cg (by rw [Nat.mul_comm (max 1 (min w 24)).toNat]; exact row_lt hcw (by omega)), row_div hcw, row_mod hcw]
  split
  · next hin => rw [at_eq hg (by omega) (by omega)]
  · next hin =>
    unfold atG
    rw [if_neg (by omega)]

end Go.Proofs.YtkmmphkjmamckabDoor

/-
  Panes laid out, plainly: a law without the program.
-/
namespace Go.Proofs.YtkmmphkjmamckabDoor
set_option linter.all false

/-- Columns of panes. -/
abbrev Cols := List (List Int)

def isPane (p : Int) : Bool := decide (0 ≤ p ∧ p < 6)

structure GoodT (t : Cols) : Prop where
  each : ∀ c ∈ t, 1 ≤ c.length ∧ c.length ≤ 3
  pane : ∀ p ∈ t.flatten, isPane p = true
  nodup : t.flatten.Nodup
  some : t ≠ []

/-- No pane twice, so far as one may look. -/
def apart : List Int → Bool
  | [] => true
  | p :: l => !(l.contains p) && apart l

def goodT (t : Cols) : Bool := t.all (fun c => decide (1 ≤ c.length ∧ c.length ≤ 3)) && t.flatten.all isPane && apart t.flatten && !t.isEmpty

theorem apart_iff : ∀ {l : List Int}, apart l = true ↔ l.Nodup
  | [] => by simp [apart]
  | p :: l => by simp [apart, apart_iff (l := l), List.nodup_cons]

theorem goodT_iff {t : Cols} : goodT t = true ↔ GoodT t := by
  unfold goodT
  simp only [Bool.and_eq_true, List.all_eq_true, decide_eq_true_eq, apart_iff, Bool.not_eq_true', List.isEmpty_eq_false_iff]
  exact ⟨fun ⟨⟨⟨a, b⟩, c⟩, d⟩ => ⟨a, b, c, d⟩, fun ⟨a, b, c, d⟩ => ⟨⟨⟨a, b⟩, c⟩, d⟩⟩

theorem nodup_le : ∀ {l m : List Int}, l.Nodup → (∀ x ∈ l, x ∈ m) → l.length ≤ m.length
  | [], m, _, _ => by simp
  | a :: l, m, hn, hs => by
    rw [List.nodup_cons] at hn
    have ha := hs a List.mem_cons_self
    have := nodup_le (l := l) (m := m.erase a) hn.2 fun x hx => (List.mem_erase_of_ne fun e : x = a => hn.1 (e ▸ hx)).2 (hs x (List.mem_cons_of_mem _ hx))
    rw [List.length_erase_of_mem ha] at this
    have := List.length_pos_of_mem ha
    simp only [List.length_cons]
    omega

theorem pane_few {l : List Int} (h : ∀ p ∈ l, isPane p = true) (hn : l.Nodup) : l.length ≤ 6 := by
  refine nodup_le (m := [0, 1, 2, 3, 4, 5]) hn fun p hp => ?_
  · have := h p hp
    simp only [isPane, decide_eq_true_eq] at this
    simp only [List.mem_cons, List.not_mem_nil, or_false]
    omega

theorem cols_len : ∀ {t : Cols}, (∀ c ∈ t, 1 ≤ c.length) → t.length ≤ t.flatten.length
  | [], _ => by simp
  | c :: t, h => by
    have := cols_len (t := t) fun d hd => h d (List.mem_cons_of_mem _ hd)
    have := h c List.mem_cons_self
    simp only [List.length_cons, List.flatten_cons, List.length_append]
    omega

theorem GoodT.few {t : Cols} (h : GoodT t) : t.length ≤ 6 := Nat.le_trans (cols_len fun c hc => (h.each c hc).1) (pane_few h.pane h.nodup)

/-- Where a pane is: its column, its place there. -/
def findT : Cols → Int → Option (Nat × Nat)
  | [], _ => none
  | c :: t, p => if c.contains p then some (0, c.idxOf p) else (findT t p).map fun x => (x.1 + 1, x.2)

def hasT (t : Cols) (p : Int) : Bool := t.flatten.contains p

theorem find_none : ∀ {t : Cols} {p : Int}, findT t p = none ↔ hasT t p = false
  | [], p => by simp [findT, hasT]
  | c :: t, p => by
    have ih := find_none (t := t) (p := p)
    unfold findT
    split
    · next h => simp [hasT, List.contains_iff_mem] at h ⊢; exact fun hn => (hn h).elim
    · next h =>
      rw [Option.map_eq_none_iff, ih]
      simp [hasT, List.contains_iff_mem] at h ⊢
      exact fun _ => h

theorem find_some : ∀ {t : Cols} {p : Int} {i k : Nat}, findT t p = some (i, k) → i < t.length ∧ k < (t.getD i []).length ∧ (t.getD i []).getD k 0 = p
  | [], p, i, k, h => by simp [findT] at h
  | c :: t, p, i, k, h => by
    unfold findT at h
    split at h
    · next hc =>
      simp only [Option.some.injEq, Prod.mk.injEq] at h
      obtain ⟨rfl, rfl⟩ := h
      have hm : p ∈ c := by simpa [List.contains_iff_mem] using hc
      have hlt := List.idxOf_lt_length_of_mem hm
      refine ⟨by simp, by simpa using hlt, ?_⟩
      simp [List.getD_eq_getElem?_getD, List.getElem?_eq_getElem hlt]
    · next hc =>
      cases hf : findT t p with
      | none => rw [hf] at h; simp at h
      | some x =>
        rw [hf] at h
        simp only [Option.map_some, Option.some.injEq, Prod.mk.injEq] at h
        obtain ⟨rfl, rfl⟩ := h
        have := find_some (t := t) (p := p) (i := x.1) (k := x.2) (by rw [hf])
        simpa using this

theorem has_find {t : Cols} {p : Int} : hasT t p = true ↔ ∃ i k, findT t p = some (i, k) := by
  cases h : findT t p with
  | none => simp [find_none.1 h]
  | some x =>
    simp only [Option.some.injEq]
    refine ⟨fun _ => ⟨x.1, x.2, rfl⟩, fun _ => ?_⟩
    cases hh : hasT t p with
    | true => rfl
    | false => rw [find_none.2 hh] at h; cases h

/-! ### Sharing a length -/

def shareT (length n k : Int) : Int × Int :=
  if n < 1 ∨ 6 < n ∨ k < 0 ∨ n ≤ k ∨ length < 0 ∨ 24 < length then (0, 0)
  else if length - (n - 1) < n then (0, 0)
  else (k * ((length - (n - 1)) / n + 1) + min k ((length - (n - 1)) % n), (length - (n - 1)) / n + if k < (length - (n - 1)) % n then 1 else 0)

structure Rc where
  row : Int
  col : Int
  high : Int
  wide : Int

abbrev Rc.zero : Rc := ⟨0, 0, 0, 0⟩

theorem Rc.ext_iff' {a b : Rc} : a = b ↔ a.row = b.row ∧ a.col = b.col ∧ a.high = b.high ∧ a.wide = b.wide := by
  cases a; cases b; simp only [Rc.mk.injEq]

instance : DecidableEq Rc := fun _ _ => decidable_of_iff _ Rc.ext_iff'.symm

def whereT (t : Cols) (wide high p : Int) : Rc :=
  match findT t p with
  | none => .zero
  | some (i, k) =>
    if goodT t = false then .zero
    else
      let x := shareT wide t.length i
      let y := shareT high (t.getD i []).length k
      if x.2 = 0 ∨ y.2 = 0 then .zero else ⟨y.1, x.1, y.2, x.2⟩

/-- The shares, if there is room. -/
theorem share_room {length n k : Int} (h : (shareT length n k).2 ≠ 0) : 1 ≤ n ∧ n ≤ 6 ∧ 0 ≤ k ∧ k < n ∧ 2 * n - 1 ≤ length ∧ length ≤ 24 := by
  unfold shareT at h
  split at h
  · exact (h rfl).elim
  · split at h
    · exact (h rfl).elim
    · omega

theorem share_no {length n k : Int} (h : ¬ (1 ≤ n ∧ n ≤ 6 ∧ 0 ≤ k ∧ k < n ∧ 2 * n - 1 ≤ length ∧ length ≤ 24)) : shareT length n k = (0, 0) := by
  unfold shareT
  split
  · rfl
  · rw [if_pos (by omega)]

/-- A share's parts by each and more. -/
theorem share_eq {length n k : Int} (h : 1 ≤ n ∧ n ≤ 6 ∧ 0 ≤ k ∧ k < n ∧ 2 * n - 1 ≤ length ∧ length ≤ 24) :
    ∃ each more : Int, 1 ≤ each ∧ 0 ≤ more ∧ more < n ∧ length - (n - 1) = n * each + more ∧ each = (length - (n - 1)) / n ∧ more = (length - (n - 1)) % n ∧ shareT length n k = (k * (each + 1) + min k more, each + if k < more then 1 else 0) := by
  refine ⟨(length - (n - 1)) / n, (length - (n - 1)) % n, ?_, Int.emod_nonneg _ (by omega), Int.emod_lt_of_pos _ (by omega), (Int.mul_ediv_add_emod _ _).symm, rfl, rfl, ?_⟩
  · exact Int.le_ediv_of_mul_le (by omega) (by omega)
  · unfold shareT
    rw [if_neg (by omega), if_neg (by omega)]

theorem share_pos {length n k : Int} (h : 1 ≤ n ∧ n ≤ 6 ∧ 0 ≤ k ∧ k < n ∧ 2 * n - 1 ≤ length ∧ length ≤ 24) : 1 ≤ (shareT length n k).2 ∧ 0 ≤ (shareT length n k).1 := by
  obtain ⟨e, m, he, hm, hmn, hl, _, _, hs⟩ := share_eq h
  rw [hs]
  simp only
  have := Int.mul_nonneg h.2.2.1 (show 0 ≤ e + 1 by omega)
  constructor
  · split <;> omega
  · omega

theorem share_zero {length n k : Int} : (shareT length n k).2 = 0 → shareT length n k = (0, 0) := fun h => share_no fun hr => by
  have := (share_pos hr).1
  omega

theorem share_nonneg (length n k : Int) : 0 ≤ (shareT length n k).1 ∧ 0 ≤ (shareT length n k).2 := by
  by_cases h : 1 ≤ n ∧ n ≤ 6 ∧ 0 ≤ k ∧ k < n ∧ 2 * n - 1 ≤ length ∧ length ≤ 24
  · have := share_pos h
    omega
  · rw [share_no h]; exact ⟨Int.le_refl _, Int.le_refl _⟩

/-- One share stands behind the other, with a cell between. -/
theorem share_next {length n k : Int} (h : 1 ≤ n ∧ n ≤ 6 ∧ 0 ≤ k ∧ k + 1 < n ∧ 2 * n - 1 ≤ length ∧ length ≤ 24) : (shareT length n (k + 1)).1 = (shareT length n k).1 + (shareT length n k).2 + 1 := by
  obtain ⟨e, m, he, hm, hmn, hl, h1, h2, hs⟩ := share_eq (length := length) (n := n) (k := k) (by omega)
  obtain ⟨e', m', _, _, _, _, h1', h2', hs'⟩ := share_eq (length := length) (n := n) (k := k + 1) (by omega)
  rw [← h1] at h1'
  rw [← h2] at h2'
  subst h1' h2'
  rw [hs, hs']
  simp only
  rw [Int.add_mul]
  split <;> omega

/-- The last share ends where the length does. -/
theorem share_last {length n : Int} (h : 1 ≤ n ∧ n ≤ 6 ∧ 2 * n - 1 ≤ length ∧ length ≤ 24) : (shareT length n (n - 1)).1 + (shareT length n (n - 1)).2 = length := by
  obtain ⟨e, m, he, hm, hmn, hl, _, _, hs⟩ := share_eq (length := length) (n := n) (k := n - 1) (by omega)
  rw [hs]
  simp only
  rw [if_neg (by omega), Int.sub_mul, Int.mul_add]
  omega

/-- Behind a share, all shares that come. -/
theorem share_after {length n k : Int} (hr : 1 ≤ n ∧ n ≤ 6 ∧ 2 * n - 1 ≤ length ∧ length ≤ 24) (h0 : 0 ≤ k) : ∀ d : Nat, k + 1 + d < n → (shareT length n k).1 + (shareT length n k).2 + 1 ≤ (shareT length n (k + 1 + d)).1
  | 0, h => by
    have := share_next (length := length) (n := n) (k := k) (by omega)
    simp only [Int.natCast_zero, Int.add_zero] at *
    omega
  | d + 1, h => by
    have ih := share_after hr h0 d (by omega)
    have h1 := share_next (length := length) (n := n) (k := k + 1 + d) (by omega)
    have h2 := (share_pos (length := length) (n := n) (k := k + 1 + d) (by omega)).1
    have e : k + 1 + ((d + 1 : Nat) : Int) = k + 1 + d + 1 := by omega
    rw [e, h1]
    omega

theorem share_lt {length n k j : Int} (hr : 1 ≤ n ∧ n ≤ 6 ∧ 2 * n - 1 ≤ length ∧ length ≤ 24) (h0 : 0 ≤ k) (h : k < j) (hj : j < n) : (shareT length n k).1 + (shareT length n k).2 + 1 ≤ (shareT length n j).1 := by
  have := share_after hr h0 (j - k - 1).toNat (by omega)
  rwa [show k + 1 + ((j - k - 1).toNat : Int) = j by omega] at this

theorem share_in (length n k : Int) : (shareT length n k).1 + (shareT length n k).2 ≤ max 0 length := by
  by_cases h : 1 ≤ n ∧ n ≤ 6 ∧ 0 ≤ k ∧ k < n ∧ 2 * n - 1 ≤ length ∧ length ≤ 24
  · have hl := share_last (length := length) (n := n) (by omega)
    by_cases hk : k = n - 1
    · subst hk; omega
    · have := share_lt (length := length) (n := n) (k := k) (j := n - 1) (by omega) (by omega) (by omega) (by omega)
      have := share_pos (length := length) (n := n) (k := n - 1) (by omega)
      omega
  · rw [share_no h]
    show (0 : Int) + 0 ≤ _
    omega

end Go.Proofs.YtkmmphkjmamckabDoor

/-
  Panes laid out, plainly: places apart, panes put in and taken out.
-/
namespace Go.Proofs.YtkmmphkjmamckabDoor
set_option linter.all false

theorem where_shape (t : Cols) (wide high p : Int) : whereT t wide high p = .zero ∨ ∃ i k, findT t p = some (i, k) ∧ GoodT t ∧ (shareT wide t.length i).2 ≠ 0 ∧ (shareT high (t.getD i []).length k).2 ≠ 0 ∧
    whereT t wide high p = ⟨(shareT high (t.getD i []).length k).1, (shareT wide t.length i).1, (shareT high (t.getD i []).length k).2, (shareT wide t.length i).2⟩ := by
  unfold whereT
  cases hf : findT t p with
  | none => exact .inl rfl
  | some x =>
    obtain ⟨i, k⟩ := x
    simp only
    by_cases hg : goodT t = false
    · rw [if_pos hg]; exact .inl rfl
    · rw [if_neg hg]
      by_cases hz : (shareT wide t.length i).2 = 0 ∨ (shareT high (t.getD i []).length k).2 = 0
      · rw [if_pos hz]; exact .inl rfl
      · rw [if_neg hz]
        exact .inr ⟨i, k, rfl, goodT_iff.1 (by simpa using hg), fun h => hz (.inl h), fun h => hz (.inr h), rfl⟩

def inR (r : Rc) (row col : Int) : Prop := r.row ≤ row ∧ row < r.row + r.high ∧ r.col ≤ col ∧ col < r.col + r.wide

theorem where_in (t : Cols) (wide high p : Int) : 0 ≤ (whereT t wide high p).row ∧ 0 ≤ (whereT t wide high p).col ∧ (whereT t wide high p).row + (whereT t wide high p).high ≤ max 0 high ∧ (whereT t wide high p).col + (whereT t wide high p).wide ≤ max 0 wide ∧
    0 ≤ (whereT t wide high p).high ∧ 0 ≤ (whereT t wide high p).wide ∧ (0 < (whereT t wide high p).high ↔ 0 < (whereT t wide high p).wide) ∧ (0 < (whereT t wide high p).wide → hasT t p = true) := by
  rcases where_shape t wide high p with h | ⟨i, k, hf, hg, hw, hh, h⟩
  · rw [h]; exact ⟨Int.le_refl _, Int.le_refl _, by show (0 : Int) + 0 ≤ _; omega, by show (0 : Int) + 0 ≤ _; omega, Int.le_refl _, Int.le_refl _, Iff.rfl, fun h => by simp at h⟩
  · rw [h]
    simp only
    have a := share_nonneg wide t.length i
    have b := share_nonneg high (t.getD i []).length k
    have c := share_in wide t.length i
    have d := share_in high (t.getD i []).length k
    refine ⟨b.1, a.1, d, c, b.2, a.2, by omega, fun _ => has_find.2 ⟨i, k, hf⟩⟩

/-- No place is that of two panes. -/
theorem where_apart {t : Cols} {wide high p q row col : Int} (hp : inR (whereT t wide high p) row col) (hq : inR (whereT t wide high q) row col) : p = q := by
  rcases where_shape t wide high p with h | ⟨i, k, hf, hg, hw, hh, h⟩
  · rw [h] at hp; simp only [inR, Rc.zero] at hp; omega
  rcases where_shape t wide high q with h' | ⟨j, l, hf', hg', hw', hh', h'⟩
  · rw [h'] at hq; simp only [inR, Rc.zero] at hq; omega
  rw [h] at hp
  rw [h'] at hq
  simp only [inR] at hp hq
  have r1 := share_room hw
  have r2 := share_room hw'
  have hij : i = j := by
    rcases Nat.lt_trichotomy i j with hlt | rfl | hlt
    · have := share_lt (length := wide) (n := t.length) (k := i) (j := j) (by omega) (by omega) (by omega) (by omega)
      omega
    · rfl
    · have := share_lt (length := wide) (n := t.length) (k := j) (j := i) (by omega) (by omega) (by omega) (by omega)
      omega
  subst hij
  have s1 := share_room hh
  have s2 := share_room hh'
  have hkl : k = l := by
    rcases Nat.lt_trichotomy k l with hlt | rfl | hlt
    · have := share_lt (length := high) (n := (t.getD i []).length) (k := k) (j := l) (by omega) (by omega) (by omega) (by omega)
      omega
    · rfl
    · have := share_lt (length := high) (n := (t.getD i []).length) (k := l) (j := k) (by omega) (by omega) (by omega) (by omega)
      omega
  subst hkl
  rw [← (find_some hf).2.2, ← (find_some hf').2.2]

/-! ### Putting in, taking out -/

def insL {α : Type} (l : List α) (i : Nat) (x : α) : List α := l.take i ++ x :: l.drop i

def splitT (t : Cols) (p n : Int) (right : Bool) : Cols × Int :=
  if goodT t = false ∨ isPane n = false then (t, 1)
  else match findT t p with
    | none => (t, 3)
    | some (i, k) =>
      if hasT t n = true then (t, 4)
      else if right = false ∧ 3 ≤ (t.getD i []).length then (t, 5)
      else if right = true then (insL t (i + 1) [n], 0)
      else (t.set i (insL (t.getD i []) (k + 1) n), 0)

def killT (t : Cols) (p : Int) : Cols × Int :=
  if goodT t = false then (t, 1)
  else match findT t p with
    | none => (t, 3)
    | some (i, k) =>
      if t.length = 1 ∧ (t.getD 0 []).length = 1 then (t, 5)
      else if (t.getD i []).length = 1 then (t.eraseIdx i, 0)
      else (t.set i ((t.getD i []).eraseIdx k), 0)

def killR (t : Cols) (p : Int) : Cols := (t.map fun c => c.filter (· ≠ p)).filter fun c => !c.isEmpty

theorem idx_ne {q p : Int} (h : q ≠ p) {c : List Int} : (q :: c).idxOf p = c.idxOf p + 1 := by
  rw [List.idxOf_cons]
  have : (q == p) = false := by simpa using h
  rw [this]
  rfl

theorem filter_not {p : Int} {c : List Int} (h : p ∉ c) : c.filter (· ≠ p) = c := by
  rw [List.filter_eq_self]
  intro q hq
  simp only [ne_eq, decide_not, Bool.not_eq_true', decide_eq_false_iff_not]
  rintro rfl
  exact h hq

theorem filter_in {p : Int} {c : List Int} (h : p ∈ c) (hn : c.Nodup) : c.filter (· ≠ p) = c.eraseIdx (c.idxOf p) := by
  induction c with
  | nil => simp at h
  | cons q c ih =>
    rw [List.nodup_cons] at hn
    by_cases e : q = p
    · subst e
      rw [List.filter_cons_of_neg (by simp), filter_not hn.1]
      simp
    · have hc : p ∈ c := by
        rcases List.mem_cons.1 h with h | h
        · exact (e h.symm).elim
        · exact h
      rw [List.filter_cons_of_pos (by simpa using e), ih hc hn.2, idx_ne e]
      rfl

theorem killR_not {p : Int} : ∀ {t : Cols}, (∀ c ∈ t, 1 ≤ c.length) → p ∉ t.flatten → killR t p = t
  | [], _, _ => rfl
  | c :: t, h, hp => by
    simp only [List.flatten_cons, List.mem_append, not_or] at hp
    have ih := killR_not (t := t) (fun d hd => h d (List.mem_cons_of_mem _ hd)) hp.2
    unfold killR at ih ⊢
    rw [List.map_cons, filter_not hp.1, List.filter_cons_of_pos, ih]
    have := h c List.mem_cons_self
    cases c <;> simp at this ⊢

theorem kill_law {p : Int} : ∀ {t : Cols} {i k : Nat}, (∀ c ∈ t, 1 ≤ c.length) → t.flatten.Nodup → findT t p = some (i, k) →
    killR t p = if (t.getD i []).length = 1 then t.eraseIdx i else t.set i ((t.getD i []).eraseIdx k)
  | [], _, _, _, _, h => by simp [findT] at h
  | c :: t, i, k, h1, hn, hf => by
    simp only [List.flatten_cons, List.nodup_append] at hn
    unfold findT at hf
    have hc1 := h1 c List.mem_cons_self
    have ht1 : ∀ d ∈ t, 1 ≤ d.length := fun d hd => h1 d (List.mem_cons_of_mem _ hd)
    split at hf
    · next hc =>
      simp only [Option.some.injEq, Prod.mk.injEq] at hf
      obtain ⟨rfl, rfl⟩ := hf
      have hm : p ∈ c := by simpa [List.contains_iff_mem] using hc
      have hnt : p ∉ t.flatten := fun h => hn.2.2 p hm p h rfl
      have ih := killR_not ht1 hnt
      have hlt := List.idxOf_lt_length_of_mem hm
      unfold killR at ih ⊢
      simp only [List.getD_cons_zero, List.set_cons_zero, List.eraseIdx_cons_zero]
      rw [List.map_cons, filter_in hm hn.1]
      by_cases hl : c.length = 1
      · rw [if_pos hl, List.filter_cons_of_neg, ih]
        have : (c.eraseIdx (c.idxOf p)).length = 0 := by rw [List.length_eraseIdx_of_lt hlt]; omega
        rw [List.length_eq_zero_iff] at this
        rw [this]; simp
      · rw [if_neg hl, List.filter_cons_of_pos, ih]
        have : (c.eraseIdx (c.idxOf p)).length ≠ 0 := by rw [List.length_eraseIdx_of_lt hlt]; omega
        cases hh : c.eraseIdx (c.idxOf p) with
        | nil => rw [hh] at this; simp at this
        | cons _ _ => rfl
    · next hc =>
      cases hf' : findT t p with
      | none => rw [hf'] at hf; simp at hf
      | some x =>
        rw [hf'] at hf
        simp only [Option.map_some, Option.some.injEq, Prod.mk.injEq] at hf
        obtain ⟨rfl, rfl⟩ := hf
        have hm : p ∉ c := by simpa [List.contains_iff_mem] using hc
        have ih := kill_law ht1 hn.2.1 hf'
        unfold killR at ih ⊢
        rw [List.map_cons, filter_not hm, List.filter_cons_of_pos (by cases c <;> simp at hc1 ⊢), ih]
        simp only [List.getD_cons_succ]
        split <;> rfl

theorem kill_eq {t : Cols} (hg : GoodT t) {p : Int} (hp : hasT t p = true) (h1 : ¬ (t.length = 1 ∧ (t.getD 0 []).length = 1)) : killT t p = (killR t p, 0) := by
  obtain ⟨i, k, hf⟩ := has_find.1 hp
  unfold killT
  rw [if_neg (by rw [goodT_iff.2 hg]; simp), hf]
  simp only
  rw [if_neg h1, kill_law (fun c hc => (hg.each c hc).1) hg.nodup hf]
  split <;> rfl

theorem insL_perm {α : Type} (l : List α) (i : Nat) (x : α) : (insL l i x).Perm (x :: l) := by
  unfold insL
  have h := List.perm_middle (a := x) (l₁ := l.take i) (l₂ := l.drop i)
  rwa [List.take_append_drop] at h

theorem set_split {α : Type} {l : List α} {i : Nat} (h : i < l.length) (x : α) : l.set i x = l.take i ++ x :: l.drop (i + 1) := by
  rw [List.set_eq_take_append_cons_drop, if_pos h]

theorem cut_at {α : Type} {l : List α} {i : Nat} (h : i < l.length) (d : α) : l = l.take i ++ l.getD i d :: l.drop (i + 1) := by
  have := set_split h (l.getD i d)
  rw [← this]
  refine List.ext_getElem (by simp) fun j h1 h2 => ?_
  rw [List.getElem_set]
  split
  · next e => subst e; simp [List.getD_eq_getElem?_getD, List.getElem?_eq_getElem h1]
  · rfl

/-- What Split answers when it is OK. -/
theorem split_ok {t : Cols} {p n : Int} {right : Bool} (h : (splitT t p n right).2 = 0) : GoodT t ∧ isPane n = true ∧ hasT t n = false ∧ ∃ i k, findT t p = some (i, k) ∧
    (splitT t p n right).1 = if right = true then insL t (i + 1) [n] else t.set i (insL (t.getD i []) (k + 1) n) := by
  unfold splitT at h ⊢
  by_cases h1 : goodT t = false ∨ isPane n = false
  · rw [if_pos h1] at h; cases h
  rw [if_neg h1] at h ⊢
  have hg : GoodT t := goodT_iff.1 (by cases hh : goodT t with | true => rfl | false => exact (h1 (.inl hh)).elim)
  have hn : isPane n = true := by cases hh : isPane n with | true => rfl | false => exact (h1 (.inr hh)).elim
  cases hf : findT t p with
  | none => rw [hf] at h; cases h
  | some x =>
    obtain ⟨i, k⟩ := x
    rw [hf] at h
    simp only at h ⊢
    by_cases h2 : hasT t n = true
    · rw [if_pos h2] at h; cases h
    rw [if_neg h2] at h ⊢
    by_cases h3 : right = false ∧ 3 ≤ (t.getD i []).length
    · rw [if_pos h3] at h; cases h
    rw [if_neg h3] at h ⊢
    refine ⟨hg, hn, by simpa using h2, i, k, rfl, ?_⟩
    split <;> rfl

theorem split_flat {t : Cols} {p n : Int} {right : Bool} {i k : Nat} (hf : findT t p = some (i, k)) : (if right = true then insL t (i + 1) [n] else t.set i (insL (t.getD i []) (k + 1) n)).flatten.Perm (n :: t.flatten) := by
  have hi := (find_some hf).1
  split
  · exact (insL_perm t (i + 1) [n]).flatten
  · rw [set_split hi]
    have e := cut_at hi []
    rw [List.flatten_append, List.flatten_cons]
    have h1 : (t.take i).flatten ++ (insL (t.getD i []) (k + 1) n ++ (t.drop (i + 1)).flatten) = (t.take i).flatten ++ ((t.getD i []).take (k + 1)) ++ n :: ((t.getD i []).drop (k + 1) ++ (t.drop (i + 1)).flatten) := by
      simp [insL]
    rw [h1]
    refine List.perm_middle.trans (List.Perm.cons _ ?_)
    have h2 : t.flatten = (t.take i).flatten ++ (t.getD i [] ++ (t.drop (i + 1)).flatten) := by
      conv => lhs; rw [e]
      rw [List.flatten_append, List.flatten_cons]
    have h3 : (t.getD i []).take (k + 1) ++ ((t.getD i []).drop (k + 1) ++ (t.drop (i + 1)).flatten) = t.getD i [] ++ (t.drop (i + 1)).flatten := by
      rw [← List.append_assoc, List.take_append_drop]
    rw [h2, List.append_assoc, h3]

theorem split_good {t : Cols} {p n : Int} {right : Bool} (h : (splitT t p n right).2 = 0) : GoodT (splitT t p n right).1 ∧ hasT (splitT t p n right).1 n = true ∧ 2 ≤ (splitT t p n right).1.flatten.length := by
  obtain ⟨hg, hn, hnn, i, k, hf, he⟩ := split_ok h
  have hfl := split_flat (n := n) (right := right) hf
  obtain ⟨hi, hk, _⟩ := find_some hf
  have hnot : n ∉ t.flatten := by simpa [hasT, List.contains_iff_mem] using hnn
  have h3 : right = false → (t.getD i []).length < 3 := fun hr => by
    apply Classical.byContradiction
    intro hc
    unfold splitT at h
    rw [if_neg (by rw [goodT_iff.2 hg, hn]; simp), hf] at h
    simp only at h
    rw [hnn, if_neg (by simp), if_pos ⟨hr, by omega⟩] at h
    cases h
  rw [he]
  refine ⟨⟨?_, fun q hq => ?_, ?_, ?_⟩, ?_, ?_⟩
  · intro c hc
    split at hc
    · rcases List.mem_cons.1 ((insL_perm t (i + 1) [n]).mem_iff.1 hc) with rfl | hc
      · exact ⟨Nat.le_refl 1, by show 1 ≤ 3; decide⟩
      · exact hg.each c hc
    · next hr =>
      have hr' : right = false := by simpa using hr
      rcases List.mem_or_eq_of_mem_set hc with hc | rfl
      · exact hg.each c hc
      · have := (insL_perm (t.getD i []) (k + 1) n).length_eq
        simp only [List.length_cons] at this
        have := h3 hr'
        omega
  · rcases List.mem_cons.1 (hfl.mem_iff.1 hq) with rfl | hq
    · exact hn
    · exact hg.pane q hq
  · rw [hfl.nodup_iff, List.nodup_cons]
    exact ⟨hnot, hg.nodup⟩
  · intro hz
    have := hfl.length_eq
    rw [hz] at this
    simp at this
  · unfold hasT
    rw [List.contains_iff_mem]
    exact hfl.mem_iff.2 List.mem_cons_self
  · rw [hfl.length_eq, List.length_cons]
    have := cols_len (t := t) fun c hc => (hg.each c hc).1
    omega

end Go.Proofs.YtkmmphkjmamckabDoor

/-
  What a client is to see, plainly: a law without the program.
-/
namespace Go.Proofs.YtkmmphkjmamckabDoor
open Go
set_option linter.all false

structure Vw where
  cols : Cols
  grids : List Gr
  wide : Int
  high : Int
  focus : Int

/-- The pane that is at a place. -/
def paneAt (t : Cols) (wide high r c : Int) : Option Nat :=
  [0, 1, 2, 3, 4, 5].find? fun p : Nat => decide ((whereT t wide high p).row ≤ r ∧ r < (whereT t wide high p).row + (whereT t wide high p).high ∧ (whereT t wide high p).col ≤ c ∧ c < (whereT t wide high p).col + (whereT t wide high p).wide)

def lineAt (wide : Int) (n : Nat) (c : Int) : Bool := (List.range (n - 1)).any fun i => decide (0 < (shareT wide n i).2 ∧ c = (shareT wide n i).1 + (shareT wide n i).2)

def sign (c : Int) : Cl := ⟨c, 0, 0, false⟩

def cellV (v : Vw) (r c : Int) : Cl :=
  if r < 0 ∨ c < 0 ∨ v.high ≤ r ∨ v.wide ≤ c then sign 46
  else match paneAt v.cols v.wide v.high r c with
    | some p => atG (v.grids.getD p .zero) (r - (whereT v.cols v.wide v.high p).row) (c - (whereT v.cols v.wide v.high p).col)
    | none => if lineAt v.wide v.cols.length c = true then sign 124 else sign 45

def statusV (t : Cols) (focus col : Int) : Cl :=
  if 0 ≤ col ∧ col % 2 = 0 ∧ (col / 2).toNat < t.flatten.length then
    ⟨48 + max 0 (min (t.flatten.getD (col / 2).toNat 0) 9), 0, 0, decide (t.flatten.getD (col / 2).toNat 0 = focus)⟩
  else sign 32

def screenCells (v : Vw) (w h : Nat) : List Cl := tabC (w * h) fun i => if i / w + 1 = h then statusV v.cols v.focus ((i % w : Nat) : Int) else cellV v ((i / w : Nat) : Int) ((i % w : Nat) : Int)

def cursorV (v : Vw) (w h : Int) : Int × Int :=
  if v.focus < 0 ∨ 6 ≤ v.focus then (0, 0)
  else
    let a := whereT v.cols v.wide v.high v.focus
    let f := v.grids.getD v.focus.toNat .zero
    if 0 < a.wide then (max 0 (min (a.row + min f.row (a.high - 1)) (h - 1)), max 0 (min (a.col + min f.col (a.wide - 1)) (w - 1))) else (0, 0)

def screenV (v : Vw) (wide high : Int) : Gr :=
  let w := max 1 (min wide 24)
  let h := max 1 (min high 10)
  ⟨w, h, screenCells v w.toNat h.toNat, (cursorV v w h).1, (cursorV v w h).2, 0, false, 0, h⟩

theorem paneAt_some {t : Cols} {wide high r c : Int} {p : Nat} (hp : p < 6) (h : inR (whereT t wide high p) r c) : paneAt t wide high r c = some p := by
  cases hf : paneAt t wide high r c with
  | none =>
    unfold paneAt at hf
    rw [List.find?_eq_none] at hf
    have := hf p (by simp only [List.mem_cons, List.not_mem_nil, or_false]; omega)
    exact (this (by rw [decide_eq_true_eq]; exact h)).elim
  | some q =>
    have := List.find?_some hf
    rw [decide_eq_true_eq] at this
    have e := where_apart h this
    rw [show p = q by omega]

theorem paneAt_none {t : Cols} {wide high r c : Int} (h : ∀ p : Nat, p < 6 → ¬ inR (whereT t wide high p) r c) : paneAt t wide high r c = none := by
  unfold paneAt
  rw [List.find?_eq_none]
  intro p hp hq
  rw [decide_eq_true_eq] at hq
  refine h p ?_ hq
  simp only [List.mem_cons, List.not_mem_nil, or_false] at hp
  omega

theorem paneAt_in {t : Cols} {wide high r c : Int} {p : Nat} (h : paneAt t wide high r c = some p) : p < 6 ∧ inR (whereT t wide high p) r c := by
  have h1 := List.find?_some h
  have h2 := List.mem_of_find?_eq_some h
  rw [decide_eq_true_eq] at h1
  refine ⟨?_, h1⟩
  simp only [List.mem_cons, List.not_mem_nil, or_false] at h2
  omega

theorem lineAt_iff {wide : Int} {n : Nat} {c : Int} : lineAt wide n c = true ↔ ∃ i : Nat, i + 1 < n ∧ 0 < (shareT wide n i).2 ∧ c = (shareT wide n i).1 + (shareT wide n i).2 := by
  unfold lineAt
  rw [List.any_eq_true]
  constructor
  · rintro ⟨i, hi, h⟩
    rw [List.mem_range] at hi
    rw [decide_eq_true_eq] at h
    exact ⟨i, by omega, h⟩
  · rintro ⟨i, hi, h⟩
    exact ⟨i, List.mem_range.2 (by omega), decide_eq_true h⟩

theorem screen_len (v : Vw) (w h : Nat) : (screenCells v w h).length = w * h := tab_len _ _

end Go.Proofs.YtkmmphkjmamckabDoor

/-
  Bytes that turn one screen into another, plainly: a law without the program.
-/
namespace Go.Proofs.YtkmmphkjmamckabDoor
open Go
set_option linter.all false

abbrev Bs := List UInt8

theorem feed_append : ∀ (a b : Bs) (p : Pr), feedP p (a ++ b) = ((feedP (feedP p a).1 b).1, (feedP p a).2 ++ (feedP (feedP p a).1 b).2)
  | [], _, _ => rfl
  | x :: a, b, p => by
    simp only [List.cons_append, feedP]
    rw [feed_append a b]
    simp only [List.append_assoc]

theorem feed_none {p q : Pr} {b : UInt8} (h : stepP p (b.toNat : Int) = (q, .none)) (rest : Bs) : feedP p (b :: rest) = feedP q rest := by
  show ((feedP (stepP p b.toNat).1 rest).1, (if (stepP p b.toNat).2.kind = 0 then [] else [(stepP p b.toNat).2]) ++ (feedP (stepP p b.toNat).1 rest).2) = _
  rw [h]
  simp [Ev.none]

theorem feed_some {p q : Pr} {e : Ev} {b : UInt8} (h : stepP p (b.toNat : Int) = (q, e)) (he : e.kind ≠ 0) : feedP p [b] = (q, [e]) := by
  show ((feedP (stepP p b.toNat).1 []).1, (if (stepP p b.toNat).2.kind = 0 then [] else [(stepP p b.toNat).2]) ++ (feedP (stepP p b.toNat).1 []).2) = _
  rw [h]
  simp [he, feedP]

theorem step_two (ps : List Int) (pl : ByteArray) (lg : Bool) (c : Int) : stepP ⟨2, ps, pl, lg⟩ c = cmdP ⟨2, ps, pl, lg⟩ c := rfl
theorem step_three (ps : List Int) (pl : ByteArray) (lg : Bool) (c : Int) : stepP ⟨3, ps, pl, lg⟩ c = if c = 27 then (⟨4, ps, pl, lg⟩, .none)
    else if c = 24 then (.zero, .none)
    else if 32 ≤ c ∧ c < 127 then
      if 48 ≤ pl.size then (⟨3, ps, pl, true⟩, .none) else (⟨3, ps, pl ++ byteS c, lg⟩, .none)
    else (⟨3, ps, pl, lg⟩, .none) := rfl

theorem all_append : ∀ (a b : List Ev) (g : Gr), (allG g a).2 = 0 → allG g (a ++ b) = allG (allG g a).1 b
  | [], _, _, _ => rfl
  | e :: a, b, g, h => by
    simp only [List.cons_append, allG] at h ⊢
    by_cases h0 : (doG g e).2 = 0
    · rw [if_pos h0] at h ⊢
      rw [if_pos h0]
      exact all_append a b _ h
    · rw [if_neg h0] at h
      exact (h0 h).elim

/-- Bytes that a parser on the ground reads whole, and what they do. -/
def Runs (g : Gr) (s : Bs) (g' : Gr) : Prop := ∃ evs, feedP .zero s = (.zero, evs) ∧ allG g evs = (g', 0)

theorem Runs.nil (g : Gr) : Runs g [] g := ⟨[], rfl, rfl⟩

theorem Runs.append {g g' g'' : Gr} {a b : Bs} (h : Runs g a g') (k : Runs g' b g'') : Runs g (a ++ b) g'' := by
  obtain ⟨l, h1, h2⟩ := h
  obtain ⟨m, k1, k2⟩ := k
  refine ⟨l ++ m, ?_, ?_⟩
  · rw [feed_append, h1]
    simp only [k1]
  · rw [all_append _ _ _ (by rw [h2]), h2]
    exact k2

theorem Runs.one {g : Gr} {s : Bs} {e : Ev} (hg : GoodG g) (hf : feedP .zero s = (.zero, [e])) (hd : (doG g e).2 = 0) : Runs g s (doG g e).1 :=
  ⟨[e], hf, by simp only [allG, if_pos hd]⟩

theorem do_good_eq {g : Gr} (h : GoodG g) (e : Ev) : doG g e = if e.kind = 1 then if e.b < 32 ∨ 126 < e.b then (g, 6) else (showG g e.b, 0)
  else if e.kind = 2 then (controlG g e.b, 0)
  else if e.kind = 3 then (commandG g e.b e.ps, 0)
  else if e.kind = 4 then (pictureG g e.pl.data.toList, 0)
  else if e.kind = 5 then (newG g.wide g.high, 0)
  else (g, 2) := by
  unfold doG
  rw [if_neg (by rw [goodG_iff.2 h]; simp)]

/-! ### Numbers as bytes -/

def byteN (n : Int) : UInt8 := UInt8.ofNat n.toNat

theorem byteN_val {n : Int} (h0 : 0 ≤ n) (h1 : n ≤ 255) : ((byteN n).toNat : Int) = n := by
  unfold byteN
  rw [UInt8.toNat_ofNat']
  omega

def dig (n : Int) : Bs := if n < 10 then [byteN (48 + n)] else [byteN (48 + n / 10), byteN (48 + n % 10)]

theorem step_digit (ps : List Int) (x : Int) {d : Int} (h0 : 0 ≤ d) (h1 : d ≤ 9) (hx : 10 * x + d ≤ 999) (rest : Bs) : feedP ⟨2, ps ++ [x], noBytes, false⟩ (byteN (48 + d) :: rest) = feedP ⟨2, ps ++ [10 * x + d], noBytes, false⟩ rest := by
  have hb := byteN_val (n := 48 + d) (by omega) (by omega)
  have hs : stepP ⟨2, ps ++ [x], noBytes, false⟩ ((byteN (48 + d)).toNat : Int) = (⟨2, ps ++ [10 * x + d], noBytes, false⟩, .none) := by
    rw [hb, step_two]
    unfold cmdP
    rw [if_pos (by omega)]
    have : lastNum (ps ++ [x]) (48 + d) = ps ++ [10 * x + d] := by
      unfold lastNum
      simp only [List.length_append, List.length_cons, List.length_nil, Nat.add_sub_cancel, List.getD_eq_getElem?_getD]
      simp
      omega
    rw [this]
  exact feed_none hs rest

theorem feed_dig (ps : List Int) {n : Int} (h0 : 0 ≤ n) (h1 : n < 100) (rest : Bs) : feedP ⟨2, ps ++ [0], noBytes, false⟩ (dig n ++ rest) = feedP ⟨2, ps ++ [n], noBytes, false⟩ rest := by
  unfold dig
  split
  · rw [List.cons_append, List.nil_append, step_digit ps 0 h0 (by omega) (by omega)]
    simp
  · rw [List.cons_append, List.cons_append, List.nil_append, step_digit ps 0 (by omega) (by omega) (by omega), step_digit ps _ (by omega) (by omega) (by omega)]
    rw [show 10 * (10 * 0 + n / 10) + n % 10 = n by omega]

theorem feed_semi (ps : List Int) (h : ps.length < 4) (rest : Bs) : feedP ⟨2, ps, noBytes, false⟩ (59 :: rest) = feedP ⟨2, ps ++ [0], noBytes, false⟩ rest := by
  have hs : stepP ⟨2, ps, noBytes, false⟩ (((59 : UInt8).toNat : Nat) : Int) = (⟨2, ps ++ [0], noBytes, false⟩, .none) := by
    show cmdP _ 59 = _
    unfold cmdP
    rw [if_neg (by omega), if_pos ⟨rfl, h⟩]
  exact feed_none hs rest

theorem feed_csi (rest : Bs) : feedP .zero (27 :: 91 :: rest) = feedP ⟨2, [0], noBytes, false⟩ rest := by
  have h1 : stepP .zero (((27 : UInt8).toNat : Nat) : Int) = (⟨1, [], noBytes, false⟩, .none) := rfl
  have h2 : stepP ⟨1, [], noBytes, false⟩ (((91 : UInt8).toNat : Nat) : Int) = (⟨2, [0], noBytes, false⟩, .none) := rfl
  rw [feed_none h1, feed_none h2]

theorem feed_final (ps : List Int) {b : UInt8} (h0 : 64 ≤ b.toNat) (h1 : b.toNat < 127) : feedP ⟨2, ps, noBytes, false⟩ [b] = (.zero, [⟨3, b.toNat, ps, noBytes⟩]) := by
  have hs : stepP ⟨2, ps, noBytes, false⟩ (b.toNat : Int) = (.zero, ⟨3, b.toNat, ps, noBytes⟩) := by
    rw [step_two]
    unfold cmdP
    rw [if_neg (by omega), if_neg (by omega), if_pos (by omega)]
  exact feed_some hs (by simp)

/-! ### The pen -/

def wrD (x : Gr × Bs) (s : Bs) : Gr × Bs := ((allG x.1 (feedP .zero s).2).1, x.2 ++ s)

theorem wrD_eq {g g' : Gr} {out s : Bs} (h : Runs g s g') : wrD (g, out) s = (g', out ++ s) := by
  obtain ⟨l, h1, h2⟩ := h
  unfold wrD
  simp only [h1, h2]

def moveBytes (r c : Int) : Bs := [27, 91] ++ (dig (r + 1) ++ (59 :: (dig (c + 1) ++ [72])))

def moveD (x : Gr × Bs) (r c : Int) : Gr × Bs := if x.1.row ≠ r ∨ x.1.col ≠ c then wrD x (moveBytes r c) else x

def inkBytes (c : Cl) : Bs := [27, 91, 48] ++ ((if c.bold = true then [59, 49] else []) ++ ((if 0 < c.ink then 59 :: dig (29 + c.ink) else []) ++ [109]))

def inkD (x : Gr × Bs) (c : Cl) : Gr × Bs := if x.1.ink = c.ink ∧ x.1.bold = c.bold then x else wrD x (inkBytes c)

def picBytes (c : Cl) : Bs := [27, 80, byteN (97 + c.pic - 1), 27, 92]

def cellD (x : Gr × Bs) (r c : Int) (k : Cl) : Gr × Bs :=
  let x := moveD x r c
  if 0 < k.pic then wrD x (picBytes k)
  else if k.ch = 0 then wrD x [27, 91, 75]
  else wrD (inkD x k) [byteN k.ch]

def turnCell (to : Gr) (x : Gr × Bs) (i : Nat) : Gr × Bs :=
  if cg x.1.cells i = cg to.cells i then x else cellD x ((i / to.wide.toNat : Nat) : Int) ((i % to.wide.toNat : Nat) : Int) (cg to.cells i)

def turnCells (to : Gr) (x : Gr × Bs) : Nat → Gr × Bs
  | 0 => x
  | n + 1 => turnCell to (turnCells to x n) n

def turnD (frm to : Gr) : Gr × Bs := moveD (turnCells to (frm, []) (to.wide.toNat * to.high.toNat)) to.row to.col

def mayTurn (frm to : Gr) : Prop := GoodG frm ∧ GoodG to ∧ frm.wide = to.wide ∧ frm.high = to.high ∧ to.col < to.wide

theorem dig_len (n : Int) : 1 ≤ (dig n).length ∧ (dig n).length ≤ 2 := by
  unfold dig; split <;> exact ⟨by simp, by simp⟩

theorem moveBytes_len (r c : Int) : (moveBytes r c).length ≤ 8 := by
  have := dig_len (r + 1)
  have := dig_len (c + 1)
  simp [moveBytes]
  omega

theorem inkBytes_len (c : Cl) : (inkBytes c).length ≤ 9 := by
  have := dig_len (29 + c.ink)
  unfold inkBytes
  simp only [List.length_append, List.length_cons, List.length_nil]
  split <;> split <;> simp <;> omega

theorem move_runs {g : Gr} (hg : GoodG g) {r c : Int} (hr : 0 ≤ r ∧ r < g.high) (hc : 0 ≤ c ∧ c < g.wide) : Runs g (moveBytes r c) { g with row := r, col := c } := by
  have h2 := hg.h2
  have w2 := hg.w2
  have hf : feedP .zero (moveBytes r c) = (.zero, [⟨3, 72, [r + 1, c + 1], noBytes⟩]) := by
    unfold moveBytes
    rw [List.cons_append, List.cons_append, List.nil_append, feed_csi]
    have e1 := feed_dig [] (n := r + 1) (by omega) (by omega) (59 :: (dig (c + 1) ++ [72]))
    rw [List.nil_append, List.nil_append] at e1
    rw [e1, feed_semi _ (by simp), feed_dig _ (by omega) (by omega), feed_final _ (by decide) (by decide)]
    rfl
  have hd : doG g ⟨3, 72, [r + 1, c + 1], noBytes⟩ = ({ g with row := r, col := c }, 0) := by
    rw [do_good_eq hg]
    dsimp only
    rw [if_neg (by omega), if_neg (by omega), if_pos rfl]
    have n0 : numP [r + 1, c + 1] 0 1 = r + 1 := by show max 1 (min (r + 1) 999) = _; omega
    have n1 : numP [r + 1, c + 1] 1 1 = c + 1 := by show max 1 (min (c + 1) 999) = _; omega
    unfold commandG
    dsimp only
    rw [n0, n1, if_neg (by omega), if_neg (by omega), if_neg (by omega), if_neg (by omega), if_pos rfl]
    rw [show min g.high (r + 1) - 1 = r by omega, show min g.wide (c + 1) - 1 = c by omega]
  have := Runs.one hg hf (by rw [hd])
  rwa [hd] at this

theorem moveD_eq {g : Gr} {out : Bs} (hg : GoodG g) {r c : Int} (hr : 0 ≤ r ∧ r < g.high) (hc : 0 ≤ c ∧ c < g.wide) :
    ∃ s, moveD (g, out) r c = ({ g with row := r, col := c }, out ++ s) ∧ Runs g s { g with row := r, col := c } ∧ s.length ≤ 8 ∧ (g.row = r → g.col = c → s = []) := by
  unfold moveD
  split
  · next h => exact ⟨_, wrD_eq (move_runs hg hr hc), move_runs hg hr hc, moveBytes_len _ _, fun h1 h2 => by simp [h1, h2] at h⟩
  · next h =>
    have h1 : g.row = r := by apply Classical.byContradiction; intro hn; exact h (.inl hn)
    have h2 : g.col = c := by apply Classical.byContradiction; intro hn; exact h (.inr hn)
    subst h1 h2
    exact ⟨[], by simp, Runs.nil _, by simp, fun _ _ => rfl⟩

theorem inks_bytes {c : Cl} (h0 : 0 ≤ c.ink) (h1 : c.ink ≤ 8) : feedP .zero (inkBytes c) = (.zero, [⟨3, 109, [0] ++ (if c.bold = true then [1] else []) ++ (if 0 < c.ink then [29 + c.ink] else []), noBytes⟩]) := by
  have hz : ∀ rest : Bs, feedP .zero ([27, 91, 48] ++ rest) = feedP ⟨2, [0], noBytes, false⟩ rest := fun rest => by
    have e := step_digit [] 0 (d := 0) (by decide) (by decide) (by decide) rest
    rw [List.cons_append, List.cons_append, List.cons_append, List.nil_append, feed_csi]
    exact e
  have h1' : ∀ (ps : List Int) (rest : Bs), ps.length < 4 → feedP ⟨2, ps, noBytes, false⟩ ([59, 49] ++ rest) = feedP ⟨2, ps ++ [1], noBytes, false⟩ rest := fun ps rest hl => by
    rw [List.cons_append, List.cons_append, List.nil_append, feed_semi _ hl]
    exact step_digit ps 0 (d := 1) (by decide) (by decide) (by decide) rest
  have h2' : ∀ (ps : List Int) (rest : Bs), ps.length < 4 → feedP ⟨2, ps, noBytes, false⟩ ((59 :: dig (29 + c.ink)) ++ rest) = feedP ⟨2, ps ++ [29 + c.ink], noBytes, false⟩ rest := fun ps rest hl => by
    rw [List.cons_append, feed_semi _ hl, feed_dig _ (by omega) (by omega)]
  unfold inkBytes
  rw [hz]
  cases c.bold <;> by_cases hk : 0 < c.ink
  · simp only [hk, if_true, Bool.false_eq_true, if_false, List.nil_append, List.append_nil]
    rw [h2' _ _ (by simp), feed_final _ (by decide) (by decide)]
    rfl
  · simp only [hk, if_false, Bool.false_eq_true, List.nil_append, List.append_nil]
    rw [feed_final _ (by decide) (by decide)]
    rfl
  · simp only [hk, if_true]
    rw [h1' _ _ (by simp), h2' _ _ (by simp), feed_final _ (by decide) (by decide)]
    rfl
  · simp only [hk, if_true, if_false, List.nil_append, List.append_nil]
    rw [h1' _ _ (by simp), feed_final _ (by decide) (by decide)]
    rfl

theorem ink_runs {g : Gr} (hg : GoodG g) {c : Cl} (h0 : 0 ≤ c.ink) (h1 : c.ink ≤ 8) : Runs g (inkBytes c) { g with ink := c.ink, bold := c.bold } := by
  have hd : doG g ⟨3, 109, [0] ++ (if c.bold = true then [1] else []) ++ (if 0 < c.ink then [29 + c.ink] else []), noBytes⟩ = ({ g with ink := c.ink, bold := c.bold }, 0) := by
    rw [do_good_eq hg]
    dsimp only
    rw [if_neg (by omega), if_neg (by omega), if_pos rfl]
    unfold commandG
    dsimp only
    rw [if_neg (by omega), if_neg (by omega), if_neg (by omega), if_neg (by omega), if_neg (by omega), if_neg (by omega), if_neg (by omega), if_neg (by omega), if_pos rfl]
    have hink : ∀ x : Gr, 0 < c.ink → inkG x (29 + c.ink) = { x with ink := c.ink } := fun x hk => by
      unfold inkG
      rw [if_neg (by omega), if_neg (by omega), if_neg (by omega), if_pos (by omega), show 29 + c.ink - 29 = c.ink by omega]
    have hz : ∀ x : Gr, inkG x 0 = { x with ink := 0, bold := false } := fun x => rfl
    have ho : ∀ x : Gr, inkG x 1 = { x with bold := true } := fun x => rfl
    cases hb : c.bold <;> by_cases hk : 0 < c.ink
    · simp only [hk, if_true, Bool.false_eq_true, if_false, List.append_nil, List.cons_append, List.nil_append, List.foldl_cons, List.foldl_nil, hz, hink _ hk]
    · simp only [hk, Bool.false_eq_true, if_false, List.append_nil, List.cons_append, List.nil_append, List.foldl_cons, List.foldl_nil, hz]
      rw [show c.ink = 0 by omega]
    · simp only [hk, if_true, List.append_nil, List.cons_append, List.nil_append, List.foldl_cons, List.foldl_nil, hz, ho, hink _ hk]
    · simp only [hk, if_true, if_false, List.append_nil, List.cons_append, List.nil_append, List.foldl_cons, List.foldl_nil, hz, ho]
      rw [show c.ink = 0 by omega]
  have := Runs.one hg (inks_bytes h0 h1) (by rw [hd])
  rwa [hd] at this

theorem inkD_eq {g : Gr} {out : Bs} (hg : GoodG g) {c : Cl} (h0 : 0 ≤ c.ink) (h1 : c.ink ≤ 8) :
    ∃ s, inkD (g, out) c = ({ g with ink := c.ink, bold := c.bold }, out ++ s) ∧ Runs g s { g with ink := c.ink, bold := c.bold } ∧ s.length ≤ 9 := by
  unfold inkD
  split
  · next h =>
    obtain ⟨h2, h3⟩ := h
    simp only at h2 h3
    exact ⟨[], by rw [← h2, ← h3]; simp, by rw [← h2, ← h3]; exact Runs.nil _, by simp⟩
  · exact ⟨_, wrD_eq (ink_runs hg h0 h1), ink_runs hg h0 h1, inkBytes_len _⟩

theorem pic_runs {g : Gr} (hg : GoodG g) (hc : g.col < g.wide) {k : Cl} (h0 : 0 < k.pic) (h1 : k.pic ≤ 8) : Runs g (picBytes k) { g with cells := g.cells.set (g.row * g.wide + g.col).toNat ⟨0, 0, k.pic, false⟩ } := by
  have hb := byteN_val (n := 97 + k.pic - 1) (by omega) (by omega)
  have hr := hg.r2
  have hf : feedP .zero (picBytes k) = (.zero, [⟨4, 0, [], noBytes ++ byteS (97 + k.pic - 1)⟩]) := by
    unfold picBytes
    have s1 : stepP .zero (((27 : UInt8).toNat : Nat) : Int) = (⟨1, [], noBytes, false⟩, .none) := rfl
    have s2 : stepP ⟨1, [], noBytes, false⟩ (((80 : UInt8).toNat : Nat) : Int) = (⟨3, [], noBytes, false⟩, .none) := rfl
    have s3 : stepP ⟨3, [], noBytes, false⟩ ((byteN (97 + k.pic - 1)).toNat : Int) = (⟨3, [], noBytes ++ byteS (97 + k.pic - 1), false⟩, .none) := by
      rw [hb, step_three]
      rw [if_neg (by omega), if_neg (by omega), if_pos (by omega), if_neg (by decide)]
    have s4 : ∀ pl, stepP ⟨3, [], pl, false⟩ (((27 : UInt8).toNat : Nat) : Int) = (⟨4, [], pl, false⟩, .none) := fun _ => rfl
    have s5 : ∀ pl, stepP ⟨4, [], pl, false⟩ (((92 : UInt8).toNat : Nat) : Int) = (.zero, ⟨4, 0, [], pl⟩) := fun _ => rfl
    rw [feed_none s1, feed_none s2, feed_none s3, feed_none (s4 _), feed_some (s5 _) (by simp)]
  have hpl : (noBytes ++ byteS (97 + k.pic - 1)).data.toList = [byteN (97 + k.pic - 1)] := by
    rw [ByteArray.data_append]
    simp [byteS, byteN, noBytes]
  have hd : doG g ⟨4, 0, [], noBytes ++ byteS (97 + k.pic - 1)⟩ = ({ g with cells := g.cells.set (g.row * g.wide + g.col).toNat ⟨0, 0, k.pic, false⟩ }, 0) := by
    rw [do_good_eq hg]
    dsimp only
    rw [if_neg (by omega), if_neg (by omega), if_neg (by omega), if_pos rfl, hpl]
    unfold pictureG
    have hm : min g.col (g.wide - 1) = g.col := by omega
    rw [hm]
    simp only [picC]
    rw [if_neg (by omega), if_pos (by omega), hb, show (97 : Int) + k.pic - 1 - 96 = k.pic by omega]
  have := Runs.one hg hf (by rw [hd])
  rwa [hd] at this

theorem blank_runs {g : Gr} (hg : GoodG g) (hc : g.col < g.wide) : Runs g [27, 91, 75] { g with cells := eraseC (g.row * g.wide + g.col).toNat ((g.row + 1) * g.wide).toNat g.cells } := by
  have hf : feedP .zero [27, 91, 75] = (.zero, [⟨3, 75, [0], noBytes⟩]) := by
    rw [feed_csi, feed_final _ (by decide) (by decide)]; rfl
  have hd : doG g ⟨3, 75, [0], noBytes⟩ = ({ g with cells := eraseC (g.row * g.wide + g.col).toNat ((g.row + 1) * g.wide).toNat g.cells }, 0) := by
    rw [do_good_eq hg]
    dsimp only
    rw [if_neg (by omega), if_neg (by omega), if_pos rfl]
    unfold commandG
    dsimp only
    rw [if_neg (by omega), if_neg (by omega), if_neg (by omega), if_neg (by omega), if_neg (by omega), if_neg (by omega), if_pos rfl]
    have hm : min g.col (g.wide - 1) = g.col := by omega
    rw [hm]
    rw [show numP [0] 0 0 = 0 from rfl]
    rfl
  have := Runs.one hg hf (by rw [hd])
  rwa [hd] at this

theorem show_runs {g : Gr} (hg : GoodG g) (hc : g.col < g.wide) {ch : Int} (h0 : 32 ≤ ch) (h1 : ch ≤ 126) : Runs g [byteN ch] { g with cells := g.cells.set (g.row * g.wide + g.col).toNat ⟨ch, g.ink, 0, g.bold⟩, col := g.col + 1 } := by
  have hb := byteN_val (n := ch) (by omega) (by omega)
  have hf : feedP .zero [byteN ch] = (.zero, [⟨1, ch, [], noBytes⟩]) := by
    have s1 : stepP .zero ((byteN ch).toNat : Int) = (.zero, ⟨1, ch, [], noBytes⟩) := by
      rw [hb]
      unfold stepP
      rw [if_pos (show Pr.zero.at_ = 0 from rfl), if_neg (by omega), if_pos (by omega)]
    exact feed_some s1 (by simp)
  have hd : doG g ⟨1, ch, [], noBytes⟩ = ({ g with cells := g.cells.set (g.row * g.wide + g.col).toNat ⟨ch, g.ink, 0, g.bold⟩, col := g.col + 1 }, 0) := by
    rw [do_good_eq hg]
    dsimp only
    rw [if_pos rfl, if_neg (by omega)]
    unfold showG
    rw [if_neg (by omega)]
  have := Runs.one hg hf (by rw [hd])
  rwa [hd] at this

end Go.Proofs.YtkmmphkjmamckabDoor

/-
  Bytes that turn one screen into another, plainly: they do, and they are not too many.
-/
namespace Go.Proofs.YtkmmphkjmamckabDoor
open Go
set_option linter.all false

theorem goodC_cases {k : Cl} (h : goodC k = true) : (0 < k.pic ∧ k.pic ≤ 8 ∧ k = ⟨0, 0, k.pic, false⟩) ∨ (k.pic = 0 ∧ k.ch = 0 ∧ k = .z) ∨ (k.pic = 0 ∧ k.ch ≠ 0 ∧ 32 ≤ k.ch ∧ k.ch ≤ 126 ∧ 0 ≤ k.ink ∧ k.ink ≤ 8 ∧ k = ⟨k.ch, k.ink, 0, k.bold⟩) := by
  unfold goodC at h
  rw [Bool.and_eq_true, decide_eq_true_eq] at h
  obtain ⟨h1, h2⟩ := h
  obtain ⟨ch, ink, pic, bold⟩ := k
  simp only at h1 h2 ⊢
  by_cases hp : pic = 0
  · rw [if_pos hp, decide_eq_true_eq] at h2
    subst hp
    rcases h2 with ⟨rfl, rfl, rfl⟩ | h2
    · exact .inr (.inl ⟨rfl, rfl, rfl⟩)
    · exact .inr (.inr ⟨rfl, by omega, by omega, by omega, h1.2.2.1, h1.2.2.2, rfl⟩)
  · rw [if_neg hp, decide_eq_true_eq] at h2
    obtain ⟨rfl, rfl, rfl⟩ := h2
    exact .inl ⟨by omega, h1.2.1, rfl⟩

/-- What drawing one cell does. -/
structure CellPost (g : Gr) (out : Bs) (r c : Nat) (k : Cl) (x : Gr × Bs) : Prop where
  good : GoodG x.1
  wide : x.1.wide = g.wide
  high : x.1.high = g.high
  bytes : ∃ s, x.2 = out ++ s ∧ Runs g s x.1 ∧ (g.row = r → g.col = c → s.length ≤ 10) ∧ (s.length ≤ 13 ∨ (s.length ≤ 18 ∧ x.1.row = r ∧ x.1.col = c + 1))
  here : cg x.1.cells (r * g.wide.toNat + c) = k
  left : ∀ j, j < r * g.wide.toNat + c → cg x.1.cells j = cg g.cells j

theorem cells_len {g : Gr} (h : GoodG g) : g.cells.length = g.high.toNat * g.wide.toNat := by
  have hl := h.len
  have := h.w1
  have := h.h1
  obtain ⟨w, hw⟩ : ∃ w : Nat, g.wide = w := ⟨g.wide.toNat, by omega⟩
  obtain ⟨k, hk⟩ : ∃ k : Nat, g.high = k := ⟨g.high.toNat, by omega⟩
  rw [hw, hk] at hl ⊢
  simp only [Int.toNat_natCast]
  rw [Nat.mul_comm]
  exact_mod_cast hl

theorem place_nat {g : Gr} (h : GoodG g) (r c : Nat) : ((r : Int) * g.wide + c).toNat = r * g.wide.toNat + c := by
  have := h.w1
  obtain ⟨w, hw⟩ : ∃ w : Nat, g.wide = w := ⟨g.wide.toNat, by omega⟩
  rw [hw]
  simp only [Int.toNat_natCast]
  have e : (r : Int) * w + c = ((r * w + c : Nat) : Int) := by simp
  rw [e, Int.toNat_natCast]

theorem cell_law {g : Gr} {out : Bs} (hg : GoodG g) {r c : Nat} (hr : (r : Int) < g.high) (hc : (c : Int) < g.wide) {k : Cl} (hk : goodC k = true) : CellPost g out r c k (cellD (g, out) r c k) := by
  obtain ⟨s, he, hrun, hs, hs0⟩ := moveD_eq (out := out) hg (r := r) (c := c) ⟨by omega, hr⟩ ⟨by omega, hc⟩
  have hg1 : GoodG { g with row := (r : Int), col := (c : Int) } := hg.with rfl hg.all ⟨by omega, hr⟩ ⟨by omega, by omega⟩ ⟨hg.i1, hg.i2⟩ ⟨hg.t1, hg.t2, hg.b2⟩
  have hp := place_nat hg r c
  have hlen := cells_len hg
  have hin : r * g.wide.toNat + c < g.cells.length := by
    rw [hlen]
    exact row_lt (by omega) (by omega)
  have hmv : (g.row = r ∧ g.col = c ∧ s.length = 0) ∨ s.length ≤ 8 := .inr hs
  have hmv2 : g.row = r → g.col = c → s.length = 0 := fun h1 h2 => by rw [hs0 h1 h2]; rfl
  unfold cellD
  simp only [he]
  rcases goodC_cases hk with ⟨h1, h2, h3⟩ | ⟨h1, h2, h3⟩ | ⟨h1, h2, h3, h4, h5, h6, h7⟩
  · rw [if_pos h1]
    have hrun2 := pic_runs hg1 hc h1 h2
    simp only [hp] at hrun2
    rw [wrD_eq hrun2]
    refine ⟨?_, rfl, rfl, ⟨s ++ picBytes k, by simp, hrun.append hrun2, fun h1 h2 => by have := hmv2 h1 h2; simp [picBytes]; omega, .inl (by simp [picBytes]; omega)⟩, ?_, ?_⟩
    · refine hg1.cellsWith (List.length_set ..) (AllG.set hg1.all ?_ _)
      rw [← h3]; exact hk
    · show cg (g.cells.set _ _) _ = k
      rw [cg_set hin, if_pos rfl, ← h3]
    · intro j hj
      show cg (g.cells.set _ _) _ = _
      rw [cg_set hin, if_neg (by omega)]
  · rw [if_neg (by omega), if_pos h2]
    have hrun2 := blank_runs hg1 hc
    simp only [hp] at hrun2
    have hp2 : (((r : Int) + 1) * g.wide).toNat = (r + 1) * g.wide.toNat := by
      have := place_nat hg (r + 1) 0
      simp only [Nat.add_zero] at this
      rw [← this]
      congr 1
      push_cast
      omega
    rw [hp2] at hrun2
    rw [wrD_eq hrun2]
    refine ⟨?_, rfl, rfl, ⟨s ++ [27, 91, 75], by simp, hrun.append hrun2, fun h1 h2 => by have := hmv2 h1 h2; simp; omega, .inl (by simp; omega)⟩, ?_, ?_⟩
    · exact hg1.cellsWith (eraseC_len _ _ _) (AllG.erase hg1.all _ _)
    · show cg (eraseC _ _ g.cells) _ = k
      rw [erase_cg hin, if_pos ⟨Nat.le_refl _, by rw [Nat.add_mul]; omega⟩, h3]
    · intro j hj
      show cg (eraseC _ _ g.cells) _ = _
      rw [erase_cg (by omega), if_neg (by omega)]
  · rw [if_neg (by omega), if_neg h2]
    obtain ⟨s2, he2, hrun2, hs2⟩ := inkD_eq (out := out ++ s) hg1 h5 h6
    rw [he2]
    have hg2 : GoodG { g with row := (r : Int), col := (c : Int), ink := k.ink, bold := k.bold } := hg.with rfl hg.all ⟨by omega, hr⟩ ⟨by omega, by omega⟩ ⟨h5, h6⟩ ⟨hg.t1, hg.t2, hg.b2⟩
    have hrun3 := show_runs hg2 hc h3 h4
    simp only [hp] at hrun3
    rw [wrD_eq hrun3]
    refine ⟨?_, rfl, rfl, ⟨s ++ s2 ++ [byteN k.ch], by simp, (hrun.append hrun2).append hrun3, ?_⟩, ?_, ?_⟩
    · refine hg2.with (List.length_set ..) (AllG.set hg2.all ?_ _) ⟨by show (0 : Int) ≤ r; omega, hr⟩ ⟨by show (0 : Int) ≤ c + 1; omega, by show (c : Int) + 1 ≤ g.wide; omega⟩ ⟨h5, h6⟩ ⟨hg.t1, hg.t2, hg.b2⟩
      rw [← h7]; exact hk
    · simp only [List.length_append, List.length_cons, List.length_nil]
      exact ⟨fun h1 h2 => by have := hmv2 h1 h2; omega, .inr ⟨by omega, by first | trivial | rfl, by first | trivial | rfl⟩⟩
    · show cg (g.cells.set _ _) _ = k
      rw [cg_set hin, if_pos rfl, ← h7]
    · intro j hj
      show cg (g.cells.set _ _) _ = _
      rw [cg_set hin, if_neg (by omega)]

/-- The bytes so far, twice: per row, and per cell of the row that is drawn. -/
def boundD (w r c : Nat) (g : Gr) : Nat := r * (31 * w + 5) + 31 * c + if 0 < c ∧ g.row = r ∧ g.col = c then 5 else 0

structure TurnI (frm to : Gr) (w r c : Nat) (x : Gr × Bs) : Prop where
  good : GoodG x.1
  wide : x.1.wide = frm.wide
  high : x.1.high = frm.high
  runs : Runs frm x.2 x.1
  done : ∀ j, j < r * w + c → cg x.1.cells j = cg to.cells j
  few : 2 * x.2.length ≤ boundD w r c x.1

theorem turn_step {frm to : Gr} (h : mayTurn frm to) {r c : Nat} {x : Gr × Bs} (hr : (r : Int) < to.high) (hc : (c : Int) < to.wide) (hx : TurnI frm to to.wide.toNat r c x) :
    if c + 1 < to.wide.toNat then TurnI frm to to.wide.toNat r (c + 1) (turnCell to x (r * to.wide.toNat + c)) else TurnI frm to to.wide.toNat (r + 1) 0 (turnCell to x (r * to.wide.toNat + c)) := by
  obtain ⟨hgf, hgt, hw, hh, hcol⟩ := h
  obtain ⟨g, out⟩ := x
  have hcw : c < to.wide.toNat := by omega
  have hgw : g.wide = to.wide := hx.wide.trans hw
  have hgh : g.high = to.high := hx.high.trans hh
  have hlen := cells_len hgt
  have hin : r * to.wide.toNat + c < to.cells.length := by
    rw [hlen]
    exact row_lt hcw (by omega)
  -- what holds behind the cell, whichever way
  have key : ∃ y, turnCell to (g, out) (r * to.wide.toNat + c) = y ∧ GoodG y.1 ∧ y.1.wide = frm.wide ∧ y.1.high = frm.high ∧ Runs frm y.2 y.1 ∧ (∀ j, j < r * to.wide.toNat + (c + 1) → cg y.1.cells j = cg to.cells j) ∧
      (2 * y.2.length ≤ r * (31 * to.wide.toNat + 5) + 31 * (c + 1) ∨ (2 * y.2.length ≤ r * (31 * to.wide.toNat + 5) + 31 * (c + 1) + 5 ∧ y.1.row = r ∧ y.1.col = (c + 1 : Nat))) := by
    have hfew := hx.few
    unfold boundD at hfew
    simp only at hfew
    unfold turnCell
    split
    · next he =>
      refine ⟨_, rfl, hx.good, hx.wide, hx.high, hx.runs, fun j hj => ?_, .inl ?_⟩
      · rcases (by omega : j < r * to.wide.toNat + c ∨ j = r * to.wide.toNat + c) with h | rfl
        · exact hx.done j h
        · exact he
      · simp only
        split at hfew <;> omega
    · rw [row_div hcw, row_mod hcw]
      have hp := cell_law (out := out) hx.good (r := r) (c := c) (by rw [hgh]; exact hr) (by rw [hgw]; exact hc) (AllG.cg hgt.all (r * to.wide.toNat + c))
      generalize cellD (g, out) (r : Int) (c : Int) (cg to.cells (r * to.wide.toNat + c)) = y at hp
      obtain ⟨p1, p2, p3, ⟨s, p4, p5, p6, p6'⟩, p7, p8⟩ := hp
      rw [hgw] at p7 p8
      refine ⟨_, rfl, p1, p2.trans hx.wide, p3.trans hx.high, by rw [p4]; exact hx.runs.append p5, fun j hj => ?_, ?_⟩
      · rcases (by omega : j < r * to.wide.toNat + c ∨ j = r * to.wide.toNat + c) with h | rfl
        · rw [p8 j h]; exact hx.done j h
        · exact p7
      · rw [p4, List.length_append]
        by_cases hat : g.row = r ∧ g.col = c
        · have := p6 hat.1 hat.2
          left; split at hfew <;> omega
        · rw [if_neg (by omega)] at hfew
          rcases p6' with h | ⟨h, h1, h2⟩
          · left; omega
          · right; exact ⟨by omega, h1, by rw [h2]; omega⟩
  obtain ⟨y, hy, k1, k2, k3, k4, k5, k6⟩ := key
  rw [hy]
  split
  · refine ⟨k1, k2, k3, k4, k5, ?_⟩
    unfold boundD
    rcases k6 with h | ⟨h, h1, h2⟩
    · split <;> omega
    · rw [if_pos ⟨by omega, h1, h2⟩]; exact h
  · refine ⟨k1, k2, k3, k4, fun j hj => k5 j ?_, ?_⟩
    · rw [Nat.add_mul] at hj; omega
    · unfold boundD
      rw [if_neg (by omega), Nat.add_mul]
      have : c + 1 = to.wide.toNat := by omega
      rw [this] at k6
      rcases k6 with h | ⟨h, _⟩ <;> omega

theorem turn_rows {frm to : Gr} (h : mayTurn frm to) : ∀ n r c : Nat, n = r * to.wide.toNat + c → c < to.wide.toNat → n ≤ to.wide.toNat * to.high.toNat → TurnI frm to to.wide.toNat r c (turnCells to (frm, []) n)
  | 0, r, c, hn, hc, _ => by
    have hw : 0 < to.wide.toNat := by omega
    have hr : r = 0 := by
      rcases Nat.eq_zero_or_pos r with h | h
      · exact h
      · have := Nat.mul_pos h hw; omega
    subst hr
    have hc0 : c = 0 := by omega
    subst hc0
    exact ⟨h.1, rfl, rfl, Runs.nil _, fun j hj => by omega, by simp [turnCells]⟩
  | n + 1, r, c, hn, hc, hle => by
    have hw : 0 < to.wide.toNat := by omega
    have hmul : ∀ q s, n = q * to.wide.toNat + s → s < to.wide.toNat → (q : Int) < to.high := fun q s e hs => by
      have h1 : q * to.wide.toNat < to.high.toNat * to.wide.toNat := by rw [Nat.mul_comm to.high.toNat]; omega
      have := Nat.lt_of_mul_lt_mul_right h1
      omega
    rcases Nat.eq_zero_or_pos c with h0 | h0
    · subst h0
      cases r with
      | zero => omega
      | succ r =>
        rw [Nat.add_mul] at hn
        have ih := turn_rows h n r (to.wide.toNat - 1) (by omega) (by omega) (by omega)
        have st := turn_step h (r := r) (c := to.wide.toNat - 1) (hmul r (to.wide.toNat - 1) (by omega) (by omega)) (by omega) ih
        rw [if_neg (by omega)] at st
        rw [turnCells, show n = r * to.wide.toNat + (to.wide.toNat - 1) by omega]
        rwa [show n = r * to.wide.toNat + (to.wide.toNat - 1) by omega] at st
    · have ih := turn_rows h n r (c - 1) (by omega) (by omega) (by omega)
      have st := turn_step h (r := r) (c := c - 1) (hmul r (c - 1) (by omega) (by omega)) (by omega) ih
      rw [if_pos (by omega), show c - 1 + 1 = c by omega] at st
      rw [turnCells]
      have e : n = r * to.wide.toNat + (c - 1) := by omega
      rwa [← e] at st

structure TurnPost (frm to : Gr) (x : Gr × Bs) : Prop where
  good : GoodG x.1
  wide : x.1.wide = to.wide
  high : x.1.high = to.high
  runs : Runs frm x.2 x.1
  cells : x.1.cells = to.cells
  row : x.1.row = to.row
  col : x.1.col = to.col
  few : x.2.length ≤ 3900

/-- The bytes make the screen that is wanted. -/
theorem turn_law {frm to : Gr} (h : mayTurn frm to) : TurnPost frm to (turnD frm to) := by
  have hw1 := h.2.1.w1
  have hw2 := h.2.1.w2
  have hh1 := h.2.1.h1
  have hh2 := h.2.1.h2
  have hI := turn_rows h (to.wide.toNat * to.high.toNat) to.high.toNat 0 (by rw [Nat.mul_comm]; omega) (by omega) (Nat.le_refl _)
  unfold turnD
  generalize turnCells to (frm, []) (to.wide.toNat * to.high.toNat) = x at hI
  obtain ⟨g, out⟩ := x
  obtain ⟨i1, i2, i3, i4, i5, i6⟩ := hI
  simp only at i1 i2 i3 i4 i5 i6
  have hgw : g.wide = to.wide := i2.trans h.2.2.1
  have hgh : g.high = to.high := i3.trans h.2.2.2.1
  have hr := h.2.1.r1
  have hr2 := h.2.1.r2
  have hc := h.2.1.c1
  have hc2 := h.2.2.2.2
  obtain ⟨s, e1, e2, e3, _⟩ := moveD_eq (out := out) i1 (r := to.row) (c := to.col) ⟨hr, by omega⟩ ⟨hc, by omega⟩
  rw [e1]
  have hl1 := cells_len i1
  have hl2 := cells_len h.2.1
  refine ⟨i1.with rfl i1.all ⟨hr, by omega⟩ ⟨hc, by omega⟩ ⟨i1.i1, i1.i2⟩ ⟨i1.t1, i1.t2, i1.b2⟩, hgw, hgh, i4.append e2, ?_, rfl, rfl, ?_⟩
  · refine cg_ext (by show g.cells.length = _; rw [hl1, hl2, hgw, hgh]) fun j hj => i5 j ?_
    have : g.cells.length = to.high.toNat * to.wide.toNat := by rw [hl1, hgw, hgh]
    show j < _
    have hj' : j < g.cells.length := hj
    omega
  · rw [List.length_append]
    unfold boundD at i6
    simp only [Nat.lt_irrefl, false_and, if_false] at i6
    have := Nat.mul_le_mul (show to.high.toNat ≤ 10 by omega) (show 31 * to.wide.toNat + 5 ≤ 749 by omega)
    omega

/-- Anew: whatever was shown. -/
theorem anew_law {frm to : Gr} (hf : GoodG frm) (h : GoodG to) (hc : to.col < to.wide) (hw : frm.wide = to.wide) (hh : frm.high = to.high) :
    Runs frm ([27, 99] ++ (turnD (newG to.wide to.high) to).2) (turnD (newG to.wide to.high) to).1 ∧ TurnPost (newG to.wide to.high) to (turnD (newG to.wide to.high) to) := by
  have hs := new_sides h
  have hm : mayTurn (newG to.wide to.high) to := ⟨new_ok' _ _, h, hs.wide, hs.high, hc⟩
  have hp := turn_law hm
  refine ⟨Runs.append ?_ hp.runs, hp⟩
  have hd : doG frm ⟨5, 0, [], noBytes⟩ = (newG to.wide to.high, 0) := by
    rw [do_good_eq hf]
    dsimp only
    rw [if_neg (by omega), if_neg (by omega), if_neg (by omega), if_neg (by omega), if_pos rfl, hw, hh]
  have := Runs.one (s := [27, 99]) hf (e := ⟨5, 0, [], noBytes⟩) (by rfl) (by rw [hd])
  rwa [hd] at this

end Go.Proofs.YtkmmphkjmamckabDoor

/-
  The server, plainly: a law without the program.
-/
namespace Go.Proofs.YtkmmphkjmamckabDoor
open Go
set_option linter.all false

structure Ct where
  here : Bool
  shown : Gr
  queue : Bs
  lost : Bool

abbrev Ct.zero : Ct := ⟨false, .zero, [], false⟩

structure Sv where
  v : Vw
  parsers : List Pr
  clients : List Ct
  acts : Int

structure Ac where
  kind : Int
  p : Int
  n : Int
  m : Int
  bytes : Bs

structure Rp where
  code : Int
  n : Int
  out : Bs

abbrev Rp.no (e : Int) : Rp := ⟨e, 0, []⟩

abbrev gridOf (v : Vw) (p : Nat) : Gr := v.grids.getD p .zero
abbrev parserOf (s : Sv) (p : Nat) : Pr := s.parsers.getD p .zero
abbrev clientOf (s : Sv) (c : Nat) : Ct := s.clients.getD c .zero

/-- A pane's screen, brought to the sides of its place. -/
def fitG (t : Cols) (wide high : Int) (p : Nat) (g : Gr) : Gr :=
  if hasT t p = false then .zero
  else
    let w := max 1 (whereT t wide high p).wide
    let h := max 1 (whereT t wide high p).high
    if g.wide = 0 then newG w h else if g.wide ≠ w ∨ g.high ≠ h then (resizeG g w h).1 else g

def fitGrids (v : Vw) : List Gr := (List.range 6).map fun p => fitG v.cols v.wide v.high p (gridOf v p)
def fitParsers (t : Cols) (l : List Pr) : List Pr := (List.range 6).map fun p : Nat => if hasT t p = true then l.getD p .zero else .zero

def fitS (s : Sv) : Sv := { s with v := { s.v with grids := fitGrids s.v }, parsers := fitParsers s.v.cols s.parsers }

def newS : Sv := fitS ⟨⟨[[0]], List.replicate 6 .zero, 20, 7, 0⟩, List.replicate 6 .zero, List.replicate 3 .zero, 0⟩

/-- The first number that is free. -/
def freePane (t : Cols) : Option Nat := [0, 1, 2, 3, 4, 5].find? fun n : Nat => !hasT t n

def splitS (s : Sv) (a : Ac) : Sv × Rp :=
  match freePane s.v.cols with
  | none => (s, .no 5)
  | some n =>
    let r := splitT s.v.cols a.p n (decide (a.n = 1))
    if r.2 ≠ 0 then (s, .no r.2) else (fitS { s with v := { s.v with cols := r.1, focus := n } }, ⟨0, n, []⟩)

def killS (s : Sv) (p : Int) : Sv × Rp :=
  let r := killT s.v.cols p
  if r.2 ≠ 0 then (s, .no r.2) else (fitS { s with v := { s.v with cols := r.1, focus := if s.v.focus = p then (r.1.getD 0 []).getD 0 0 else s.v.focus } }, .no 0)

def outputS (s : Sv) (p : Nat) (b : Bs) : Sv :=
  { s with v := { s.v with grids := s.v.grids.set p (allG (gridOf s.v p) (feedP (parserOf s p) b).2).1 }, parsers := s.parsers.set p (feedP (parserOf s p) b).1 }

/-- The bytes of Anew, and the screen behind them. -/
def anewD (to : Gr) : Gr × Bs := ((turnD (newG to.wide to.high) to).1, [27, 99] ++ (turnD (newG to.wide to.high) to).2)

def showS (v : Vw) (c : Ct) : Ct :=
  if c.here = false ∨ (c.lost = true ∧ c.queue ≠ []) then c
  else
    let to := screenV v c.shown.wide c.shown.high
    let r := if c.lost = true then anewD to else turnD c.shown to
    if 4000 - (c.queue.length : Int) < (r.2.length : Int) then { c with lost := true } else ⟨c.here, r.1, c.queue ++ r.2, false⟩

def sidesOk (n m : Int) : Prop := 1 ≤ n ∧ n ≤ 24 ∧ 1 ≤ m ∧ m ≤ 10

def drainN (n : Int) (q : Bs) : Nat := (max 0 (min n q.length)).toNat

def visitS (s : Sv) (a : Ac) : Sv × Rp :=
  if a.p < 0 ∨ 3 ≤ a.p then (s, .no 3)
  else
    let c := clientOf s a.p.toNat
    if a.kind = 6 then
      if c.here = true then (s, .no 4)
      else if a.n < 1 ∨ 24 < a.n ∨ a.m < 1 ∨ 10 < a.m then (s, .no 1)
      else ({ s with clients := s.clients.set a.p.toNat ⟨true, newG a.n a.m, [], true⟩ }, .no 0)
    else if c.here = false then (s, .no 3)
    else if a.kind = 7 then ({ s with clients := s.clients.set a.p.toNat .zero }, .no 0)
    else ({ s with clients := s.clients.set a.p.toNat { c with queue := c.queue.drop (drainN a.n c.queue) } }, ⟨0, drainN a.n c.queue, c.queue.take (drainN a.n c.queue)⟩)

def tickS (s : Sv) : Sv := { s with clients := s.clients.map (showS s.v) }

def actS (s : Sv) (a : Ac) : Sv × Rp :=
  if a.kind = 1 then splitS s a
  else if a.kind = 2 then killS s a.p
  else if a.kind = 3 ∨ a.kind = 4 then
    if hasT s.v.cols a.p = false then (s, .no 3)
    else if a.kind = 4 then ({ s with v := { s.v with focus := a.p } }, .no 0)
    else (outputS s a.p.toNat a.bytes, .no 0)
  else if a.kind = 5 then
    if a.n < 1 ∨ 24 < a.n ∨ a.m < 1 ∨ 10 < a.m then (s, .no 1)
    else (fitS { s with v := { s.v with wide := a.n, high := a.m } }, .no 0)
  else if a.kind = 8 then (tickS s, .no 0)
  else if a.kind = 6 ∨ a.kind = 7 ∨ a.kind = 9 then visitS s a
  else (s, .no 2)

def doS (s : Sv) (a : Ac) : Sv × Rp := if 300 ≤ s.acts then (s, .no 5) else actS { s with acts := s.acts + 1 } a

/-! ### What always holds -/

structure GridOk (t : Cols) (wide high : Int) (p : Nat) (g : Gr) : Prop where
  off : hasT t p = false → g = .zero
  on : hasT t p = true → GoodG g ∧ g.wide = max 1 (whereT t wide high p).wide ∧ g.high = max 1 (whereT t wide high p).high

structure CtOk (c : Ct) : Prop where
  off : c.here = false → c = .zero
  on : c.here = true → GoodG c.shown ∧ c.queue.length ≤ 4000

structure InvS (s : Sv) : Prop where
  cols : GoodT s.v.cols
  focus : hasT s.v.cols s.v.focus = true
  sides : sidesOk s.v.wide s.v.high
  gl : s.v.grids.length = 6
  pl : s.parsers.length = 6
  cl : s.clients.length = 3
  grids : ∀ p, p < 6 → GridOk s.v.cols s.v.wide s.v.high p (gridOf s.v p)
  parsers : ∀ p, p < 6 → GoodP (parserOf s p) ∧ (hasT s.v.cols p = false → parserOf s p = .zero)
  clients : ∀ c, c < 3 → CtOk (clientOf s c)

theorem getD_map_range {α : Type} {n i : Nat} (f : Nat → α) (d : α) (h : i < n) : ((List.range n).map f).getD i d = f i := by
  simp [List.getD_eq_getElem?_getD, h]

theorem getD_set {α : Type} {l : List α} {i j : Nat} (x d : α) (h : i < l.length) : (l.set i x).getD j d = if j = i then x else l.getD j d := by
  simp only [List.getD_eq_getElem?_getD]
  split
  · next e => subst e; simp [h]
  · next e => rw [List.getElem?_set_ne (fun h => e h.symm)]

theorem getD_map {α β : Type} {l : List α} {i : Nat} (f : α → β) (d : α) (e : β) (h : i < l.length) : (l.map f).getD i e = f (l.getD i d) := by
  simp [List.getD_eq_getElem?_getD, h]

/-- Where a pane has a place on a screen of sides that may be, it is no larger than a screen may be. -/
theorem where_few {t : Cols} {wide high p : Int} (h : sidesOk wide high) : (whereT t wide high p).wide ≤ 24 ∧ (whereT t wide high p).high ≤ 10 := by
  have := where_in t wide high p
  obtain ⟨h1, h2, h3, h4⟩ := h
  omega

theorem fit_ok {t : Cols} {wide high : Int} (h : sidesOk wide high) {p : Nat} {g : Gr} (hg : g = .zero ∨ GoodG g) : GridOk t wide high p (fitG t wide high p g) := by
  have hf := where_few (t := t) (p := p) h
  unfold fitG
  refine ⟨fun ho => by rw [if_pos ho], fun ho => ?_⟩
  rw [if_neg (by rw [ho]; simp)]
  dsimp only
  by_cases h0 : g.wide = 0
  · rw [if_pos h0]
    refine ⟨new_ok' _ _, ?_, ?_⟩
    · show max 1 (min (max 1 _) 24) = _; omega
    · show max 1 (min (max 1 _) 10) = _; omega
  · rw [if_neg h0]
    have hg' : GoodG g := hg.resolve_left fun e => h0 (by rw [e])
    split
    · have hr := resize_law hg' (max 1 (whereT t wide high p).wide) (max 1 (whereT t wide high p).high)
      refine ⟨hr.2.1, ?_, ?_⟩
      · rw [hr.2.2.1]; omega
      · rw [hr.2.2.2.1]; omega
    · next hs => exact ⟨hg', by apply Classical.byContradiction; intro hn; exact hs (.inl hn), by apply Classical.byContradiction; intro hn; exact hs (.inr hn)⟩

theorem has_pane {t : Cols} (h : GoodT t) {p : Int} (hp : hasT t p = true) : 0 ≤ p ∧ p < 6 := by
  have := h.pane p (by simpa [hasT, List.contains_iff_mem] using hp)
  simpa [isPane] using this

/-- What holds once all is brought to its sides. -/
theorem fitS_ok {s : Sv} (hc : GoodT s.v.cols) (hf : hasT s.v.cols s.v.focus = true) (hs : sidesOk s.v.wide s.v.high) (hg : ∀ p, p < 6 → gridOf s.v p = .zero ∨ GoodG (gridOf s.v p)) (hp : ∀ p, p < 6 → GoodP (parserOf s p)) (hl : s.clients.length = 3) (hcl : ∀ c, c < 3 → CtOk (clientOf s c)) : InvS (fitS s) := by
  refine ⟨hc, hf, hs, by simp [fitS, fitGrids], by simp [fitS, fitParsers], hl, fun p h6 => ?_, fun p h6 => ?_, hcl⟩
  · have : gridOf (fitS s).v p = fitG s.v.cols s.v.wide s.v.high p (gridOf s.v p) := getD_map_range _ _ h6
    rw [this]
    exact fit_ok hs (hg p h6)
  · have : parserOf (fitS s) p = if hasT s.v.cols p = true then s.parsers.getD p .zero else .zero := getD_map_range _ _ h6
    rw [this]
    split
    · next h => exact ⟨hp p h6, fun hn => by rw [show hasT s.v.cols p = false from hn] at h; cases h⟩
    · exact ⟨GoodP.zero, fun _ => rfl⟩

theorem GridOk.zero_or {t : Cols} {wide high : Int} {p : Nat} {g : Gr} (h : GridOk t wide high p g) : g = .zero ∨ GoodG g := by
  cases hh : hasT t p with
  | false => exact .inl (h.off hh)
  | true => exact .inr (h.on hh).1

theorem newS_ok : InvS newS := by
  refine fitS_ok (s := ⟨⟨[[0]], List.replicate 6 .zero, 20, 7, 0⟩, List.replicate 6 .zero, List.replicate 3 .zero, 0⟩) (goodT_iff.1 (by decide)) (by decide) (by simp [sidesOk]) (fun p h => ?_) (fun p h => ?_) rfl fun c h => ?_
  · left
    simp only [gridOf, List.getD_eq_getElem?_getD, List.getElem?_replicate, h, if_true, Option.getD_some]
  · simp only [parserOf, List.getD_eq_getElem?_getD, List.getElem?_replicate, h, if_true, Option.getD_some]
    exact GoodP.zero
  · simp only [clientOf, List.getD_eq_getElem?_getD, List.getElem?_replicate, h, if_true, Option.getD_some]
    exact ⟨fun _ => rfl, fun h => by cases h⟩

/-! ### Events that a parser tells do no wrong -/

theorem step_told (p : Pr) (c : Int) : (stepP p c).2.kind = 0 ∨ ((stepP p c).2.kind = 1 ∧ 32 ≤ (stepP p c).2.b ∧ (stepP p c).2.b ≤ 126) ∨ (2 ≤ (stepP p c).2.kind ∧ (stepP p c).2.kind ≤ 5) := by
  unfold stepP cmdP
  repeat' split
  all_goals simp [Ev.none]
  all_goals omega

def EvOk (e : Ev) : Prop := (e.kind = 1 ∧ 32 ≤ e.b ∧ e.b ≤ 126) ∨ (2 ≤ e.kind ∧ e.kind ≤ 5)

theorem feed_told : ∀ (l : Bs) (p : Pr), ∀ e ∈ (feedP p l).2, EvOk e
  | [], _, e, h => by simp [feedP] at h
  | b :: l, p, e, h => by
    simp only [feedP, List.mem_append] at h
    rcases h with h | h
    · split at h
      · simp at h
      · next hk =>
        simp only [List.mem_singleton] at h
        rw [h]
        exact (step_told p b.toNat).resolve_left hk
    · exact feed_told l _ e h

theorem do_told {g : Gr} (hg : GoodG g) {e : Ev} (he : EvOk e) : (doG g e).2 = 0 := by
  unfold EvOk at he
  rw [do_good_eq hg]
  by_cases h1 : e.kind = 1
  · rw [if_pos h1, if_neg (by omega)]
  rw [if_neg h1]
  by_cases h1 : e.kind = 2
  · rw [if_pos h1]
  rw [if_neg h1]
  by_cases h1 : e.kind = 3
  · rw [if_pos h1]
  rw [if_neg h1]
  by_cases h1 : e.kind = 4
  · rw [if_pos h1]
  rw [if_neg h1, if_pos (by omega)]

theorem all_told : ∀ (l : List Ev) {g : Gr}, GoodG g → (∀ e ∈ l, EvOk e) → (allG g l).2 = 0 ∧ GoodG (allG g l).1 ∧ Sides g (allG g l).1
  | [], g, hg, _ => ⟨rfl, hg, rfl, rfl⟩
  | e :: l, g, hg, h => by
    have h0 := do_told hg (h e List.mem_cons_self)
    have ho := do_ok' hg e
    have ih := all_told l ho.1 fun x hx => h x (List.mem_cons_of_mem _ hx)
    unfold allG
    rw [if_pos h0]
    exact ⟨ih.1, ih.2.1, ih.2.2.wide.trans ho.2.wide, ih.2.2.high.trans ho.2.high⟩

theorem all_feed {g : Gr} (hg : GoodG g) (p : Pr) (b : Bs) : (allG g (feedP p b).2).2 = 0 ∧ GoodG (allG g (feedP p b).2).1 ∧ Sides g (allG g (feedP p b).2).1 := all_told _ hg (feed_told b p)

/-! ### What is to be seen is a screen -/

theorem goodC_sign {c : Int} (h0 : 32 ≤ c) (h1 : c < 127) : goodC (sign c) = true := by
  unfold goodC sign
  simp only [Bool.and_eq_true, decide_eq_true_eq, if_true]
  exact ⟨by decide, .inr ⟨h0, h1⟩⟩

theorem status_good (t : Cols) (focus col : Int) : goodC (statusV t focus col) = true := by
  unfold statusV
  split
  · unfold goodC
    simp only [Bool.and_eq_true, decide_eq_true_eq, if_true]
    exact ⟨by decide, .inr (by omega)⟩
  · exact goodC_sign (by decide) (by decide)

theorem at_good {g : Gr} (h : g = .zero ∨ GoodG g) (r c : Int) : goodC (atG g r c) = true := by
  unfold atG
  split
  · rcases h with rfl | h
    · simp [goodC]
    · exact AllG.cg h.all _
  · rfl

theorem cell_good {v : Vw} (h : ∀ p, p < 6 → gridOf v p = .zero ∨ GoodG (gridOf v p)) (r c : Int) : goodC (cellV v r c) = true := by
  unfold cellV
  split
  · exact goodC_sign (by decide) (by decide)
  · split
    · next p hp => exact at_good (h p (paneAt_in hp).1) _ _
    · split
      · exact goodC_sign (by decide) (by decide)
      · exact goodC_sign (by decide) (by decide)

theorem screen_good {v : Vw} (hg : ∀ p, p < 6 → gridOf v p = .zero ∨ GoodG (gridOf v p)) (wide high : Int) : GoodG (screenV v wide high) ∧ (screenV v wide high).col < (screenV v wide high).wide := by
  have hcur : ∀ w h : Int, 1 ≤ w → 1 ≤ h → 0 ≤ (cursorV v w h).1 ∧ (cursorV v w h).1 < h ∧ 0 ≤ (cursorV v w h).2 ∧ (cursorV v w h).2 < w := fun w h hw hh => by
    unfold cursorV
    split
    · simp only; omega
    · dsimp only
      split <;> (dsimp only; omega)
  have hc := hcur (max 1 (min wide 24)) (max 1 (min high 10)) (by omega) (by omega)
  unfold screenV
  dsimp only
  refine ⟨⟨?_, ?_, ?_, ?_, ?_, hc.1, hc.2.1, hc.2.2.1, Int.le_of_lt hc.2.2.2, Int.le_refl _, by show (0 : Int) ≤ 8; decide, Int.le_refl _, ?_, Int.le_refl _, ?_⟩, hc.2.2.2⟩
  · show (1 : Int) ≤ max 1 (min wide 24); omega
  · show max 1 (min wide 24) ≤ (24 : Int); omega
  · show (1 : Int) ≤ max 1 (min high 10); omega
  · show max 1 (min high 10) ≤ (10 : Int); omega
  · show ((screenCells _ _ _).length : Int) = max 1 (min wide 24) * max 1 (min high 10)
    rw [screen_len]
    have e1 : ((max 1 (min wide 24)).toNat : Int) = max 1 (min wide 24) := Int.toNat_of_nonneg (by omega)
    have e2 : ((max 1 (min high 10)).toNat : Int) = max 1 (min high 10) := Int.toNat_of_nonneg (by omega)
    push_cast
    rw [e1, e2]
  · show (0 : Int) < max 1 (min high 10); omega
  · refine AllG.tab fun i _ => ?_
    split
    · exact status_good _ _ _
    · exact cell_good hg _ _

end Go.Proofs.YtkmmphkjmamckabDoor

/-
  The server, plainly: what always holds, and what clients show.
-/
namespace Go.Proofs.YtkmmphkjmamckabDoor
open Go
set_option linter.all false

theorem killR_flat {p : Int} : ∀ t : Cols, (killR t p).flatten = t.flatten.filter (· ≠ p)
  | [] => rfl
  | c :: t => by
    have ih := killR_flat (p := p) t
    unfold killR at ih ⊢
    rw [List.map_cons, List.flatten_cons, List.filter_append, ← ih]
    cases hc : c.filter (· ≠ p) with
    | nil => rw [List.filter_cons_of_neg (by simp)]; simp
    | cons a b => rw [List.filter_cons_of_pos (by simp)]; simp

theorem filter_len {p : Int} {l : List Int} (hn : l.Nodup) : l.length ≤ (l.filter (· ≠ p)).length + 1 := by
  by_cases h : p ∈ l
  · rw [filter_in h hn, List.length_eraseIdx_of_lt (List.idxOf_lt_length_of_mem h)]; omega
  · rw [filter_not h]; omega

/-- What Kill answers when it is OK. -/
theorem kill_ok {t : Cols} {p : Int} (h : (killT t p).2 = 0) : GoodT t ∧ hasT t p = true ∧ 2 ≤ t.flatten.length ∧ (killT t p).1 = killR t p := by
  unfold killT at h
  by_cases h1 : goodT t = false
  · rw [if_pos h1] at h; cases h
  rw [if_neg h1] at h
  have hg : GoodT t := goodT_iff.1 (by simpa using h1)
  cases hf : findT t p with
  | none => rw [hf] at h; cases h
  | some x =>
    obtain ⟨i, k⟩ := x
    rw [hf] at h
    simp only at h
    by_cases h2 : t.length = 1 ∧ (t.getD 0 []).length = 1
    · rw [if_pos h2] at h; cases h
    have hh := has_find.2 ⟨i, k, hf⟩
    refine ⟨hg, hh, ?_, by rw [kill_eq hg hh h2]⟩
    cases t with
    | nil => exact (hg.some rfl).elim
    | cons c t =>
      have h1 := (hg.each c List.mem_cons_self).1
      cases t with
      | nil => simp at h2 ⊢; omega
      | cons d t =>
        have h3 := (hg.each d (by simp)).1
        simp; omega

theorem kill_good {t : Cols} {p : Int} (h : (killT t p).2 = 0) : GoodT (killT t p).1 ∧ hasT (killT t p).1 p = false ∧ (∀ q, q ≠ p → hasT (killT t p).1 q = hasT t q) ∧ hasT (killT t p).1 (((killT t p).1.getD 0 []).getD 0 0) = true := by
  obtain ⟨hg, hh, h2, he⟩ := kill_ok h
  rw [he]
  have hfl := killR_flat (p := p) t
  have hlen : 1 ≤ (killR t p).flatten.length := by
    rw [hfl]
    have := filter_len (p := p) hg.nodup
    omega
  have heach : ∀ c ∈ killR t p, 1 ≤ c.length ∧ c.length ≤ 3 := fun c hc => by
    unfold killR at hc
    rw [List.mem_filter, List.mem_map] at hc
    obtain ⟨⟨d, hd, rfl⟩, hne⟩ := hc
    have := (hg.each d hd).2
    have := List.length_filter_le (fun x => decide (x ≠ p)) d
    refine ⟨?_, by omega⟩
    cases hx : d.filter (· ≠ p) with
    | nil => rw [hx] at hne; simp at hne
    | cons _ _ => simp
  have hne : killR t p ≠ [] := fun e => by rw [e] at hlen; simp at hlen
  refine ⟨⟨heach, fun q hq => ?_, ?_, hne⟩, ?_, fun q hq => ?_, ?_⟩
  · rw [hfl, List.mem_filter] at hq
    exact hg.pane q hq.1
  · rw [hfl]; exact hg.nodup.filter _
  · unfold hasT
    rw [hfl]
    cases hx : (t.flatten.filter (· ≠ p)).contains p with
    | false => rfl
    | true => rw [List.contains_iff_mem, List.mem_filter] at hx; simp at hx
  · unfold hasT
    rw [hfl, Bool.eq_iff_iff, List.contains_iff_mem, List.contains_iff_mem, List.mem_filter]
    simp [hq]
  · cases hk : killR t p with
    | nil => exact (hne hk).elim
    | cons c l =>
      have := (heach c (by rw [hk]; simp)).1
      cases c with
      | nil => simp at this
      | cons a c => simp [hasT]

/-! ### What a client shows -/

structure Tm where
  p : Pr
  g : Gr

abbrev Tm.zero : Tm := ⟨.zero, .zero⟩

def getT (t : Tm) (s : Bs) : Tm := ⟨(feedP t.p s).1, (allG t.g (feedP t.p s).2).1⟩

/-- Once it has all that waits, it shows what its server thinks. -/
structure TmOk (c : Ct) (t : Tm) : Prop where
  pr : GoodP t.p
  gr : t.g = .zero ∨ GoodG t.g
  on : c.here = true → GoodG t.g ∧ getT t c.queue = ⟨.zero, c.shown⟩

theorem getT_append {t : Tm} (h : GoodG t.g) (a b : Bs) : getT t (a ++ b) = getT (getT t a) b := by
  unfold getT
  rw [feed_append]
  dsimp only
  rw [all_append _ _ _ (all_feed h _ _).1]

theorem getT_good {t : Tm} (h : GoodG t.g) (hp : GoodP t.p) (s : Bs) : GoodG (getT t s).g ∧ GoodP (getT t s).p ∧ Sides t.g (getT t s).g :=
  ⟨(all_feed h _ _).2.1, feed_good s hp, (all_feed h _ _).2.2⟩

theorem Runs.get {g g' : Gr} {s : Bs} (h : Runs g s g') : getT ⟨.zero, g⟩ s = ⟨.zero, g'⟩ := by
  obtain ⟨evs, h1, h2⟩ := h
  unfold getT
  dsimp only
  rw [h1]
  dsimp only
  rw [h2]

/-- What showing a client what is comes to. -/
structure Shown (v : Vw) (c c' : Ct) : Prop where
  here : c'.here = c.here
  sides : Sides c.shown c'.shown
  ok : CtOk c'
  grow : c' = c ∨ (c' = { c with lost := true } ∧ c.queue ≠ []) ∨ (c'.lost = false ∧ ∃ b, c'.queue = c.queue ++ b ∧ Runs c.shown b c'.shown)
  sees : c'.here = true → c'.lost = false → c'.shown.cells = (screenV v c'.shown.wide c'.shown.high).cells ∧ c'.shown.row = (screenV v c'.shown.wide c'.shown.high).row ∧ c'.shown.col = (screenV v c'.shown.wide c'.shown.high).col
  clean : c.here = true → c.queue = [] → c'.lost = false

theorem screen_sides {v : Vw} {g : Gr} (h : GoodG g) : (screenV v g.wide g.high).wide = g.wide ∧ (screenV v g.wide g.high).high = g.high := by
  have := h.w1
  have := h.w2
  have := h.h1
  have := h.h2
  unfold screenV
  dsimp only
  omega

theorem show_law {v : Vw} (hg : ∀ p, p < 6 → gridOf v p = .zero ∨ GoodG (gridOf v p)) {c : Ct} (hc : CtOk c) : Shown v c (showS v c) := by
  unfold showS
  by_cases h1 : c.here = false ∨ (c.lost = true ∧ c.queue ≠ [])
  · rw [if_pos h1]
    refine ⟨rfl, ⟨rfl, rfl⟩, hc, .inl rfl, fun hh hl => ?_, fun hh hq => ?_⟩
    · rcases h1 with h1 | h1
      · rw [h1] at hh; cases hh
      · rw [h1.1] at hl; cases hl
    · rcases h1 with h1 | h1
      · rw [h1] at hh; cases hh
      · exact (h1.2 hq).elim
  rw [if_neg h1]
  have hh : c.here = true := by cases hx : c.here with | true => rfl | false => exact (h1 (.inl hx)).elim
  obtain ⟨hs, hq⟩ := hc.on hh
  have hw := screen_good hg c.shown.wide c.shown.high
  have hsd := screen_sides (v := v) hs
  dsimp only
  -- the bytes, whichever way
  have key : ∀ r : Gr × Bs, r = (if c.lost = true then anewD (screenV v c.shown.wide c.shown.high) else turnD c.shown (screenV v c.shown.wide c.shown.high)) → GoodG r.1 ∧ r.1.wide = c.shown.wide ∧ r.1.high = c.shown.high ∧ Runs c.shown r.2 r.1 ∧ r.2.length ≤ 3902 ∧ r.1.cells = (screenV v c.shown.wide c.shown.high).cells ∧ r.1.row = (screenV v c.shown.wide c.shown.high).row ∧ r.1.col = (screenV v c.shown.wide c.shown.high).col := by
    rintro r rfl
    split
    · have ha := anew_law hs hw.1 hw.2 hsd.1.symm hsd.2.symm
      have hp := ha.2
      exact ⟨hp.good, hp.wide.trans hsd.1, hp.high.trans hsd.2, ha.1, by have := hp.few; simp only [anewD, List.length_append, List.length_cons, List.length_nil]; omega, hp.cells, hp.row, hp.col⟩
    · have hp := turn_law ⟨hs, hw.1, hsd.1.symm, hsd.2.symm, hw.2⟩
      exact ⟨hp.good, hp.wide.trans hsd.1, hp.high.trans hsd.2, hp.runs, by have := hp.few; omega, hp.cells, hp.row, hp.col⟩
  have k := key _ rfl
  generalize (if c.lost = true then anewD (screenV v c.shown.wide c.shown.high) else turnD c.shown (screenV v c.shown.wide c.shown.high)) = r at k
  obtain ⟨k1, k2, k3, k4, k5, k6, k7, k8⟩ := k
  by_cases h2 : 4000 - (c.queue.length : Int) < (r.2.length : Int)
  · rw [if_pos h2]
    have hne : c.queue ≠ [] := fun e => by rw [e] at h2; simp at h2; omega
    exact ⟨rfl, ⟨rfl, rfl⟩, ⟨fun h => (by rw [show c.here = false from h] at hh; cases hh), fun _ => ⟨hs, hq⟩⟩, .inr (.inl ⟨rfl, hne⟩), fun _ hl => (by cases hl), fun _ he => (hne he).elim⟩
  · rw [if_neg h2]
    refine ⟨rfl, ⟨k2, k3⟩, ⟨fun h => (by rw [show c.here = false from h] at hh; cases hh), fun _ => ⟨k1, ?_⟩⟩, .inr (.inr ⟨rfl, r.2, rfl, k4⟩), fun _ _ => ?_, fun _ _ => rfl⟩
    · show (c.queue ++ r.2).length ≤ 4000
      rw [List.length_append]; omega
    · show r.1.cells = (screenV v r.1.wide r.1.high).cells ∧ _
      rw [k2, k3]
      exact ⟨k6, k7, k8⟩

theorem show_tm {v : Vw} {c c' : Ct} {t : Tm} (h : Shown v c c') (ht : TmOk c t) : TmOk c' t := by
  refine ⟨ht.pr, ht.gr, fun hh => ?_⟩
  obtain ⟨h1, h2⟩ := ht.on (by rw [← h.here]; exact hh)
  refine ⟨h1, ?_⟩
  rcases h.grow with rfl | ⟨rfl, _⟩ | ⟨_, b, hb, hr⟩
  · exact h2
  · exact h2
  · rw [hb, getT_append h1, h2, hr.get]

/-! ### Acts -/

theorem InvS.acts {s : Sv} (h : InvS s) (n : Int) : InvS { s with acts := n } := ⟨h.cols, h.focus, h.sides, h.gl, h.pl, h.cl, h.grids, h.parsers, h.clients⟩

theorem InvS.grid_or {s : Sv} (h : InvS s) (p : Nat) (hp : p < 6) : gridOf s.v p = .zero ∨ GoodG (gridOf s.v p) := (h.grids p hp).zero_or

theorem InvS.fit {s : Sv} (h : InvS s) {t : Cols} {w k f : Int} (ht : GoodT t) (hf : hasT t f = true) (hs : sidesOk w k) : InvS (fitS { s with v := { s.v with cols := t, wide := w, high := k, focus := f } }) :=
  fitS_ok ht hf hs h.grid_or (fun p hp => (h.parsers p hp).1) h.cl h.clients

/-- Clients' things. -/
structure OnlyClients (s s' : Sv) : Prop where
  v : s'.v = s.v
  parsers : s'.parsers = s.parsers
  len : s'.clients.length = s.clients.length

theorem InvS.clientsWith {s s' : Sv} (h : InvS s) (ho : OnlyClients s s') (hc : ∀ c, c < 3 → CtOk (clientOf s' c)) : InvS s' := by
  obtain ⟨v, ps, cs, n⟩ := s'
  obtain ⟨h1, h2, h3⟩ := ho
  simp only at h1 h2 h3
  subst h1 h2
  exact ⟨h.cols, h.focus, h.sides, h.gl, h.pl, h3.trans h.cl, h.grids, h.parsers, hc⟩

theorem client_set {s : Sv} {i : Nat} {c : Ct} (hi : i < s.clients.length) (j : Nat) : clientOf { s with clients := s.clients.set i c } j = if j = i then c else clientOf s j := getD_set _ _ hi

theorem visit_only (s : Sv) (a : Ac) : OnlyClients s (visitS s a).1 ∧ (visitS s a).1.acts = s.acts := by
  unfold visitS
  dsimp only
  repeat' split
  all_goals exact ⟨⟨rfl, rfl, by simp⟩, rfl⟩

/-- What one visit makes of the clients. -/
theorem visit_law {s : Sv} (h : InvS s) (a : Ac) : ((visitS s a).2.code ≠ 0 ∧ (visitS s a).1 = s ∧ (visitS s a).2.n = 0 ∧ (visitS s a).2.out = []) ∨
    ((visitS s a).2.code = 0 ∧ 0 ≤ a.p ∧ a.p < 3 ∧ (∀ j, j ≠ a.p.toNat → clientOf (visitS s a).1 j = clientOf s j) ∧ CtOk (clientOf (visitS s a).1 a.p.toNat) ∧
      ((a.kind = 6 ∧ (clientOf s a.p.toNat).here = false ∧ clientOf (visitS s a).1 a.p.toNat = ⟨true, newG a.n a.m, [], true⟩ ∧ (visitS s a).2 = .no 0 ∧ sidesOk a.n a.m) ∨
       (a.kind = 7 ∧ clientOf (visitS s a).1 a.p.toNat = .zero ∧ (visitS s a).2 = .no 0) ∨
       (a.kind ≠ 6 ∧ a.kind ≠ 7 ∧ (clientOf s a.p.toNat).here = true ∧ clientOf (visitS s a).1 a.p.toNat = { clientOf s a.p.toNat with queue := (clientOf s a.p.toNat).queue.drop (drainN a.n (clientOf s a.p.toNat).queue) } ∧
          (visitS s a).2 = ⟨0, drainN a.n (clientOf s a.p.toNat).queue, (clientOf s a.p.toNat).queue.take (drainN a.n (clientOf s a.p.toNat).queue)⟩))) := by
  unfold visitS
  by_cases h1 : a.p < 0 ∨ 3 ≤ a.p
  · rw [if_pos h1]; exact .inl ⟨by show (3 : Int) ≠ 0; decide, rfl, rfl, rfl⟩
  rw [if_neg h1]
  dsimp only
  have hlt : a.p.toNat < s.clients.length := by rw [h.cl]; omega
  have hc := h.clients a.p.toNat (by omega)
  have oth : ∀ (x : Ct), ∀ j, j ≠ a.p.toNat → clientOf { s with clients := s.clients.set a.p.toNat x } j = clientOf s j := fun x j hj => by rw [client_set hlt, if_neg hj]
  have own : ∀ (x : Ct), clientOf { s with clients := s.clients.set a.p.toNat x } a.p.toNat = x := fun x => by rw [client_set hlt, if_pos rfl]
  by_cases h2 : a.kind = 6
  · rw [if_pos h2]
    by_cases h3 : (clientOf s a.p.toNat).here = true
    · rw [if_pos h3]; exact .inl ⟨by show (4 : Int) ≠ 0; decide, rfl, rfl, rfl⟩
    rw [if_neg h3]
    by_cases h4 : a.n < 1 ∨ 24 < a.n ∨ a.m < 1 ∨ 10 < a.m
    · rw [if_pos h4]; exact .inl ⟨by show (1 : Int) ≠ 0; decide, rfl, rfl, rfl⟩
    rw [if_neg h4]
    refine .inr ⟨rfl, by omega, by omega, oth _, ?_, .inl ⟨h2, by simpa using h3, own _, rfl, by unfold sidesOk; omega⟩⟩
    rw [own]
    exact ⟨fun h => (by cases h), fun _ => ⟨new_ok' _ _, by simp⟩⟩
  rw [if_neg h2]
  by_cases h3 : (clientOf s a.p.toNat).here = false
  · rw [if_pos h3]; exact .inl ⟨by show (3 : Int) ≠ 0; decide, rfl, rfl, rfl⟩
  rw [if_neg h3]
  have hh : (clientOf s a.p.toNat).here = true := by simpa using h3
  by_cases h4 : a.kind = 7
  · rw [if_pos h4]
    refine .inr ⟨rfl, by omega, by omega, oth _, ?_, .inr (.inl ⟨h4, own _, rfl⟩)⟩
    rw [own]
    exact ⟨fun _ => rfl, fun h => by cases h⟩
  rw [if_neg h4]
  refine .inr ⟨rfl, by omega, by omega, oth _, ?_, .inr (.inr ⟨h2, h4, hh, own _, rfl⟩)⟩
  rw [own]
  exact ⟨fun h => (by rw [show (clientOf s a.p.toNat).here = false from h] at hh; cases hh), fun _ => ⟨(hc.on hh).1, by
    have := (hc.on hh).2
    show (List.drop _ _).length ≤ 4000
    rw [List.length_drop]; omega⟩⟩

theorem visit_inv {s : Sv} (h : InvS s) (a : Ac) : InvS (visitS s a).1 := by
  rcases visit_law h a with ⟨_, he, _⟩ | ⟨_, h0, h3, ho, hc, _⟩
  · rw [he]; exact h
  · refine h.clientsWith (visit_only s a).1 fun c hc3 => ?_
    by_cases e : c = a.p.toNat
    · rw [e]; exact hc
    · rw [ho c e]; exact h.clients c hc3

theorem tick_client {s : Sv} (h : InvS s) {c : Nat} (hc : c < 3) : clientOf (tickS s) c = showS s.v (clientOf s c) := getD_map _ _ _ (by rw [h.cl]; exact hc)

theorem tick_inv {s : Sv} (h : InvS s) : InvS (tickS s) := by
  refine h.clientsWith ⟨rfl, rfl, by simp [tickS]⟩ fun c hc => ?_
  rw [tick_client h hc]
  exact (show_law h.grid_or (h.clients c hc)).ok

theorem split_inv {s : Sv} (h : InvS s) (a : Ac) : InvS (splitS s a).1 := by
  unfold splitS
  cases hf : freePane s.v.cols with
  | none => exact h
  | some n =>
    dsimp only
    split
    · exact h
    · next h0 =>
      have hg := split_good (t := s.v.cols) (p := a.p) (n := n) (right := decide (a.n = 1)) (by simpa using h0)
      exact h.fit hg.1 hg.2.1 h.sides

theorem kill_inv {s : Sv} (h : InvS s) (p : Int) : InvS (killS s p).1 := by
  unfold killS
  dsimp only
  split
  · exact h
  · next h0 =>
    have hg := kill_good (t := s.v.cols) (p := p) (by simpa using h0)
    refine h.fit hg.1 ?_ h.sides
    split
    · exact hg.2.2.2
    · next hne => rw [hg.2.2.1 _ hne]; exact h.focus

theorem grid_set {s : Sv} {p : Nat} {b : Bs} (h : InvS s) (hp : p < 6) (q : Nat) : gridOf (outputS s p b).v q = if q = p then (allG (gridOf s.v p) (feedP (parserOf s p) b).2).1 else gridOf s.v q := getD_set _ _ (by rw [h.gl]; exact hp)
theorem parser_set {s : Sv} {p : Nat} {b : Bs} (h : InvS s) (hp : p < 6) (q : Nat) : parserOf (outputS s p b) q = if q = p then (feedP (parserOf s p) b).1 else parserOf s q := getD_set _ _ (by rw [h.pl]; exact hp)

theorem output_inv {s : Sv} (h : InvS s) {p : Int} (hp : hasT s.v.cols p = true) (b : Bs) : InvS (outputS s p.toNat b) := by
  have h6 := has_pane h.cols hp
  have hpn : ((p.toNat : Nat) : Int) = p := by omega
  refine ⟨h.cols, h.focus, h.sides, by simp [outputS, h.gl], by simp [outputS, h.pl], h.cl, fun q hq => ?_, fun q hq => ?_, h.clients⟩
  · rw [grid_set h (by omega)]
    split
    · next e =>
      subst e
      have ho := (h.grids p.toNat hq).on (by rw [hpn]; exact hp)
      have hf := all_feed ho.1 (parserOf s p.toNat) b
      refine ⟨fun hn => ?_, fun _ => ⟨hf.2.1, hf.2.2.wide.trans ho.2.1, hf.2.2.high.trans ho.2.2⟩⟩
      rw [hpn] at hn
      rw [show hasT s.v.cols p = false from hn] at hp
      cases hp
    · exact h.grids q hq
  · rw [parser_set h (by omega)]
    split
    · next e =>
      subst e
      refine ⟨feed_good b (h.parsers p.toNat hq).1, fun hn => ?_⟩
      rw [hpn] at hn
      rw [show hasT s.v.cols p = false from hn] at hp
      cases hp
    · exact h.parsers q hq

theorem act_inv {s : Sv} (h : InvS s) (a : Ac) : InvS (actS s a).1 := by
  unfold actS
  by_cases h1 : a.kind = 1
  · rw [if_pos h1]; exact split_inv h a
  rw [if_neg h1]
  by_cases h1 : a.kind = 2
  · rw [if_pos h1]; exact kill_inv h a.p
  rw [if_neg h1]
  by_cases h1 : a.kind = 3 ∨ a.kind = 4
  · rw [if_pos h1]
    by_cases h2 : hasT s.v.cols a.p = false
    · rw [if_pos h2]; exact h
    rw [if_neg h2]
    have h2' : hasT s.v.cols a.p = true := by simpa using h2
    split
    · exact ⟨h.cols, h2', h.sides, h.gl, h.pl, h.cl, h.grids, h.parsers, h.clients⟩
    · exact output_inv h h2' a.bytes
  rw [if_neg h1]
  by_cases h1 : a.kind = 5
  · rw [if_pos h1]
    by_cases h2 : a.n < 1 ∨ 24 < a.n ∨ a.m < 1 ∨ 10 < a.m
    · rw [if_pos h2]; exact h
    · rw [if_neg h2]
      exact h.fit h.cols h.focus (by unfold sidesOk; omega)
  rw [if_neg h1]
  by_cases h1 : a.kind = 8
  · rw [if_pos h1]; exact tick_inv h
  rw [if_neg h1]
  split
  · exact visit_inv h a
  · exact h

theorem do_inv {s : Sv} (h : InvS s) (a : Ac) : InvS (doS s a).1 := by
  unfold doS
  split
  · exact h
  · exact act_inv (h.acts _) a

theorem act_acts (s : Sv) (a : Ac) : (actS s a).1.acts = s.acts := by
  unfold actS
  repeat' split
  all_goals first
    | rfl
    | exact (visit_only s a).2
    | (unfold splitS; split <;> first | rfl | (dsimp only; split <;> rfl))
    | (unfold killS; dsimp only; split <;> rfl)

theorem do_acts {s : Sv} {a : Ac} (h : s.acts < 300) : (doS s a).1.acts = s.acts + 1 := by
  unfold doS
  rw [if_neg (by omega), act_acts]

/-- An act that is no visit and no tick leaves the clients. -/
theorem act_clients (s : Sv) (a : Ac) (h : a.kind ≠ 6 ∧ a.kind ≠ 7 ∧ a.kind ≠ 8 ∧ a.kind ≠ 9) : (actS s a).1.clients = s.clients := by
  unfold actS
  repeat' split
  all_goals first
    | rfl
    | (exfalso; omega)
    | (unfold splitS; split <;> first | rfl | (dsimp only; split <;> rfl))
    | (unfold killS; dsimp only; split <;> rfl)

end Go.Proofs.YtkmmphkjmamckabDoor

/-
  The whole, plainly: what the statements say of a list of acts.
-/
namespace Go.Proofs.YtkmmphkjmamckabDoor
open Go
set_option linter.all false

abbrev tmOf (t : List Tm) (c : Nat) : Tm := t.getD c .zero

/-- What an act makes of the terminals. -/
def stepT (t : List Tm) (a : Ac) (r : Rp) : List Tm :=
  if r.code = 0 ∧ a.kind = 6 then t.set a.p.toNat ⟨.zero, newG a.n a.m⟩
  else if r.code = 0 ∧ a.kind = 9 then t.set a.p.toNat (getT (tmOf t a.p.toNat) r.out)
  else t

structure PlayI (k : Int) (s : Sv) (t : List Tm) : Prop where
  inv : InvS s
  acts : s.acts = k
  len : t.length = 3
  tm : ∀ c, c < 3 → TmOk (clientOf s c) (tmOf t c)

theorem PlayI.start : PlayI 0 newS (List.replicate 3 .zero) := by
  refine ⟨newS_ok, rfl, rfl, fun c h => ?_⟩
  have hz : clientOf newS c = .zero := by
    show (List.replicate 3 Ct.zero).getD c .zero = .zero
    simp only [List.getD_eq_getElem?_getD, List.getElem?_replicate, h, if_true, Option.getD_some]
  have ht : tmOf (List.replicate 3 Tm.zero) c = .zero := by
    simp only [tmOf, List.getD_eq_getElem?_getD, List.getElem?_replicate, h, if_true, Option.getD_some]
  rw [hz, ht]
  exact ⟨GoodP.zero, .inl rfl, fun h => by cases h⟩

theorem tm_set {t : List Tm} {i : Nat} {x : Tm} (h : i < t.length) (j : Nat) : tmOf (t.set i x) j = if j = i then x else tmOf t j := getD_set _ _ h

theorem do_lt {s : Sv} {a : Ac} (h : s.acts < 300) : doS s a = actS { s with acts := s.acts + 1 } a := by unfold doS; rw [if_neg (by omega)]

theorem act_visit {s : Sv} {a : Ac} (h : a.kind = 6 ∨ a.kind = 7 ∨ a.kind = 9) : actS s a = visitS s a := by
  unfold actS
  rw [if_neg (by omega), if_neg (by omega), if_neg (by omega), if_neg (by omega), if_neg (by omega), if_pos h]

theorem act_tick {s : Sv} {a : Ac} (h : a.kind = 8) : actS s a = (tickS s, .no 0) := by
  unfold actS
  rw [if_neg (by omega), if_neg (by omega), if_neg (by omega), if_neg (by omega), if_pos h]

/-- The first things that a client gets. -/
theorem PlayI.step {k : Int} {s : Sv} {t : List Tm} (h : PlayI k s t) (hk : k < 300) (a : Ac) : PlayI (k + 1) (doS s a).1 (stepT t a (doS s a).2) := by
  have hl := h.len
  have hacts := h.acts
  have hi := h.inv.acts (s.acts + 1)
  refine ⟨do_inv h.inv a, by rw [do_acts (by omega), hacts], ?_, fun c hc => ?_⟩
  · unfold stepT; repeat' split
    all_goals simp [hl]
  rw [do_lt (by omega)]
  have htm := h.tm c hc
  have hsame : ∀ x, clientOf { s with acts := x } c = clientOf s c := fun _ => rfl
  by_cases hv : a.kind = 6 ∨ a.kind = 7 ∨ a.kind = 9
  · rw [act_visit hv]
    rcases visit_law hi a with ⟨h1, h2, _⟩ | ⟨h1, h2, h3, h4, h5, h6⟩
    · rw [h2]
      unfold stepT
      rw [if_neg (by rintro ⟨e, _⟩; exact h1 e), if_neg (by rintro ⟨e, _⟩; exact h1 e)]
      exact htm
    · by_cases e : c = a.p.toNat
      · subst e
        rcases h6 with ⟨g1, g2, g3, g4, g5⟩ | ⟨g1, g3, g4⟩ | ⟨g1, g2, g3, g4, g5⟩
        · unfold stepT
          rw [if_pos ⟨h1, g1⟩, tm_set (by omega), if_pos rfl, g3]
          exact ⟨GoodP.zero, .inr (new_ok' _ _), fun _ => ⟨new_ok' _ _, rfl⟩⟩
        · unfold stepT
          rw [if_neg (by omega), if_neg (by omega), g3]
          exact ⟨htm.pr, htm.gr, fun h => by cases h⟩
        · have h9 : a.kind = 9 := by omega
          unfold stepT
          rw [if_neg (by omega), if_pos ⟨h1, h9⟩, tm_set (by omega), if_pos rfl, g4, g5]
          obtain ⟨j1, j2⟩ := htm.on g3
          have jj := getT_good j1 htm.pr ((clientOf s a.p.toNat).queue.take (drainN a.n (clientOf s a.p.toNat).queue))
          refine ⟨jj.2.1, .inr jj.1, fun _ => ⟨jj.1, ?_⟩⟩
          show getT (getT _ (List.take _ _)) (List.drop _ _) = _
          rw [← getT_append j1, List.take_append_drop]
          exact j2
      · rw [h4 c e]
        have : tmOf (stepT t a (visitS { s with acts := s.acts + 1 } a).2) c = tmOf t c := by
          unfold stepT
          split
          · rw [tm_set (by omega), if_neg e]
          · split
            · rw [tm_set (by omega), if_neg e]
            · rfl
        rw [this]
        exact htm
  · have hst : ∀ r, stepT t a r = t := fun r => by
      unfold stepT
      rw [if_neg (by omega), if_neg (by omega)]
    rw [hst]
    by_cases h8 : a.kind = 8
    · rw [act_tick h8]
      show TmOk (clientOf (tickS _) c) _
      rw [tick_client hi hc]
      exact show_tm (show_law hi.grid_or (hi.clients c hc)) htm
    · have := act_clients { s with acts := s.acts + 1 } a ⟨by omega, by omega, by omega, by omega⟩
      unfold clientOf
      rw [this]
      exact htm

/-- Behind a tick, what a client shows once it has all that waits. -/
theorem tick_shown {k : Int} {s : Sv} {t : List Tm} (h : PlayI k s t) (hk : k < 300) {a : Ac} (ha : a.kind = 8) {c : Nat} (hc : c < 3) (hh : (clientOf (doS s a).1 c).here = true) (hl : (clientOf (doS s a).1 c).lost = false) :
    getT (tmOf t c) (clientOf (doS s a).1 c).queue = ⟨.zero, (clientOf (doS s a).1 c).shown⟩ ∧ GoodG (tmOf t c).g ∧ GoodG (clientOf (doS s a).1 c).shown ∧ (doS s a).1.v = s.v ∧
    (clientOf (doS s a).1 c).shown.cells = (screenV s.v (clientOf (doS s a).1 c).shown.wide (clientOf (doS s a).1 c).shown.high).cells ∧
    (clientOf (doS s a).1 c).shown.row = (screenV s.v (clientOf (doS s a).1 c).shown.wide (clientOf (doS s a).1 c).shown.high).row ∧
    (clientOf (doS s a).1 c).shown.col = (screenV s.v (clientOf (doS s a).1 c).shown.wide (clientOf (doS s a).1 c).shown.high).col := by
  have hi := h.inv.acts (s.acts + 1)
  have hp := h.step hk a
  have ht := hp.tm c hc
  have hst : stepT t a (doS s a).2 = t := by
    unfold stepT
    rw [if_neg (by omega), if_neg (by omega)]
  rw [hst] at ht
  have hacts := h.acts
  have he : (doS s a).1 = tickS { s with acts := s.acts + 1 } := by rw [do_lt (by omega), act_tick ha]
  have hv : (doS s a).1.v = s.v := by rw [he]; rfl
  have hsh := show_law hi.grid_or (hi.clients c hc)
  rw [he] at hh hl ht ⊢
  rw [tick_client hi hc] at hh hl ht ⊢
  obtain ⟨g1, g2⟩ := ht.on hh
  exact ⟨g2, g1, (hsh.ok.on hh).1, rfl, hsh.sees hh hl⟩

/-! ### Servers that stand alike -/

structure Alike (s s' : Sv) : Prop where
  v : s'.v = s.v
  parsers : s'.parsers = s.parsers
  clients : s'.clients = s.clients

theorem Alike.eq {s s' : Sv} (h : Alike s s') : s' = { s with acts := s'.acts } := by
  obtain ⟨v, p, c, n⟩ := s'
  obtain ⟨h1, h2, h3⟩ := h
  simp only at h1 h2 h3
  subst h1 h2 h3
  rfl

end Go.Proofs.YtkmmphkjmamckabDoor

/-
  Feeding, plainly: numbers are few, events no more than bytes; plain text; a byte that stops.
-/
namespace Go.Proofs.YtkmmphkjmamckabDoor
open Go
set_option linter.all false

theorem step_few {p : Pr} (h : GoodP p) (c : Int) : (stepP p c).2.ps.length ≤ 4 := by
  have hl := h.len
  unfold stepP cmdP
  repeat' split
  all_goals first | exact hl | exact Nat.zero_le _

theorem feed_few : ∀ (l : List UInt8) (p : Pr), GoodP p → ∀ e ∈ (feedP p l).2, e.ps.length ≤ 4
  | [], _, _, _, he => by simp [feedP] at he
  | b :: l, p, h, e, he => by
    simp only [feedP, List.mem_append] at he
    rcases he with he | he
    · split at he
      · simp at he
      · simp only [List.mem_singleton] at he
        rw [he]
        exact step_few h _
    · exact feed_few l _ (step_good h) e he

theorem feed_len : ∀ (l : List UInt8) (p : Pr), (feedP p l).2.length ≤ l.length
  | [], _ => by simp [feedP]
  | b :: l, p => by
    have := feed_len l (stepP p b.toNat).1
    simp only [feedP, List.length_append, List.length_cons]
    split <;> simp <;> omega

end Go.Proofs.YtkmmphkjmamckabDoor

