/-
  A screen, plainly: a law without the program.
-/
import Derived.Test.YtkmmphkjmamckaaPSpec
namespace Go.Proofs.Ytkmmphkjmamckaa
open Go
set_option linter.all false

structure Cl where
  ch : Int
  ink : Int
  pic : Int
  bold : Bool

abbrev Cl.z : Cl := ⟨0, 0, 0, false⟩

theorem Cl.ext_iff' {a b : Cl} : a = b ↔ a.ch = b.ch ∧ a.ink = b.ink ∧ a.pic = b.pic ∧ a.bold = b.bold := by
  cases a; cases b; simp only [Cl.mk.injEq]

instance : DecidableEq Cl := fun _ _ => decidable_of_iff _ Cl.ext_iff'.symm

structure Gr where
  wide : Int
  high : Int
  cells : List Cl
  row : Int
  col : Int
  ink : Int
  bold : Bool
  top : Int
  bottom : Int

abbrev Gr.zero : Gr := ⟨0, 0, [], 0, 0, 0, false, 0, 0⟩

def goodC (c : Cl) : Bool := decide (0 ≤ c.pic ∧ c.pic ≤ 8 ∧ 0 ≤ c.ink ∧ c.ink ≤ 8) &&
  (if c.pic = 0 then decide ((c.ch = 0 ∧ c.ink = 0 ∧ c.bold = false) ∨ (32 ≤ c.ch ∧ c.ch < 127)) else decide (c.ch = 0 ∧ c.ink = 0 ∧ c.bold = false))

def goodG (g : Gr) : Bool := decide (1 ≤ g.wide ∧ g.wide ≤ 24 ∧ 1 ≤ g.high ∧ g.high ≤ 10 ∧ (g.cells.length : Int) = g.wide * g.high ∧
  0 ≤ g.row ∧ g.row < g.high ∧ 0 ≤ g.col ∧ g.col ≤ g.wide ∧ 0 ≤ g.ink ∧ g.ink ≤ 8 ∧ 0 ≤ g.top ∧ g.top < g.bottom ∧ g.bottom ≤ g.high) && g.cells.all goodC

structure GoodG (g : Gr) : Prop where
  w1 : 1 ≤ g.wide
  w2 : g.wide ≤ 24
  h1 : 1 ≤ g.high
  h2 : g.high ≤ 10
  len : (g.cells.length : Int) = g.wide * g.high
  r1 : 0 ≤ g.row
  r2 : g.row < g.high
  c1 : 0 ≤ g.col
  c2 : g.col ≤ g.wide
  i1 : 0 ≤ g.ink
  i2 : g.ink ≤ 8
  t1 : 0 ≤ g.top
  t2 : g.top < g.bottom
  b2 : g.bottom ≤ g.high
  all : ∀ c ∈ g.cells, goodC c = true

theorem goodG_iff {g : Gr} : goodG g = true ↔ GoodG g := by
  unfold goodG
  rw [Bool.and_eq_true, decide_eq_true_eq, List.all_eq_true]
  constructor
  · rintro ⟨⟨a1, a2, a3, a4, a5, a6, a7, a8, a9, b1, b2, b3, b4, b5⟩, h⟩
    exact ⟨a1, a2, a3, a4, a5, a6, a7, a8, a9, b1, b2, b3, b4, b5, h⟩
  · rintro ⟨a1, a2, a3, a4, a5, a6, a7, a8, a9, b1, b2, b3, b4, b5, h⟩
    exact ⟨⟨a1, a2, a3, a4, a5, a6, a7, a8, a9, b1, b2, b3, b4, b5⟩, h⟩

/-! ### Lists by their places -/

def tabC (n : Nat) (f : Nat → Cl) : List Cl := (List.range n).map f

abbrev cg (l : List Cl) (i : Nat) : Cl := l.getD i .z

theorem tab_len (n : Nat) (f : Nat → Cl) : (tabC n f).length = n := by simp [tabC]

theorem tab_cg {n : Nat} {f : Nat → Cl} {i : Nat} (h : i < n) : cg (tabC n f) i = f i := by
  simp [tabC, cg, List.getD_eq_getElem?_getD, h]

theorem cg_ext {l m : List Cl} (hl : l.length = m.length) (h : ∀ i, i < l.length → cg l i = cg m i) : l = m := by
  refine List.ext_getElem hl fun i h1 h2 => ?_
  have := h i h1
  simpa [cg, List.getD_eq_getElem?_getD, List.getElem?_eq_getElem h1, List.getElem?_eq_getElem h2] using this

theorem cg_mem {l : List Cl} {i : Nat} (h : i < l.length) : cg l i ∈ l := by
  simp [cg, List.getD_eq_getElem?_getD, List.getElem?_eq_getElem h]

theorem mem_cg {l : List Cl} {c : Cl} (h : c ∈ l) : ∃ i, i < l.length ∧ c = cg l i := by
  obtain ⟨i, hi, rfl⟩ := List.getElem_of_mem h
  exact ⟨i, hi, by simp [cg, List.getD_eq_getElem?_getD, List.getElem?_eq_getElem hi]⟩

theorem cg_out {l : List Cl} {i : Nat} (h : l.length ≤ i) : cg l i = .z := by
  simp [cg, List.getD_eq_getElem?_getD, List.getElem?_eq_none h]

theorem cg_append {l m : List Cl} {i : Nat} : cg (l ++ m) i = if i < l.length then cg l i else cg m (i - l.length) := by
  simp only [cg, List.getD_eq_getElem?_getD]
  split
  · rw [List.getElem?_append_left (by omega)]
  · rw [List.getElem?_append_right (by omega)]

theorem cg_take {l : List Cl} {n i : Nat} (h : i < n) : cg (l.take n) i = cg l i := by
  simp only [cg, List.getD_eq_getElem?_getD]
  rw [List.getElem?_take_of_lt h]

theorem cg_drop {l : List Cl} {n i : Nat} : cg (l.drop n) i = cg l (n + i) := by
  simp only [cg, List.getD_eq_getElem?_getD, List.getElem?_drop]

theorem cg_repl {n i : Nat} : cg (List.replicate n Cl.z) i = .z := by
  simp only [cg, List.getD_eq_getElem?_getD, List.getElem?_replicate]
  split <;> rfl

theorem cg_set {l : List Cl} {k i : Nat} {c : Cl} (h : k < l.length) : cg (l.set k c) i = if i = k then c else cg l i := by
  simp only [cg, List.getD_eq_getElem?_getD]
  split
  · next e => subst e; simp [h]
  · next e => rw [List.getElem?_set_ne (fun h => e h.symm)]

theorem div_lt {i w t : Nat} (h : 0 < w) : i / w < t ↔ i < t * w := Nat.div_lt_iff_lt_mul h
theorem le_div {i w t : Nat} (h : 0 < w) : t ≤ i / w ↔ t * w ≤ i := Nat.le_div_iff_mul_le h

/-! ### Rolling, erasing, drawing -/

/-- Rows from one to below another one, n up (n below 0: down), empty ones where there is nothing. -/
def rollC (w fr to : Nat) (n : Int) (l : List Cl) : List Cl := tabC l.length fun i =>
  if i / w < fr ∨ to ≤ i / w then cg l i
  else if (fr : Int) ≤ (i / w : Nat) + n ∧ ((i / w : Nat) : Int) + n < to then cg l ((i : Int) + n * w).toNat else .z

def eraseC (lo hi : Nat) (l : List Cl) : List Cl := tabC l.length fun i => if lo ≤ i ∧ i < hi then .z else cg l i

def rollG (g : Gr) (fr to n : Int) : Gr := { g with cells := rollC g.wide.toNat fr.toNat to.toNat n g.cells }

def newG (w h : Int) : Gr := ⟨max 1 (min w 24), max 1 (min h 10), List.replicate (max 1 (min w 24) * max 1 (min h 10)).toNat .z, 0, 0, 0, false, 0, max 1 (min h 10)⟩

def feedG (g : Gr) : Gr :=
  if g.row = g.bottom - 1 then rollG g g.top g.bottom 1
  else if g.row < g.high - 1 then { g with row := g.row + 1 } else g

def showG (g : Gr) (ch : Int) : Gr :=
  let g := if g.col = g.wide then feedG { g with col := 0 } else g
  { g with cells := g.cells.set (g.row * g.wide + g.col).toNat ⟨ch, g.ink, 0, g.bold⟩, col := g.col + 1 }

def controlG (g : Gr) (c : Int) : Gr :=
  if c = 8 then { g with col := max 0 (min g.col (g.wide - 1) - 1) }
  else if c = 9 then { g with col := min (g.wide - 1) (g.col / 8 * 8 + 8) }
  else if c = 10 then feedG g
  else if c = 13 then { g with col := 0 }
  else g

def numP (l : List Int) (k : Nat) (least : Int) : Int := max least (min (l.getD k 0) 999)

def eraseG (g : Gr) (how a fr to : Int) : Gr :=
  if how = 0 then { g with cells := eraseC a.toNat to.toNat g.cells }
  else if how = 1 then { g with cells := eraseC fr.toNat (a + 1).toNat g.cells }
  else if how = 2 then { g with cells := eraseC fr.toNat to.toNat g.cells }
  else g

def inkG (g : Gr) (x : Int) : Gr :=
  if x = 0 then { g with ink := 0, bold := false }
  else if x = 1 then { g with bold := true }
  else if x = 22 then { g with bold := false }
  else if 30 ≤ x ∧ x < 38 then { g with ink := x - 29 }
  else if x = 39 then { g with ink := 0 }
  else g

def regionG (g : Gr) (top b : Int) : Gr :=
  let bottom := if b = 0 ∨ g.high < b then g.high else b
  if top < bottom then { g with top := top, bottom := bottom, row := 0, col := 0 } else g

def commandG (g : Gr) (c : Int) (l : List Int) : Gr :=
  let n := numP l 0 1
  if c = 65 then { g with row := max 0 (g.row - n) }
  else if c = 66 then { g with row := min (g.high - 1) (g.row + n) }
  else if c = 67 then { g with col := min (g.wide - 1) (g.col + n) }
  else if c = 68 then { g with col := max 0 (min g.col (g.wide - 1) - n) }
  else if c = 72 then { g with row := min g.high n - 1, col := min g.wide (numP l 1 1) - 1 }
  else if c = 74 then eraseG g (numP l 0 0) (g.row * g.wide + min g.col (g.wide - 1)) 0 g.cells.length
  else if c = 75 then eraseG g (numP l 0 0) (g.row * g.wide + min g.col (g.wide - 1)) (g.row * g.wide) ((g.row + 1) * g.wide)
  else if c = 76 ∨ c = 77 then
    if g.row < g.top ∨ g.bottom ≤ g.row then g
    else { rollG g g.row g.bottom (if c = 76 then - min n 10 else min n 10) with col := 0 }
  else if c = 109 then l.foldl inkG g
  else if c = 114 then regionG g (n - 1) (numP l 1 0)
  else g

def picC (w h left : Int) : List UInt8 → Int → Int → List Cl → List Cl
  | [], _, _, l => l
  | b :: bs, r, c, l =>
    if b.toNat = 45 then picC w h left bs (r + 1) left l
    else if 97 ≤ b.toNat ∧ b.toNat < 105 ∧ r < h ∧ c < w then picC w h left bs r (c + 1) (l.set (r * w + c).toNat ⟨0, 0, (b.toNat : Int) - 96, false⟩)
    else picC w h left bs r (c + 1) l

def pictureG (g : Gr) (s : List UInt8) : Gr := { g with cells := picC g.wide g.high (min g.col (g.wide - 1)) s g.row (min g.col (g.wide - 1)) g.cells }

def doG (g : Gr) (e : Ev) : Gr × Int :=
  if goodG g = false then (g, 1)
  else if e.kind = 1 then if e.b < 32 ∨ 126 < e.b then (g, 6) else (showG g e.b, 0)
  else if e.kind = 2 then (controlG g e.b, 0)
  else if e.kind = 3 then (commandG g e.b e.ps, 0)
  else if e.kind = 4 then (pictureG g e.pl.data.toList, 0)
  else if e.kind = 5 then (newG g.wide g.high, 0)
  else (g, 2)

def allG (g : Gr) : List Ev → Gr × Int
  | [] => (g, 0)
  | e :: es => if (doG g e).2 = 0 then allG (doG g e).1 es else doG g e

def atG (g : Gr) (r c : Int) : Cl :=
  if g.wide ≤ 24 ∧ g.high ≤ 10 ∧ 0 ≤ r ∧ r < g.high ∧ 0 ≤ c ∧ c < g.wide then cg g.cells (r * g.wide + c).toNat else .z

def resizeC (w w' h' : Nat) (h : Nat) (l : List Cl) : List Cl := tabC (w' * h') fun i => if i / w' < h ∧ i % w' < w then cg l (i / w' * w + i % w') else .z

def resizeG (g : Gr) (w h : Int) : Gr × Int :=
  if goodG g = false then (g, 1)
  else
    let w' := max 1 (min w 24)
    let h' := max 1 (min h 10)
    (⟨w', h', resizeC g.wide.toNat w'.toNat h'.toNat g.high.toNat g.cells, min g.row (h' - 1), min g.col (w' - 1), g.ink, g.bold, 0, h'⟩, 0)

theorem rollC_len (w fr to : Nat) (n : Int) (l : List Cl) : (rollC w fr to n l).length = l.length := tab_len _ _
theorem eraseC_len (lo hi : Nat) (l : List Cl) : (eraseC lo hi l).length = l.length := tab_len _ _

theorem picC_len (w h left : Int) : ∀ (s : List UInt8) (r c : Int) (l : List Cl), (picC w h left s r c l).length = l.length
  | [], _, _, _ => rfl
  | b :: s, r, c, l => by
    unfold picC
    split
    · exact picC_len w h left s _ _ l
    · split
      · rw [picC_len w h left s, List.length_set]
      · exact picC_len w h left s _ _ l

theorem roll_cg {w fr to : Nat} {n : Int} {l : List Cl} {i : Nat} (hi : i < l.length) : cg (rollC w fr to n l) i =
    if i / w < fr ∨ to ≤ i / w then cg l i
    else if (fr : Int) ≤ (i / w : Nat) + n ∧ ((i / w : Nat) : Int) + n < to then cg l ((i : Int) + n * w).toNat else .z := tab_cg hi

theorem erase_cg {lo hi : Nat} {l : List Cl} {i : Nat} (h : i < l.length) : cg (eraseC lo hi l) i = if lo ≤ i ∧ i < hi then .z else cg l i := tab_cg h

theorem split_row {w i : Nat} (hw : 0 < w) : ∃ q s, s < w ∧ i = q * w + s ∧ i / w = q ∧ i % w = s :=
  ⟨i / w, i % w, Nat.mod_lt i hw, by have := Nat.div_add_mod i w; rw [Nat.mul_comm] at this; omega, rfl, rfl⟩

theorem row_div {w q s : Nat} (h : s < w) : (q * w + s) / w = q := by
  rw [Nat.mul_comm, Nat.mul_add_div (by omega), Nat.div_eq_of_lt h]; rfl

theorem row_mod {w q s : Nat} (h : s < w) : (q * w + s) % w = s := by
  rw [Nat.mul_comm, Nat.mul_add_mod, Nat.mod_eq_of_lt h]

theorem row_src {w q s : Nat} {m : Int} (h : 0 ≤ (q : Int) + m) : (((q * w + s : Nat) : Int) + m * w).toNat = ((q : Int) + m).toNat * w + s := by
  obtain ⟨p, hp⟩ : ∃ p : Nat, (p : Int) = q + m := ⟨((q : Int) + m).toNat, Int.toNat_of_nonneg h⟩
  have hm : m = (p : Int) - q := by omega
  subst hm
  rw [Int.sub_mul, show ((q : Int) + (p - q)).toNat = p by omega]
  have e1 : ((p : Int) * w) = ((p * w : Nat) : Int) := by simp
  have e2 : ((q : Int) * w) = ((q * w : Nat) : Int) := by simp
  rw [e1, e2]
  omega

theorem row_lt {w q s to : Nat} (hs : s < w) (h : q < to) : q * w + s < to * w := by
  have := Nat.mul_le_mul_right w (show q + 1 ≤ to from h)
  rw [Nat.add_mul] at this
  omega

/-- Rolling on, the same way. -/
theorem roll_roll {w fr to : Nat} (hw : 0 < w) {l : List Cl} (hl : to * w ≤ l.length) {m n : Int} (h : (0 ≤ m ∧ 0 ≤ n) ∨ (m ≤ 0 ∧ n ≤ 0)) : rollC w fr to m (rollC w fr to n l) = rollC w fr to (m + n) l := by
  refine cg_ext (by simp only [rollC_len]) fun i hi => ?_
  simp only [rollC_len] at hi
  rw [roll_cg (by rw [rollC_len]; exact hi), roll_cg (n := m + n) hi]
  obtain ⟨q, s, hs, hi2, hq, hm⟩ := split_row (i := i) hw
  rw [hq]
  by_cases h1 : q < fr ∨ to ≤ q
  · rw [if_pos h1, if_pos h1, roll_cg hi, hq, if_pos h1]
  · rw [if_neg h1, if_neg h1]
    by_cases h2 : (fr : Int) ≤ (q : Nat) + m ∧ ((q : Nat) : Int) + m < to
    · rw [if_pos h2, hi2, row_src (by omega)]
      have hin : ((q : Int) + m).toNat * w + s < l.length := Nat.lt_of_lt_of_le (row_lt hs (by omega)) hl
      rw [roll_cg hin, row_div hs, if_neg (by omega)]
      by_cases h3 : (fr : Int) ≤ (q : Nat) + (m + n) ∧ ((q : Nat) : Int) + (m + n) < to
      · rw [if_pos h3, if_pos (by omega), row_src (by omega), row_src (by omega)]
        rw [show ((((q : Int) + m).toNat : Int) + n).toNat = ((q : Int) + (m + n)).toNat by omega]
      · rw [if_neg h3, if_neg (by omega)]
    · rw [if_neg h2, if_neg (by omega)]

theorem roll_zero {w fr to : Nat} {l : List Cl} : rollC w fr to 0 l = l := by
  refine cg_ext (rollC_len _ _ _ _ _) fun i hi => ?_
  rw [rollC_len] at hi
  rw [roll_cg hi]
  split
  · rfl
  · rw [if_pos (by omega)]
    congr 1
    omega

theorem roll_far {w fr to : Nat} {l : List Cl} {m n : Int} (hm : (to : Int) - fr ≤ m ∨ m ≤ (fr : Int) - to) (hn : (to : Int) - fr ≤ n ∨ n ≤ (fr : Int) - to) : rollC w fr to m l = rollC w fr to n l := by
  refine cg_ext (by simp only [rollC_len]) fun i hi => ?_
  rw [rollC_len] at hi
  rw [roll_cg hi, roll_cg hi]
  split
  · rfl
  · rw [if_neg (by omega), if_neg (by omega)]

end Go.Proofs.Ytkmmphkjmamckaa
