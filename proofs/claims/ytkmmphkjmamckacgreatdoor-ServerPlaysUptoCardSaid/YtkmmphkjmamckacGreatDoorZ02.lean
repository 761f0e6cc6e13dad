/- Texts joined: ZP, ZM, ZG. -/
import Derived.Test.YtkmmphkjmamckacGreatDoorZ05
namespace Go.Proofs.YtkmmphkjmamckacGreatDoor
open Go
set_option linter.all false
structure Pr where
 at_ : Int
 ps : List Int
 pl : ByteArray
 fA : Bool
structure Ev where
 kind : Int
 b : Int
 ps : List Int
 pl : ByteArray
abbrev au : ByteArray := ByteArray.mk #[]
def Ev.none : Ev := ⟨0, 0, [], au⟩
def Pr.zero : Pr := ⟨0, [], au, false⟩
def nT (n : Int) : Prop := 0 <= n /\ n <= 999
structure bB (p : Pr) : Prop where
 lo : 0 <= p.at_
 hi : p.at_ <= 4
 len : p.ps.length <= 4
 pay : p.pl.size <= 48
 iG : ∀ n ∈ p.ps, nT n
 cmd : p.at_ = 2 ↔ 0 < p.ps.length
 rest : p.at_ = 3 \/ p.at_ = 4 \/ (p.pl = au /\ p.fA = false)
def cW (ps : List Int) (c : Int) : List Int := ps.set (ps.length - 1) (min (10 * (ps.getD (ps.length - 1) 0) + c - 48) 999)
def lA (p : Pr) (c : Int) : Pr × Ev :=
 if 48 <= c /\ c <= 57 then ({ p with ps := cW p.ps c }, .none)
 else if c = 59 /\ p.ps.length < 4 then ({ p with ps := p.ps ++ [0] }, .none)
 else if 64 <= c /\ c < 127 then (.zero, ⟨3, c, p.ps, au⟩)
 else if c = 27 then ({ Pr.zero with at_ := 1 }, .none)
 else (.zero, .none)
def iq (c : Int) : ByteArray := ByteArray.mk #[UInt8.ofNat c.toNat]
def aC (p : Pr) (c : Int) : Pr × Ev :=
 if p.at_ = 0 then
  if c = 27 then ({ p with at_ := 1 }, .none)
  else if 32 <= c /\ c < 127 then (p, ⟨1, c, [], au⟩)
  else if (8 <= c /\ c <= 10) \/ c = 13 then (p, ⟨2, c, [], au⟩)
  else (p, .none)
 else if p.at_ = 1 then
  if c = 27 then ({ p with at_ := 1 }, .none)
  else if c = 91 then ({ p with at_ := 2, ps := [0] }, .none)
  else if c = 80 then ({ p with at_ := 3 }, .none)
  else if c = 99 then ({ p with at_ := 0 }, ⟨5, 0, [], au⟩)
  else ({ p with at_ := 0 }, .none)
 else if p.at_ = 2 then lA p c
 else if p.at_ = 3 then
  if c = 27 then ({ p with at_ := 4 }, .none)
  else if c = 24 then (.zero, .none)
  else if 32 <= c /\ c < 127 then
   if 48 <= p.pl.size then ({ p with fA := true }, .none) else ({ p with pl := p.pl ++ iq c }, .none)
  else (p, .none)
 else if p.at_ = 4 then
  if c = 92 /\ p.fA = false then (.zero, ⟨4, 0, [], p.pl⟩) else (.zero, .none)
 else (p, .none)
def bA (p : Pr) (b : Int) : Pr × Ev :=
 if b = 27 /\ p.at_ = 3 then ({ p with at_ := 4 }, .none)
 else if b = 27 /\ p.at_ = 4 then (.zero, .none)
 else if b = 27 then ({ Pr.zero with at_ := 1 }, .none)
 else if p.at_ = 0 /\ (32 <= b /\ b <= 126) then (p, ⟨1, b, [], au⟩)
 else if p.at_ = 0 then if b = 8 \/ b = 9 \/ b = 10 \/ b = 13 then (p, ⟨2, b, [], au⟩) else (p, .none)
 else if p.at_ = 1 /\ b = 91 then ({ Pr.zero with at_ := 2, ps := [0] }, .none)
 else if p.at_ = 1 /\ b = 80 then ({ Pr.zero with at_ := 3 }, .none)
 else if p.at_ = 1 then if b = 99 then (.zero, ⟨5, 0, [], au⟩) else (.zero, .none)
 else if p.at_ = 2 /\ 48 <= b /\ b <= 57 then ({ p with ps := cW p.ps b }, .none)
 else if p.at_ = 2 /\ b = 59 /\ p.ps.length < 4 then ({ p with ps := p.ps ++ [0] }, .none)
 else if p.at_ = 2 then if 64 <= b /\ b <= 126 then (.zero, ⟨3, b, p.ps, au⟩) else (.zero, .none)
 else if p.at_ = 3 /\ b = 24 then (.zero, .none)
 else if p.at_ = 3 then
  if (32 <= b /\ b <= 126) /\ p.pl.size < 48 then ({ p with pl := p.pl ++ iq b }, .none)
  else if 32 <= b /\ b <= 126 then ({ p with fA := true }, .none)
  else (p, .none)
 else if p.at_ = 4 then if b = 92 /\ p.fA = false then (.zero, ⟨4, 0, [], p.pl⟩) else (.zero, .none)
 else (p, .none)
theorem Cp (ps : List Int) (c : Int) : (cW ps c).length = ps.length := by simp [cW]
theorem rC (c : Int) : (iq c).size = 1 := rfl
theorem bB.zero : bB .zero := ⟨by decide, by decide, by decide, by decide, by simp [Pr.zero], by decide, .inr (.inr ⟨rfl, rfl⟩)⟩
theorem DJ {ps : List Int} (h : ∀ n ∈ ps, nT n) {c : Int} (h0 : 48 <= c) (h1 : c <= 57) : ∀ n ∈ cW ps c, nT n := by
 intro n hn
 unfold cW at hn
 rcases List.mem_or_eq_of_mem_set hn with hn | hn
 ·exact h n hn
 ·subst hn
  have h2 : 0 <= ps.getD (ps.length - 1) 0 := by
   rw [List.getD_eq_getElem?_getD]
   cases hg : ps[ps.length - 1]? with
   | none => simp
   | some x => exact (h x (List.mem_of_getElem? hg)).1
  unfold nT
  omega
theorem kC {p : Pr} (h : bB p) {c : Int} : bB (aC p c).1 := by
 obtain ⟨h1, h2, h3, h4, h5, h6, h7⟩ := h
 obtain ⟨a, ps, pl, lg⟩ := p
 simp only at *
 unfold aC lA
 simp only
 have hz := bB.zero
 repeat' split
 all_goals first
  | exact hz
  | (refine ⟨?_, ?_, ?_, ?_, ?_, ?_, ?_⟩ <;> simp only [Pr.zero, Cp, List.length_append, List.length_cons, List.length_nil, ByteArray.size_append, rC] <;> first | assumption | omega | (exact DJ h5 (by omega) (by omega)) | (intro n hn; simp at hn; rcases hn with hn | hn <;> first | exact h5 n hn | (subst hn; exact ⟨by decide, by decide⟩)) | (intro n hn; simp at hn; subst hn; exact ⟨by decide, by decide⟩) | skip)
 all_goals first
  | (rcases h7 with h7 | h7 | h7 <;> first | omega | exact .inr (.inr h7))
  | simp_all [nT]
  | skip
theorem Gi {p : Pr} (h : bB p) (c : Int) : aC p c = bA p c := by
 obtain ⟨h1, h2, h3, h4, h5, h6, h7⟩ := h
 obtain ⟨a, ps, pl, lg⟩ := p
 simp only at *
 have hps : a ≠ 2 -> ps = [] := fun hn => List.length_eq_zero_iff.1 (by omega)
 rcases (by omega : a = 0 \/ a = 1 \/ a = 2 \/ a = 3 \/ a = 4) with rfl | rfl | rfl | rfl | rfl
 ·obtain rfl := hps (by omega)
  obtain ⟨rfl, rfl⟩ := h7.resolve_left (by omega) |>.resolve_left (by omega)
  by_cases hc : c = 27
  ·subst hc; rfl
  ·simp only [aC, bA, hc, if_false, false_and, if_true, true_and]
   by_cases h8 : 32 <= c /\ c <= 126
   ·rw [if_pos (by omega), if_pos h8]
   ·rw [if_neg (by omega), if_neg h8]
    by_cases h9 : (8 <= c /\ c <= 10) \/ c = 13
    ·rw [if_pos h9, if_pos (by omega)]
    ·rw [if_neg h9, if_neg (by omega)]
 ·obtain rfl := hps (by omega)
  obtain ⟨rfl, rfl⟩ := h7.resolve_left (by omega) |>.resolve_left (by omega)
  by_cases hc : c = 27
  ·subst hc; rfl
  ·simp [aC, bA, hc, Pr.zero]
   repeat' split
   all_goals first | rfl | omega
 ·obtain ⟨rfl, rfl⟩ := h7.resolve_left (by omega) |>.resolve_left (by omega)
  by_cases hc : c = 27
  ·subst hc; rfl
  ·simp [aC, lA, bA, hc, Pr.zero]
   repeat' split
   all_goals first | rfl | omega
 ·obtain rfl := hps (by omega)
  by_cases hc : c = 27
  ·subst hc; rfl
  ·simp [aC, bA, hc, Pr.zero]
   repeat' split
   all_goals first | rfl | omega
 ·obtain rfl := hps (by omega)
  by_cases hc : c = 27
  ·subst hc; rfl
  ·simp [aC, bA, hc, Pr.zero]
def feedP (p : Pr) : List UInt8 -> Pr × List Ev
 | [] => (p, [])
 | b :: bs => ((feedP (aC p b.toNat).1 bs).1, (if (aC p b.toNat).2.kind = 0 then [] else [(aC p b.toNat).2]) ++ (feedP (aC p b.toNat).1 bs).2)
theorem tZ : ∀ (s : List UInt8) {p : Pr}, bB p -> bB (feedP p s).1
 | [], _, h => h
 | _ :: s, _, h => tZ s (kC h)
structure Cl where
 ch : Int
 ink : Int
 pic : Int
 bold : Bool
abbrev Cl.z : Cl := ⟨0, 0, 0, false⟩
theorem Cl.pq {a b : Cl} : a = b ↔ a.ch = b.ch /\ a.ink = b.ink /\ a.pic = b.pic /\ a.bold = b.bold := by
 cases a; cases b; simp only [Cl.mk.injEq]
instance : DecidableEq Cl := fun _ _ => decidable_of_iff _ Cl.pq.symm
structure Gr where
 wide : Int
 high : Int
 cells : List Cl
 row : Int
 col : Int
 ink : Int
 bold : Bool
 top : Int
 aA : Int
abbrev Gr.zero : Gr := ⟨0, 0, [], 0, 0, 0, false, 0, 0⟩
def cG (c : Cl) : Bool := decide (0 <= c.pic /\ c.pic <= 8 /\ 0 <= c.ink /\ c.ink <= 8) &&
 (if c.pic = 0 then decide ((c.ch = 0 /\ c.ink = 0 /\ c.bold = false) \/ (32 <= c.ch /\ c.ch < 127)) else decide (c.ch = 0 /\ c.ink = 0 /\ c.bold = false))
def o8 (g : Gr) : Bool := decide (1 <= g.wide /\ g.wide <= 24 /\ 1 <= g.high /\ g.high <= 10 /\ (g.cells.length : Int) = g.wide * g.high /\
 0 <= g.row /\ g.row < g.high /\ 0 <= g.col /\ g.col <= g.wide /\ 0 <= g.ink /\ g.ink <= 8 /\ 0 <= g.top /\ g.top < g.aA /\ g.aA <= g.high) && g.cells.all cG
structure ao (g : Gr) : Prop where
 w1 : 1 <= g.wide
 w2 : g.wide <= 24
 h1 : 1 <= g.high
 h2 : g.high <= 10
 len : (g.cells.length : Int) = g.wide * g.high
 r1 : 0 <= g.row
 r2 : g.row < g.high
 c1 : 0 <= g.col
 c2 : g.col <= g.wide
 i1 : 0 <= g.ink
 i2 : g.ink <= 8
 t1 : 0 <= g.top
 t2 : g.top < g.aA
 b2 : g.aA <= g.high
 all : ∀ c ∈ g.cells, cG c = true
theorem bH {g : Gr} : o8 g = true ↔ ao g := by
 unfold o8
 rw [Bool.and_eq_true, decide_eq_true_eq, List.all_eq_true]
 constructor
 ·rintro ⟨⟨a1, a2, a3, a4, a5, a6, a7, a8, a9, b1, b2, b3, b4, b5⟩, h⟩
  exact ⟨a1, a2, a3, a4, a5, a6, a7, a8, a9, b1, b2, b3, b4, b5, h⟩
 ·rintro ⟨a1, a2, a3, a4, a5, a6, a7, a8, a9, b1, b2, b3, b4, b5, h⟩
  exact ⟨⟨a1, a2, a3, a4, a5, a6, a7, a8, a9, b1, b2, b3, b4, b5⟩, h⟩
def Am (n : Nat) (f : Nat -> Cl) : List Cl := (List.range n).map f
abbrev cg (l : List Cl) (i : Nat) : Cl := l.getD i .z
theorem nB (n : Nat) (f : Nat -> Cl) : (Am n f).length = n := by simp [Am]
theorem rM {n : Nat} {f : Nat -> Cl} {i : Nat} (h : i < n) : cg (Am n f) i = f i := by
 simp [Am, cg, List.getD_eq_getElem?_getD, h]
theorem gP {l m : List Cl} (hl : l.length = m.length) (h : ∀ i, i < l.length -> cg l i = cg m i) : l = m := by
 refine List.ext_getElem hl fun i h1 h2 => ?_
 have := h i h1
 simpa [cg, List.getD_eq_getElem?_getD, List.getElem?_eq_getElem h1, List.getElem?_eq_getElem h2] using this
theorem xT {l : List Cl} {i : Nat} (h : i < l.length) : cg l i ∈ l := by
 simp [cg, List.getD_eq_getElem?_getD, List.getElem?_eq_getElem h]
theorem uo {l : List Cl} {c : Cl} (h : c ∈ l) : ∃ i, i < l.length /\ c = cg l i := by
 obtain ⟨i, hi, rfl⟩ := List.getElem_of_mem h
 exact ⟨i, hi, by simp [cg, List.getD_eq_getElem?_getD, List.getElem?_eq_getElem hi]⟩
theorem yh {l : List Cl} {i : Nat} (h : l.length <= i) : cg l i = .z := by
 simp [cg, List.getD_eq_getElem?_getD, List.getElem?_eq_none h]
theorem qe {l m : List Cl} {i : Nat} : cg (l ++ m) i = if i < l.length then cg l i else cg m (i - l.length) := by
 simp only [cg, List.getD_eq_getElem?_getD]
 split
 ·rw [List.getElem?_append_left (by omega)]
 ·rw [List.getElem?_append_right (by omega)]
theorem tu {l : List Cl} {n i : Nat} (h : i < n) : cg (l.take n) i = cg l i := by
 simp only [cg, List.getD_eq_getElem?_getD]
 rw [List.getElem?_take_of_lt h]
theorem tQ {l : List Cl} {n i : Nat} : cg (l.drop n) i = cg l (n + i) := by
 simp only [cg, List.getD_eq_getElem?_getD, List.getElem?_drop]
theorem Ey {n i : Nat} : cg (List.replicate n Cl.z) i = .z := by
 simp only [cg, List.getD_eq_getElem?_getD, List.getElem?_replicate]
 split <;> rfl
theorem nH {l : List Cl} {k i : Nat} {c : Cl} (h : k < l.length) : cg (l.set k c) i = if i = k then c else cg l i := by
 simp only [cg, List.getD_eq_getElem?_getD]
 split
 ·next e => subst e; simp [h]
 ·next e => rw [List.getElem?_set_ne (fun h => e h.symm)]
theorem BB {i w t : Nat} (h : 0 < w) : i / w < t ↔ i < t * w := Nat.div_lt_iff_lt_mul h
theorem Gv {i w t : Nat} (h : 0 < w) : t <= i / w ↔ t * w <= i := Nat.le_div_iff_mul_le h
def lR (w fr to : Nat) (n : Int) (l : List Cl) : List Cl := Am l.length fun i =>
 if i / w < fr \/ to <= i / w then cg l i
 else if (fr : Int) <= (i / w : Nat) + n /\ ((i / w : Nat) : Int) + n < to then cg l ((i : Int) + n * w).toNat else .z
def cY (lo hi : Nat) (l : List Cl) : List Cl := Am l.length fun i => if lo <= i /\ i < hi then .z else cg l i
def dc (g : Gr) (fr to n : Int) : Gr := { g with cells := lR g.wide.toNat fr.toNat to.toNat n g.cells }
def aO (w h : Int) : Gr := ⟨max 1 (min w 24), max 1 (min h 10), List.replicate (max 1 (min w 24) * max 1 (min h 10)).toNat .z, 0, 0, 0, false, 0, max 1 (min h 10)⟩
def ba (g : Gr) : Gr :=
 if g.row = g.aA - 1 then dc g g.top g.aA 1
 else if g.row < g.high - 1 then { g with row := g.row + 1 } else g
def jR (g : Gr) (ch : Int) : Gr :=
 let g := if g.col = g.wide then ba { g with col := 0 } else g
 { g with cells := g.cells.set (g.row * g.wide + g.col).toNat ⟨ch, g.ink, 0, g.bold⟩, col := g.col + 1 }
def bZ (g : Gr) (c : Int) : Gr :=
 if c = 8 then { g with col := max 0 (min g.col (g.wide - 1) - 1) }
 else if c = 9 then { g with col := min (g.wide - 1) (g.col / 8 * 8 + 8) }
 else if c = 10 then ba g
 else if c = 13 then { g with col := 0 }
 else g
def aQ (l : List Int) (k : Nat) (least : Int) : Int := max least (min (l.getD k 0) 999)
def m8 (g : Gr) (how a fr to : Int) : Gr :=
 if how = 0 then { g with cells := cY a.toNat to.toNat g.cells }
 else if how = 1 then { g with cells := cY fr.toNat (a + 1).toNat g.cells }
 else if how = 2 then { g with cells := cY fr.toNat to.toNat g.cells }
 else g
def cj (g : Gr) (x : Int) : Gr :=
 if x = 0 then { g with ink := 0, bold := false }
 else if x = 1 then { g with bold := true }
 else if x = 22 then { g with bold := false }
 else if 30 <= x /\ x < 38 then { g with ink := x - 29 }
 else if x = 39 then { g with ink := 0 }
 else g
def j4 (g : Gr) (top b : Int) : Gr :=
 let aA := if b = 0 \/ g.high < b then g.high else b
 if top < aA then { g with top := top, aA := aA, row := 0, col := 0 } else g
def aP (g : Gr) (c : Int) (l : List Int) : Gr :=
 let n := aQ l 0 1
 if c = 65 then { g with row := max 0 (g.row - n) }
 else if c = 66 then { g with row := min (g.high - 1) (g.row + n) }
 else if c = 67 then { g with col := min (g.wide - 1) (g.col + n) }
 else if c = 68 then { g with col := max 0 (min g.col (g.wide - 1) - n) }
 else if c = 72 then { g with row := min g.high n - 1, col := min g.wide (aQ l 1 1) - 1 }
 else if c = 74 then m8 g (aQ l 0 0) (g.row * g.wide + min g.col (g.wide - 1)) 0 g.cells.length
 else if c = 75 then m8 g (aQ l 0 0) (g.row * g.wide + min g.col (g.wide - 1)) (g.row * g.wide) ((g.row + 1) * g.wide)
 else if c = 76 \/ c = 77 then
  if g.row < g.top \/ g.aA <= g.row then g
  else { dc g g.row g.aA (if c = 76 then - min n 10 else min n 10) with col := 0 }
 else if c = 109 then l.foldl cj g
 else if c = 114 then j4 g (n - 1) (aQ l 1 0)
 else g
def picC (w h left : Int) : List UInt8 -> Int -> Int -> List Cl -> List Cl
 | [], _, _, l => l
 | b :: bs, r, c, l =>
  if b.toNat = 45 then picC w h left bs (r + 1) left l
  else if 97 <= b.toNat /\ b.toNat < 105 /\ r < h /\ c < w then picC w h left bs r (c + 1) (l.set (r * w + c).toNat ⟨0, 0, (b.toNat : Int) - 96, false⟩)
  else picC w h left bs r (c + 1) l
def dz (g : Gr) (s : List UInt8) : Gr := { g with cells := picC g.wide g.high (min g.col (g.wide - 1)) s g.row (min g.col (g.wide - 1)) g.cells }
def doG (g : Gr) (e : Ev) : Gr × Int :=
 if o8 g = false then (g, 1)
 else if e.kind = 1 then if e.b < 32 \/ 126 < e.b then (g, 6) else (jR g e.b, 0)
 else if e.kind = 2 then (bZ g e.b, 0)
 else if e.kind = 3 then (aP g e.b e.ps, 0)
 else if e.kind = 4 then (dz g e.pl.data.toList, 0)
 else if e.kind = 5 then (aO g.wide g.high, 0)
 else (g, 2)
def allG (g : Gr) : List Ev -> Gr × Int
 | [] => (g, 0)
 | e :: es => if (doG g e).2 = 0 then allG (doG g e).1 es else doG g e
def atG (g : Gr) (r c : Int) : Cl :=
 if g.wide <= 24 /\ g.high <= 10 /\ 0 <= r /\ r < g.high /\ 0 <= c /\ c < g.wide then cg g.cells (r * g.wide + c).toNat else .z
def dt (w w' h' : Nat) (h : Nat) (l : List Cl) : List Cl := Am (w' * h') fun i => if i / w' < h /\ i % w' < w then cg l (i / w' * w + i % w') else .z
def bM (g : Gr) (w h : Int) : Gr × Int :=
 if o8 g = false then (g, 1)
 else
  let w' := max 1 (min w 24)
  let h' := max 1 (min h 10)
  (⟨w', h', dt g.wide.toNat w'.toNat h'.toNat g.high.toNat g.cells, min g.row (h' - 1), min g.col (w' - 1), g.ink, g.bold, 0, h'⟩, 0)
theorem cP (w fr to : Nat) (n : Int) (l : List Cl) : (lR w fr to n l).length = l.length := nB _ _
theorem bO (lo hi : Nat) (l : List Cl) : (cY lo hi l).length = l.length := nB _ _
theorem tn (w h left : Int) : ∀ (s : List UInt8) (r c : Int) (l : List Cl), (picC w h left s r c l).length = l.length
 | [], _, _, _ => rfl
 | b :: s, r, c, l => by
  unfold picC
  split
  ·exact tn w h left s _ _ l
  ·split
   ·rw [tn w h left s, List.length_set]
   ·exact tn w h left s _ _ l
theorem ja {w fr to : Nat} {n : Int} {l : List Cl} {i : Nat} (hi : i < l.length) : cg (lR w fr to n l) i =
  if i / w < fr \/ to <= i / w then cg l i
  else if (fr : Int) <= (i / w : Nat) + n /\ ((i / w : Nat) : Int) + n < to then cg l ((i : Int) + n * w).toNat else .z := rM hi
theorem jf {lo hi : Nat} {l : List Cl} {i : Nat} (h : i < l.length) : cg (cY lo hi l) i = if lo <= i /\ i < hi then .z else cg l i := rM h
theorem ux {w i : Nat} (hw : 0 < w) : ∃ q s, s < w /\ i = q * w + s /\ i / w = q /\ i % w = s :=
 ⟨i / w, i % w, Nat.mod_lt i hw, by have := Nat.div_add_mod i w; rw [Nat.mul_comm] at this; omega, rfl, rfl⟩
theorem tL {w q s : Nat} (h : s < w) : (q * w + s) / w = q := by
 rw [Nat.mul_comm, Nat.mul_add_div (by omega), Nat.div_eq_of_lt h]; rfl
theorem wv {w q s : Nat} (h : s < w) : (q * w + s) % w = s := by
 rw [Nat.mul_comm, Nat.mul_add_mod, Nat.mod_eq_of_lt h]
theorem vZ {w q s : Nat} {m : Int} (h : 0 <= (q : Int) + m) : (((q * w + s : Nat) : Int) + m * w).toNat = ((q : Int) + m).toNat * w + s := by
 obtain ⟨p, hp⟩ : ∃ p : Nat, (p : Int) = q + m := ⟨((q : Int) + m).toNat, Int.toNat_of_nonneg h⟩
 have hm : m = (p : Int) - q := by omega
 subst hm
 rw [Int.sub_mul, show ((q : Int) + (p - q)).toNat = p by omega]
 have e1 : ((p : Int) * w) = ((p * w : Nat) : Int) := by simp
 have e2 : ((q : Int) * w) = ((q * w : Nat) : Int) := by simp
 rw [e1, e2]
 omega
theorem ph {w q s to : Nat} (hs : s < w) (h : q < to) : q * w + s < to * w := by
 have := Nat.mul_le_mul_right w (show q + 1 <= to from h)
 rw [Nat.add_mul] at this
 omega
theorem Ft {w fr to : Nat} (hw : 0 < w) {l : List Cl} (hl : to * w <= l.length) {m n : Int} (h : (0 <= m /\ 0 <= n) \/ (m <= 0 /\ n <= 0)) : lR w fr to m (lR w fr to n l) = lR w fr to (m + n) l := by
 refine gP (by simp only [cP]) fun i hi => ?_
 simp only [cP] at hi
 rw [ja (by rw [cP]; exact hi), ja (n := m + n) hi]
 obtain ⟨q, s, hs, hi2, hq, hm⟩ := ux (i := i) hw
 rw [hq]
 by_cases h1 : q < fr \/ to <= q
 ·rw [if_pos h1, if_pos h1, ja hi, hq, if_pos h1]
 ·rw [if_neg h1, if_neg h1]
  by_cases h2 : (fr : Int) <= (q : Nat) + m /\ ((q : Nat) : Int) + m < to
  ·rw [if_pos h2, hi2, vZ (by omega)]
   have hin : ((q : Int) + m).toNat * w + s < l.length := Nat.lt_of_lt_of_le (ph hs (by omega)) hl
   rw [ja hin, tL hs, if_neg (by omega)]
   by_cases h3 : (fr : Int) <= (q : Nat) + (m + n) /\ ((q : Nat) : Int) + (m + n) < to
   ·rw [if_pos h3, if_pos (by omega), vZ (by omega), vZ (by omega)]
    rw [show ((((q : Int) + m).toNat : Int) + n).toNat = ((q : Int) + (m + n)).toNat by omega]
   ·rw [if_neg h3, if_neg (by omega)]
  ·rw [if_neg h2, if_neg (by omega)]
theorem Fq {w fr to : Nat} {l : List Cl} : lR w fr to 0 l = l := by
 refine gP (cP _ _ _ _ _) fun i hi => ?_
 rw [cP] at hi
 rw [ja hi]
 split
 ·rfl
 ·rw [if_pos (by omega)]
  congr 1
  omega
theorem FQ {w fr to : Nat} {l : List Cl} {m n : Int} (hm : (to : Int) - fr <= m \/ m <= (fr : Int) - to) (hn : (to : Int) - fr <= n \/ n <= (fr : Int) - to) : lR w fr to m l = lR w fr to n l := by
 refine gP (by simp only [cP]) fun i hi => ?_
 rw [cP] at hi
 rw [ja hi, ja hi]
 split
 ·rfl
 ·rw [if_neg (by omega), if_neg (by omega)]
abbrev cN (l : List Cl) : Prop := ∀ c ∈ l, cG c = true
theorem cN.cg {l : List Cl} (h : cN l) (i : Nat) : cG (cg l i) = true := by
 rcases Nat.lt_or_ge i l.length with hi | hi
 ·exact h _ (xT hi)
 ·rw [yh hi]; rfl
theorem cN.tab {n : Nat} {f : Nat -> Cl} (h : ∀ i, i < n -> cG (f i) = true) : cN (Am n f) := fun c hc => by
 obtain ⟨i, hi, rfl⟩ := uo hc
 rw [nB] at hi
 rw [rM hi]
 exact h i hi
theorem cN.EP {l : List Cl} (h : cN l) (w fr to : Nat) (n : Int) : cN (lR w fr to n l) := cN.tab fun i _ => by
 split
 ·exact h.cg _
 ·split
  ·exact h.cg _
  ·rfl
theorem cN.erase {l : List Cl} (h : cN l) (lo hi : Nat) : cN (cY lo hi l) := cN.tab fun i _ => by
 split
 ·rfl
 ·exact h.cg _
theorem cN.set {l : List Cl} (h : cN l) {c : Cl} (hc : cG c = true) (i : Nat) : cN (l.set i c) := fun x hx => by
 rcases List.mem_or_eq_of_mem_set hx with hx | hx
 ·exact h x hx
 ·rw [hx]; exact hc
theorem cN.pic {w h left : Int} : ∀ (s : List UInt8) (r c : Int) (l : List Cl), cN l -> cN (picC w h left s r c l)
 | [], _, _, _, hl => hl
 | b :: s, r, c, l, hl => by
  unfold picC
  split
  ·exact cN.pic s _ _ _ hl
  ·split
   ·next hb =>
    refine cN.pic s _ _ _ (hl.set ?_ _)
    have : (97 : Int) <= b.toNat := by omega
    have : (b.toNat : Int) < 105 := by omega
    unfold cG
    simp only [Bool.and_eq_true, decide_eq_true_eq]
    refine ⟨by omega, ?_⟩
    rw [if_neg (by omega)]
    rfl
   ·exact cN.pic s _ _ _ hl
theorem cN.aS (n : Nat) : cN (List.replicate n .z) := fun c hc => by
 rw [(List.mem_replicate.1 hc).2]; rfl
theorem ao.with {g : Gr} (h : ao g) {l : List Cl} {r c i t b : Int} {bo : Bool} (hl : l.length = g.cells.length) (hg : cN l) (hr : 0 <= r /\ r < g.high) (hc : 0 <= c /\ c <= g.wide) (hi : 0 <= i /\ i <= 8) (ht : 0 <= t /\ t < b /\ b <= g.high) : ao ⟨g.wide, g.high, l, r, c, i, bo, t, b⟩ :=
 ⟨h.w1, h.w2, h.h1, h.h2, by show (l.length : Int) = _; rw [hl]; exact h.len, hr.1, hr.2, hc.1, hc.2, hi.1, hi.2, ht.1, ht.2.1, ht.2.2, hg⟩
structure lM (g x : Gr) : Prop where
 wide : x.wide = g.wide
 high : x.high = g.high
theorem ao.fP {g : Gr} (h : ao g) {l : List Cl} (hl : l.length = g.cells.length) (hg : cN l) : ao { g with cells := l } :=
 h.with hl hg ⟨h.r1, h.r2⟩ ⟨h.c1, h.c2⟩ ⟨h.i1, h.i2⟩ ⟨h.t1, h.t2, h.b2⟩
theorem ao.EP {g : Gr} (h : ao g) (a b n : Int) : ao (dc g a b n) := h.fP (cP _ _ _ _ _) (cN.EP h.all _ _ _ _)
theorem mZ {g : Gr} (h : ao g) : ao (ba g) /\ (ba g).wide = g.wide /\ (ba g).high = g.high /\ (ba g).col = g.col /\ (ba g).ink = g.ink /\ (ba g).bold = g.bold /\ (ba g).top = g.top /\ (ba g).aA = g.aA := by
 unfold ba
 have := h.r1
 have := h.r2
 split
 ·exact ⟨h.EP _ _ _, rfl, rfl, rfl, rfl, rfl, rfl, rfl⟩
 ·split
  ·exact ⟨h.with rfl h.all (by omega) ⟨h.c1, h.c2⟩ ⟨h.i1, h.i2⟩ ⟨h.t1, h.t2, h.b2⟩, rfl, rfl, rfl, rfl, rfl, rfl, rfl⟩
  ·exact ⟨h, rfl, rfl, rfl, rfl, rfl, rfl, rfl⟩
theorem ao.col {g : Gr} (h : ao g) {c : Int} (hc : 0 <= c /\ c <= g.wide) : ao { g with col := c } :=
 h.with rfl h.all ⟨h.r1, h.r2⟩ hc ⟨h.i1, h.i2⟩ ⟨h.t1, h.t2, h.b2⟩
theorem GQ {g : Gr} (h : ao g) {ch : Int} (h0 : 32 <= ch) (h1 : ch <= 126) : ao (jR g ch) /\ lM g (jR g ch) := by
 have key : ∀ x : Gr, ao x -> x.col < x.wide -> ao { x with cells := x.cells.set (x.row * x.wide + x.col).toNat ⟨ch, x.ink, 0, x.bold⟩, col := x.col + 1 } := fun x hx hc => by
  refine hx.with (List.length_set ..) (cN.set hx.all ?_ _) ⟨hx.r1, hx.r2⟩ ⟨by have := hx.c1; omega, by omega⟩ ⟨hx.i1, hx.i2⟩ ⟨hx.t1, hx.t2, hx.b2⟩
  unfold cG
  have := hx.i1
  have := hx.i2
  simp only [Bool.and_eq_true, decide_eq_true_eq, if_true]
  exact ⟨by omega, .inr (by omega)⟩
 unfold jR
 have := h.w1
 split
 ·next hc =>
  have f := mZ (h.col (c := 0) (by omega))
  simp only at f
  refine ⟨key _ f.1 (by rw [f.2.2.2.1, f.2.1]; show (0 : Int) < g.wide; omega), f.2.1, f.2.2.1⟩
 ·next hc => exact ⟨key g h (by have := h.c2; omega), rfl, rfl⟩
theorem CG {g : Gr} (h : ao g) (c : Int) : ao (bZ g c) /\ lM g (bZ g c) := by
 have := h.w1
 have := h.c1
 have := h.c2
 unfold bZ
 split
 ·exact ⟨h.col (by omega), rfl, rfl⟩
 ·split
  ·exact ⟨h.col (by omega), rfl, rfl⟩
  ·split
   ·exact ⟨(mZ h).1, (mZ h).2.1, (mZ h).2.2.1⟩
   ·split
    ·exact ⟨h.col (by omega), rfl, rfl⟩
    ·exact ⟨h, rfl, rfl⟩
theorem GX {g : Gr} (h : ao g) (x : Int) : ao (cj g x) /\ lM g (cj g x) := by
 have key : ∀ i b, 0 <= i /\ i <= 8 -> ao { g with ink := i, bold := b } := fun i b hi => h.with rfl h.all ⟨h.r1, h.r2⟩ ⟨h.c1, h.c2⟩ hi ⟨h.t1, h.t2, h.b2⟩
 have := h.i1
 have := h.i2
 unfold cj
 repeat' split
 all_goals first
  | exact ⟨h, rfl, rfl⟩
  | exact ⟨key _ _ (by omega), rfl, rfl⟩
theorem Cx : ∀ (l : List Int) {g : Gr}, ao g -> ao (l.foldl cj g) /\ lM g (l.foldl cj g)
 | [], g, h => ⟨h, rfl, rfl⟩
 | x :: l, g, h => by
  have h1 := GX h x
  have h2 := Cx l h1.1
  exact ⟨h2.1, h2.2.wide.trans h1.2.wide, h2.2.high.trans h1.2.high⟩
theorem zb {g : Gr} (h : ao g) (how a b c : Int) : ao (m8 g how a b c) /\ lM g (m8 g how a b c) := by
 unfold m8
 repeat' split
 all_goals first
  | exact ⟨h, rfl, rfl⟩
  | exact ⟨h.fP (bO _ _ _) (cN.erase h.all _ _), rfl, rfl⟩
theorem CB {g : Gr} (h : ao g) (c : Int) (l : List Int) : ao (aP g c l) /\ lM g (aP g c l) := by
 have hw1 := h.w1
 have hh1 := h.h1
 have hr1 := h.r1
 have hr2 := h.r2
 have hc1 := h.c1
 have hc2 := h.c2
 have hrow : ∀ r : Int, 0 <= r /\ r < g.high -> ao { g with row := r } := fun r hr => h.with rfl h.all hr ⟨h.c1, h.c2⟩ ⟨h.i1, h.i2⟩ ⟨h.t1, h.t2, h.b2⟩
 have hn : ∀ k, 1 <= aQ l k 1 := fun k => by unfold aQ; omega
 have hn0 := hn 0
 have hn1 := hn 1
 have h01 : 0 <= aQ l 1 0 := by unfold aQ; omega
 unfold aP
 generalize aQ l 0 1 = n at hn0 ⊢
 generalize aQ l 1 1 = m at hn1 ⊢
 generalize aQ l 1 0 = b at h01 ⊢
 generalize aQ l 0 0 = a
 clear hn
 have s : ∀ {x : Gr}, ao x -> x.wide = g.wide -> x.high = g.high -> ao x /\ lM g x := fun h a b => ⟨h, a, b⟩
 dsimp only
 by_cases e1 : c = 65
 ·rw [if_pos e1]; exact s (hrow _ (by omega)) rfl rfl
 rw [if_neg e1]
 by_cases e1 : c = 66
 ·rw [if_pos e1]; exact s (hrow _ (by omega)) rfl rfl
 rw [if_neg e1]
 by_cases e1 : c = 67
 ·rw [if_pos e1]; exact s (h.col (by omega)) rfl rfl
 rw [if_neg e1]
 by_cases e1 : c = 68
 ·rw [if_pos e1]; exact s (h.col (by omega)) rfl rfl
 rw [if_neg e1]
 by_cases e1 : c = 72
 ·rw [if_pos e1]; exact s (h.with rfl h.all (by omega) (by omega) ⟨h.i1, h.i2⟩ ⟨h.t1, h.t2, h.b2⟩) rfl rfl
 rw [if_neg e1]
 by_cases e1 : c = 74
 ·rw [if_pos e1]; exact zb h _ _ _ _
 rw [if_neg e1]
 by_cases e1 : c = 75
 ·rw [if_pos e1]; exact zb h _ _ _ _
 rw [if_neg e1]
 by_cases e1 : c = 76 \/ c = 77
 ·rw [if_pos e1]
  by_cases e2 : g.row < g.top \/ g.aA <= g.row
  ·rw [if_pos e2]; exact s h rfl rfl
  ·rw [if_neg e2]
   exact s ((h.EP _ _ _).col (c := 0) (by show (0:Int) <= 0 /\ (0 : Int) <= g.wide; omega)) rfl rfl
 rw [if_neg e1]
 by_cases e1 : c = 109
 ·rw [if_pos e1]; exact Cx l h
 rw [if_neg e1]
 by_cases e1 : c = 114
 ·rw [if_pos e1]
  unfold j4
  dsimp only
  have hb : 0 < (if b = 0 \/ g.high < b then g.high else b) /\ (if b = 0 \/ g.high < b then g.high else b) <= g.high := by split <;> omega
  generalize (if b = 0 \/ g.high < b then g.high else b) = b' at hb ⊢
  by_cases e2 : n - 1 < b'
  ·rw [if_pos e2]
   exact s (h.with rfl h.all (by omega) (by omega) ⟨h.i1, h.i2⟩ (by omega)) rfl rfl
  ·rw [if_neg e2]; exact s h rfl rfl
 rw [if_neg e1]
 exact s h rfl rfl
theorem Cc {g : Gr} (h : ao g) (s : List UInt8) : ao (dz g s) /\ lM g (dz g s) :=
 ⟨h.fP (tn _ _ _ _ _ _ _) (cN.pic s _ _ _ h.all), rfl, rfl⟩
theorem dr (w h : Int) : ao (aO w h) := by
 refine ⟨by show (1 : Int) <= max 1 (min w 24); omega, by show max 1 (min w 24) <= (24 : Int); omega, by show (1 : Int) <= max 1 (min h 10); omega, by show max 1 (min h 10) <= (10 : Int); omega, ?_, Int.le_refl _, by show (0 : Int) < max 1 (min h 10); omega, Int.le_refl _, by show (0 : Int) <= max 1 (min w 24); omega, Int.le_refl _, by show (0 : Int) <= 8; decide, Int.le_refl _, by show (0 : Int) < max 1 (min h 10); omega, Int.le_refl _, cN.aS _⟩
 show ((List.replicate _ _).length : Int) = _
 rw [List.length_replicate]
 exact Int.toNat_of_nonneg (Int.mul_nonneg (by omega) (by omega))
theorem tY {g : Gr} (h : ao g) : lM g (aO g.wide g.high) := by
 have := h.w1
 have := h.w2
 have := h.h1
 have := h.h2
 exact ⟨by show max 1 (min g.wide 24) = g.wide; omega, by show max 1 (min g.high 10) = g.high; omega⟩
theorem DK {g : Gr} (h : ao g) (e : Ev) : ao (doG g e).1 /\ lM g (doG g e).1 := by
 unfold doG
 split
 ·exact ⟨h, rfl, rfl⟩
 split
 ·split
  ·exact ⟨h, rfl, rfl⟩
  ·exact GQ h (by omega) (by omega)
 split
 ·exact CG h _
 split
 ·exact CB h _ _
 split
 ·exact Cc h _
 split
 ·exact ⟨dr _ _, tY h⟩
 ·exact ⟨h, rfl, rfl⟩
theorem HP {g : Gr} {e : Ev} (h : (doG g e).2 ≠ 0) : (doG g e).1 = g := by
 unfold doG at h ⊢
 repeat' (split at h)
 all_goals first
  | (exfalso; exact h rfl)
  | (simp only [*, if_true, if_false, Bool.false_eq_true, Bool.true_eq_false])
theorem uY {g : Gr} (h : ao g) (e : Ev) : doG g e = if e.kind = 1 then if e.b < 32 \/ 126 < e.b then (g, 6) else (jR g e.b, 0)
 else if e.kind = 2 then (bZ g e.b, 0)
 else if e.kind = 3 then (aP g e.b e.ps, 0)
 else if e.kind = 4 then (dz g e.pl.data.toList, 0)
 else if e.kind = 5 then (aO g.wide g.high, 0)
 else (g, 2) := by
 unfold doG
 rw [if_neg (by rw [bH.2 h]; simp)]
theorem Hc {g : Gr} {e : Ev} (h : (doG g e).2 = 0) : ao g := by
 rw [<- bH]
 cases hg : o8 g with
 | true => rfl
 | false =>
  unfold doG at h
  rw [if_pos hg] at h
  cases h
theorem kV {g : Gr} (h : ao g) : g.cells.length = g.high.toNat * g.wide.toNat := by
 have hl := h.len
 have := h.w1
 have := h.h1
 obtain ⟨w, hw⟩ : ∃ w : Nat, g.wide = w := ⟨g.wide.toNat, by omega⟩
 obtain ⟨k, hk⟩ : ∃ k : Nat, g.high = k := ⟨g.high.toNat, by omega⟩
 rw [hw, hk] at hl ⊢
 simp only [Int.toNat_natCast]
 rw [Nat.mul_comm]
 exact_mod_cast hl
theorem Fy {w : Int} (hw : 0 <= w) (r c : Nat) : ((r : Int) * w + c).toNat = r * w.toNat + c := by
 obtain ⟨k, hk⟩ : ∃ k : Nat, w = k := ⟨w.toNat, by omega⟩
 rw [hk]
 simp only [Int.toNat_natCast]
 have e : (r : Int) * k + c = ((r * k + c : Nat) : Int) := by simp
 rw [e, Int.toNat_natCast]
theorem GH {g : Gr} (h : ao g) {r c : Nat} (hr : (r : Int) < g.high) (hc : (c : Int) < g.wide) : atG g r c = cg g.cells (r * g.wide.toNat + c) := by
 have := h.w1
 unfold atG
 rw [if_pos ⟨h.w2, h.h2, by omega, hr, by omega, hc⟩, Fy (by omega)]
theorem wT {g : Gr} (hg : ao g) (w h : Int) : (bM g w h).2 = 0 /\ ao (bM g w h).1 /\ (bM g w h).1.wide = max 1 (min w 24) /\ (bM g w h).1.high = max 1 (min h 10) /\
  ∀ r c : Nat, (r : Int) < (bM g w h).1.high -> (c : Int) < (bM g w h).1.wide -> atG (bM g w h).1 r c = atG g r c := by
 have hr1 := hg.r1
 have hc1 := hg.c1
 have hw1 := hg.w1
 have he : bM g w h = (⟨max 1 (min w 24), max 1 (min h 10), dt g.wide.toNat (max 1 (min w 24)).toNat (max 1 (min h 10)).toNat g.high.toNat g.cells, min g.row (max 1 (min h 10) - 1), min g.col (max 1 (min w 24) - 1), g.ink, g.bold, 0, max 1 (min h 10)⟩, 0) := by
  unfold bM
  rw [if_neg (by rw [bH.2 hg]; simp)]
 have hgood : ao (bM g w h).1 := by
  rw [he]
  refine ⟨?_, ?_, ?_, ?_, ?_, ?_, ?_, ?_, ?_, hg.i1, hg.i2, Int.le_refl _, ?_, Int.le_refl _, ?_⟩
  ·show (1 : Int) <= max 1 (min w 24); omega
  ·show max 1 (min w 24) <= (24 : Int); omega
  ·show (1 : Int) <= max 1 (min h 10); omega
  ·show max 1 (min h 10) <= (10 : Int); omega
  ·show ((dt _ _ _ _ _).length : Int) = max 1 (min w 24) * max 1 (min h 10)
   unfold dt
   rw [nB]
   have e1 : ((max 1 (min w 24)).toNat : Int) = max 1 (min w 24) := Int.toNat_of_nonneg (by omega)
   have e2 : ((max 1 (min h 10)).toNat : Int) = max 1 (min h 10) := Int.toNat_of_nonneg (by omega)
   push_cast
   rw [e1, e2]
  ·show 0 <= min g.row (max 1 (min h 10) - 1); omega
  ·show min g.row (max 1 (min h 10) - 1) < max 1 (min h 10); omega
  ·show 0 <= min g.col (max 1 (min w 24) - 1); omega
  ·show min g.col (max 1 (min w 24) - 1) <= max 1 (min w 24); omega
  ·show (0 : Int) < max 1 (min h 10); omega
  ·refine cN.tab fun i _ => ?_
   split
   ·exact cN.cg hg.all _
   ·rfl
 refine ⟨by rw [he], hgood, by rw [he], by rw [he], fun r c hr hc => ?_⟩
 rw [GH hgood hr hc]
 rw [he] at hr hc ⊢
 simp only at hr hc ⊢
 have hcw : c < (max 1 (min w 24)).toNat := by omega
 unfold dt
 rw [rM (by rw [Nat.mul_comm (max 1 (min w 24)).toNat]; exact ph hcw (by omega)), tL hcw, wv hcw]
 split
 ·next hin => rw [GH hg (by omega) (by omega)]
 ·next hin =>
  unfold atG
  rw [if_neg (by omega)]
abbrev aD := List (List Int)
def cy (p : Int) : Bool := decide (0 <= p /\ p < 6)
structure cF (t : aD) : Prop where
 each : ∀ c ∈ t, 1 <= c.length /\ c.length <= 3
 E6 : ∀ p ∈ t.flatten, cy p = true
 nodup : t.flatten.Nodup
 some : t ≠ []
def apart : List Int -> Bool
 | [] => true
 | p :: l => !(l.contains p) && apart l
def mV (t : aD) : Bool := t.all (fun c => decide (1 <= c.length /\ c.length <= 3)) && t.flatten.all cy && apart t.flatten && !t.isEmpty
theorem yU : ∀ {l : List Int}, apart l = true ↔ l.Nodup
 | [] => by simp [apart]
 | p :: l => by simp [apart, yU (l := l), List.nodup_cons]
theorem bI {t : aD} : mV t = true ↔ cF t := by
 unfold mV
 simp only [Bool.and_eq_true, List.all_eq_true, decide_eq_true_eq, yU, Bool.not_eq_true', List.isEmpty_eq_false_iff]
 exact ⟨fun ⟨⟨⟨a, b⟩, c⟩, d⟩ => ⟨a, b, c, d⟩, fun ⟨a, b, c, d⟩ => ⟨⟨⟨a, b⟩, c⟩, d⟩⟩
theorem CI : ∀ {l m : List Int}, l.Nodup -> (∀ x ∈ l, x ∈ m) -> l.length <= m.length
 | [], m, _, _ => by simp
 | a :: l, m, hn, hs => by
  rw [List.nodup_cons] at hn
  have ha := hs a List.mem_cons_self
  have := CI (l := l) (m := m.erase a) hn.2 fun x hx => (List.mem_erase_of_ne fun e : x = a => hn.1 (e ▸ hx)).2 (hs x (List.mem_cons_of_mem _ hx))
  rw [List.length_erase_of_mem ha] at this
  have := List.length_pos_of_mem ha
  simp only [List.length_cons]
  omega
theorem F4 {l : List Int} (h : ∀ p ∈ l, cy p = true) (hn : l.Nodup) : l.length <= 6 := by
 refine CI (m := [0, 1, 2, 3, 4, 5]) hn fun p hp => ?_
 ·have := h p hp
  simp only [cy, decide_eq_true_eq] at this
  simp only [List.mem_cons, List.not_mem_nil, or_false]
  omega
theorem pD : ∀ {t : aD}, (∀ c ∈ t, 1 <= c.length) -> t.length <= t.flatten.length
 | [], _ => by simp
 | c :: t, h => by
  have := pD (t := t) fun d hd => h d (List.mem_cons_of_mem _ hd)
  have := h c List.mem_cons_self
  simp only [List.length_cons, List.flatten_cons, List.length_append]
  omega
theorem cF.few {t : aD} (h : cF t) : t.length <= 6 := Nat.le_trans (pD fun c hc => (h.each c hc).1) (F4 h.E6 h.nodup)
def findT : aD -> Int -> Option (Nat × Nat)
 | [], _ => none
 | c :: t, p => if c.contains p then some (0, c.idxOf p) else (findT t p).map fun x => (x.1 + 1, x.2)
def br (t : aD) (p : Int) : Bool := t.flatten.contains p
theorem iS : ∀ {t : aD} {p : Int}, findT t p = none ↔ br t p = false
 | [], p => by simp [findT, br]
 | c :: t, p => by
  have ih := iS (t := t) (p := p)
  unfold findT
  split
  ·next h => simp [br, List.contains_iff_mem] at h ⊢; exact fun hn => (hn h).elim
  ·next h =>
   rw [Option.map_eq_none_iff, ih]
   simp [br, List.contains_iff_mem] at h ⊢
   exact fun _ => h
theorem db : ∀ {t : aD} {p : Int} {i k : Nat}, findT t p = some (i, k) -> i < t.length /\ k < (t.getD i []).length /\ (t.getD i []).getD k 0 = p
 | [], p, i, k, h => by simp [findT] at h
 | c :: t, p, i, k, h => by
  unfold findT at h
  split at h
  ·next hc =>
   simp only [Option.some.injEq, Prod.mk.injEq] at h
   obtain ⟨rfl, rfl⟩ := h
   have hm : p ∈ c := by simpa [List.contains_iff_mem] using hc
   have hlt := List.idxOf_lt_length_of_mem hm
   refine ⟨by simp, by simpa using hlt, ?_⟩
   simp [List.getD_eq_getElem?_getD, List.getElem?_eq_getElem hlt]
  ·next hc =>
   cases hf : findT t p with
   | none => rw [hf] at h; simp at h
   | some x =>
    rw [hf] at h
    simp only [Option.map_some, Option.some.injEq, Prod.mk.injEq] at h
    obtain ⟨rfl, rfl⟩ := h
    have := db (t := t) (p := p) (i := x.1) (k := x.2) (by rw [hf])
    simpa using this
theorem kQ {t : aD} {p : Int} : br t p = true ↔ ∃ i k, findT t p = some (i, k) := by
 cases h : findT t p with
 | none => simp [iS.1 h]
 | some x =>
  simp only [Option.some.injEq]
  refine ⟨fun _ => ⟨x.1, x.2, rfl⟩, fun _ => ?_⟩
  cases hh : br t p with
  | true => rfl
  | false => rw [iS.2 hh] at h; cases h
def aw (length n k : Int) : Int × Int :=
 if n < 1 \/ 6 < n \/ k < 0 \/ n <= k \/ length < 0 \/ 24 < length then (0, 0)
 else if length - (n - 1) < n then (0, 0)
 else (k * ((length - (n - 1)) / n + 1) + min k ((length - (n - 1)) % n), (length - (n - 1)) / n + if k < (length - (n - 1)) % n then 1 else 0)
structure Rc where
 row : Int
 col : Int
 high : Int
 wide : Int
abbrev Rc.zero : Rc := ⟨0, 0, 0, 0⟩
theorem Rc.pq {a b : Rc} : a = b ↔ a.row = b.row /\ a.col = b.col /\ a.high = b.high /\ a.wide = b.wide := by
 cases a; cases b; simp only [Rc.mk.injEq]
instance : DecidableEq Rc := fun _ _ => decidable_of_iff _ Rc.pq.symm
def whereT (t : aD) (wide high p : Int) : Rc :=
 match findT t p with
 | none => .zero
 | some (i, k) =>
  if mV t = false then .zero
  else
   let x := aw wide t.length i
   let y := aw high (t.getD i []).length k
   if x.2 = 0 \/ y.2 = 0 then .zero else ⟨y.1, x.1, y.2, x.2⟩
theorem fE {length n k : Int} (h : (aw length n k).2 ≠ 0) : 1 <= n /\ n <= 6 /\ 0 <= k /\ k < n /\ 2 * n - 1 <= length /\ length <= 24 := by
 unfold aw at h
 split at h
 ·exact (h rfl).elim
 ·split at h
  ·exact (h rfl).elim
  ·omega
theorem pX {length n k : Int} (h : ¬ (1 <= n /\ n <= 6 /\ 0 <= k /\ k < n /\ 2 * n - 1 <= length /\ length <= 24)) : aw length n k = (0, 0) := by
 unfold aw
 split
 ·rfl
 ·rw [if_pos (by omega)]
theorem sg {length n k : Int} (h : 1 <= n /\ n <= 6 /\ 0 <= k /\ k < n /\ 2 * n - 1 <= length /\ length <= 24) :
  ∃ each more : Int, 1 <= each /\ 0 <= more /\ more < n /\ length - (n - 1) = n * each + more /\ each = (length - (n - 1)) / n /\ more = (length - (n - 1)) % n /\ aw length n k = (k * (each + 1) + min k more, each + if k < more then 1 else 0) := by
 refine ⟨(length - (n - 1)) / n, (length - (n - 1)) % n, ?_, Int.emod_nonneg _ (by omega), Int.emod_lt_of_pos _ (by omega), (Int.mul_ediv_add_emod _ _).symm, rfl, rfl, ?_⟩
 ·exact Int.le_ediv_of_mul_le (by omega) (by omega)
 ·unfold aw
  rw [if_neg (by omega), if_neg (by omega)]
theorem qa {length n k : Int} (h : 1 <= n /\ n <= 6 /\ 0 <= k /\ k < n /\ 2 * n - 1 <= length /\ length <= 24) : 1 <= (aw length n k).2 /\ 0 <= (aw length n k).1 := by
 obtain ⟨e, m, he, hm, hmn, hl, _, _, hs⟩ := sg h
 rw [hs]
 simp only
 have := Int.mul_nonneg h.2.2.1 (show 0 <= e + 1 by omega)
 constructor
 ·split <;> omega
 ·omega
theorem Ea {length n k : Int} : (aw length n k).2 = 0 -> aw length n k = (0, 0) := fun h => pX fun hr => by
 have := (qa hr).1
 omega
theorem dw (length n k : Int) : 0 <= (aw length n k).1 /\ 0 <= (aw length n k).2 := by
 by_cases h : 1 <= n /\ n <= 6 /\ 0 <= k /\ k < n /\ 2 * n - 1 <= length /\ length <= 24
 ·have := qa h
  omega
 ·rw [pX h]; exact ⟨Int.le_refl _, Int.le_refl _⟩
theorem wX {length n k : Int} (h : 1 <= n /\ n <= 6 /\ 0 <= k /\ k + 1 < n /\ 2 * n - 1 <= length /\ length <= 24) : (aw length n (k + 1)).1 = (aw length n k).1 + (aw length n k).2 + 1 := by
 obtain ⟨e, m, he, hm, hmn, hl, h1, h2, hs⟩ := sg (length := length) (n := n) (k := k) (by omega)
 obtain ⟨e', m', _, _, _, _, h1', h2', hs'⟩ := sg (length := length) (n := n) (k := k + 1) (by omega)
 rw [<- h1] at h1'
 rw [<- h2] at h2'
 subst h1' h2'
 rw [hs, hs']
 simp only
 rw [Int.add_mul]
 split <;> omega
theorem DM {length n : Int} (h : 1 <= n /\ n <= 6 /\ 2 * n - 1 <= length /\ length <= 24) : (aw length n (n - 1)).1 + (aw length n (n - 1)).2 = length := by
 obtain ⟨e, m, he, hm, hmn, hl, _, _, hs⟩ := sg (length := length) (n := n) (k := n - 1) (by omega)
 rw [hs]
 simp only
 rw [if_neg (by omega), Int.sub_mul, Int.mul_add]
 omega
theorem vu {length n k : Int} (hr : 1 <= n /\ n <= 6 /\ 2 * n - 1 <= length /\ length <= 24) (h0 : 0 <= k) : ∀ d : Nat, k + 1 + d < n -> (aw length n k).1 + (aw length n k).2 + 1 <= (aw length n (k + 1 + d)).1
 | 0, h => by
  have := wX (length := length) (n := n) (k := k) (by omega)
  simp only [Int.natCast_zero, Int.add_zero] at *
  omega
 | d + 1, h => by
  have ih := vu hr h0 d (by omega)
  have h1 := wX (length := length) (n := n) (k := k + 1 + d) (by omega)
  have h2 := (qa (length := length) (n := n) (k := k + 1 + d) (by omega)).1
  have e : k + 1 + ((d + 1 : Nat) : Int) = k + 1 + d + 1 := by omega
  rw [e, h1]
  omega
theorem pK {length n k j : Int} (hr : 1 <= n /\ n <= 6 /\ 2 * n - 1 <= length /\ length <= 24) (h0 : 0 <= k) (h : k < j) (hj : j < n) : (aw length n k).1 + (aw length n k).2 + 1 <= (aw length n j).1 := by
 have := vu hr h0 (j - k - 1).toNat (by omega)
 rwa [show k + 1 + ((j - k - 1).toNat : Int) = j by omega] at this
theorem pT (length n k : Int) : (aw length n k).1 + (aw length n k).2 <= max 0 length := by
 by_cases h : 1 <= n /\ n <= 6 /\ 0 <= k /\ k < n /\ 2 * n - 1 <= length /\ length <= 24
 ·have hl := DM (length := length) (n := n) (by omega)
  by_cases hk : k = n - 1
  ·subst hk; omega
  ·have := pK (length := length) (n := n) (k := k) (j := n - 1) (by omega) (by omega) (by omega) (by omega)
   have := qa (length := length) (n := n) (k := n - 1) (by omega)
   omega
 ·rw [pX h]
  show (0 : Int) + 0 <= _
  omega
theorem lT (t : aD) (wide high p : Int) : whereT t wide high p = .zero \/ ∃ i k, findT t p = some (i, k) /\ cF t /\ (aw wide t.length i).2 ≠ 0 /\ (aw high (t.getD i []).length k).2 ≠ 0 /\
  whereT t wide high p = ⟨(aw high (t.getD i []).length k).1, (aw wide t.length i).1, (aw high (t.getD i []).length k).2, (aw wide t.length i).2⟩ := by
 unfold whereT
 cases hf : findT t p with
 | none => exact .inl rfl
 | some x =>
  obtain ⟨i, k⟩ := x
  simp only
  by_cases hg : mV t = false
  ·rw [if_pos hg]; exact .inl rfl
  ·rw [if_neg hg]
   by_cases hz : (aw wide t.length i).2 = 0 \/ (aw high (t.getD i []).length k).2 = 0
   ·rw [if_pos hz]; exact .inl rfl
   ·rw [if_neg hz]
    exact .inr ⟨i, k, rfl, bI.1 (by simpa using hg), fun h => hz (.inl h), fun h => hz (.inr h), rfl⟩
def inR (r : Rc) (row col : Int) : Prop := r.row <= row /\ row < r.row + r.high /\ r.col <= col /\ col < r.col + r.wide
theorem FE (t : aD) (wide high p : Int) : 0 <= (whereT t wide high p).row /\ 0 <= (whereT t wide high p).col /\ (whereT t wide high p).row + (whereT t wide high p).high <= max 0 high /\ (whereT t wide high p).col + (whereT t wide high p).wide <= max 0 wide /\
  0 <= (whereT t wide high p).high /\ 0 <= (whereT t wide high p).wide /\ (0 < (whereT t wide high p).high ↔ 0 < (whereT t wide high p).wide) /\ (0 < (whereT t wide high p).wide -> br t p = true) := by
 rcases lT t wide high p with h | ⟨i, k, hf, hg, hw, hh, h⟩
 ·rw [h]; exact ⟨Int.le_refl _, Int.le_refl _, by show (0 : Int) + 0 <= _; omega, by show (0 : Int) + 0 <= _; omega, Int.le_refl _, Int.le_refl _, Iff.rfl, fun h => by simp at h⟩
 ·rw [h]
  simp only
  have a := dw wide t.length i
  have b := dw high (t.getD i []).length k
  have c := pT wide t.length i
  have d := pT high (t.getD i []).length k
  refine ⟨b.1, a.1, d, c, b.2, a.2, by omega, fun _ => kQ.2 ⟨i, k, hf⟩⟩
theorem B7 {t : aD} {wide high p q row col : Int} (hp : inR (whereT t wide high p) row col) (hq : inR (whereT t wide high q) row col) : p = q := by
 rcases lT t wide high p with h | ⟨i, k, hf, hg, hw, hh, h⟩
 ·rw [h] at hp; simp only [inR, Rc.zero] at hp; omega
 rcases lT t wide high q with h' | ⟨j, l, hf', hg', hw', hh', h'⟩
 ·rw [h'] at hq; simp only [inR, Rc.zero] at hq; omega
 rw [h] at hp
 rw [h'] at hq
 simp only [inR] at hp hq
 have r1 := fE hw
 have r2 := fE hw'
 have hij : i = j := by
  rcases Nat.lt_trichotomy i j with hlt | rfl | hlt
  ·have := pK (length := wide) (n := t.length) (k := i) (j := j) (by omega) (by omega) (by omega) (by omega)
   omega
  ·rfl
  ·have := pK (length := wide) (n := t.length) (k := j) (j := i) (by omega) (by omega) (by omega) (by omega)
   omega
 subst hij
 have s1 := fE hh
 have s2 := fE hh'
 have hkl : k = l := by
  rcases Nat.lt_trichotomy k l with hlt | rfl | hlt
  ·have := pK (length := high) (n := (t.getD i []).length) (k := k) (j := l) (by omega) (by omega) (by omega) (by omega)
   omega
  ·rfl
  ·have := pK (length := high) (n := (t.getD i []).length) (k := l) (j := k) (by omega) (by omega) (by omega) (by omega)
   omega
 subst hkl
 rw [<- (db hf).2.2, <- (db hf').2.2]
def gQ {α : Type} (l : List α) (i : Nat) (x : α) : List α := l.take i ++ x :: l.drop i
def aY (t : aD) (p n : Int) (right : Bool) : aD × Int :=
 if mV t = false \/ cy n = false then (t, 1)
 else match findT t p with
  | none => (t, 3)
  | some (i, k) =>
   if br t n = true then (t, 4)
   else if right = false /\ 3 <= (t.getD i []).length then (t, 5)
   else if right = true then (gQ t (i + 1) [n], 0)
   else (t.set i (gQ (t.getD i []) (k + 1) n), 0)
def bk (t : aD) (p : Int) : aD × Int :=
 if mV t = false then (t, 1)
 else match findT t p with
  | none => (t, 3)
  | some (i, k) =>
   if t.length = 1 /\ (t.getD 0 []).length = 1 then (t, 5)
   else if (t.getD i []).length = 1 then (t.eraseIdx i, 0)
   else (t.set i ((t.getD i []).eraseIdx k), 0)
def gZ (p n : Int) (right : Bool) (c : List Int) : List Int := c.flatMap fun q => if q = p /\ right = false then [q, n] else [q]
def splitR (p n : Int) (right : Bool) : aD -> Option aD
 | [] => some []
 | c :: t => if 3 < (gZ p n right c).length then none
  else (splitR p n right t).map fun l => (gZ p n right c) :: (if c.contains p /\ right = true then [n] :: l else l)
def eI (t : aD) (p : Int) : aD := (t.map fun c => c.filter (· ≠ p)).filter fun c => !c.isEmpty
theorem Dg {q p : Int} (h : q ≠ p) {c : List Int} : (q :: c).idxOf p = c.idxOf p + 1 := by
 rw [List.idxOf_cons]
 have : (q == p) = false := by simpa using h
 rw [this]
 rfl
theorem D8 (p n : Int) (c : List Int) : gZ p n true c = c := by
 induction c with
 | nil => rfl
 | cons q c ih => simp [gZ] at ih ⊢
theorem xz {p n : Int} {right : Bool} {c : List Int} (h : p ∉ c) : gZ p n right c = c := by
 induction c with
 | nil => rfl
 | cons q c ih =>
  rw [List.mem_cons, not_or] at h
  have := ih h.2
  simp only [gZ] at this ⊢
  rw [List.flatMap_cons, this, if_neg (by rintro ⟨rfl, _⟩; exact h.1 rfl)]
  rfl
theorem Hs {p n : Int} {c : List Int} (hp : p ∈ c) (hn : c.Nodup) : gZ p n false c = gQ c (c.idxOf p + 1) n := by
 induction c with
 | nil => simp at hp
 | cons q c ih =>
  rw [List.nodup_cons] at hn
  by_cases e : q = p
  ·subst e
   have := xz (p := q) (n := n) (right := false) hn.1
   simp only [gZ] at this ⊢
   rw [List.flatMap_cons, this]
   simp [gQ]
  ·have hc : p ∈ c := by
    rcases List.mem_cons.1 hp with h | h
    ·exact (e h.symm).elim
    ·exact h
   have := ih hc hn.2
   simp only [gZ] at this ⊢
   rw [List.flatMap_cons, this, if_neg (by rintro ⟨rfl, _⟩; exact e rfl)]
   rw [Dg e]
   simp [gQ]
theorem yd {p n : Int} {right : Bool} : ∀ {t : aD}, (∀ c ∈ t, c.length <= 3) -> p ∉ t.flatten -> splitR p n right t = some t
 | [], _, _ => rfl
 | c :: t, h, hp => by
  simp only [List.flatten_cons, List.mem_append, not_or] at hp
  unfold splitR
  have hcp : ¬ (c.contains p = true /\ right = true) := by rintro ⟨h, _⟩; exact hp.1 (by simpa [List.contains_iff_mem] using h)
  rw [xz hp.1, if_neg (by have := h c List.mem_cons_self; omega), yd (fun d hd => h d (List.mem_cons_of_mem _ hd)) hp.2, Option.map_some, if_neg hcp]
theorem zl {p n : Int} {right : Bool} : ∀ {t : aD} {i k : Nat}, (∀ c ∈ t, c.length <= 3) -> t.flatten.Nodup -> findT t p = some (i, k) ->
  splitR p n right t = if right = false /\ 3 <= (t.getD i []).length then none else some (if right = true then gQ t (i + 1) [n] else t.set i (gQ (t.getD i []) (k + 1) n))
 | [], _, _, _, _, h => by simp [findT] at h
 | c :: t, i, k, h3, hn, hf => by
  simp only [List.flatten_cons, List.nodup_append] at hn
  unfold findT at hf
  have hc3 := h3 c List.mem_cons_self
  have ht3 : ∀ d ∈ t, d.length <= 3 := fun d hd => h3 d (List.mem_cons_of_mem _ hd)
  split at hf
  ·next hc =>
   simp only [Option.some.injEq, Prod.mk.injEq] at hf
   obtain ⟨rfl, rfl⟩ := hf
   have hm : p ∈ c := by simpa [List.contains_iff_mem] using hc
   have hnt : p ∉ t.flatten := fun h => hn.2.2 p hm p h rfl
   unfold splitR
   rw [yd ht3 hnt]
   cases right with
   | true =>
    rw [D8, if_neg (by omega), Option.map_some, if_pos ⟨hc, rfl⟩, if_neg (by simp), if_pos rfl]
    simp [gQ]
   | false =>
    rw [Hs hm hn.1]
    have hl : (gQ c (c.idxOf p + 1) n).length = c.length + 1 := by
     have := List.idxOf_lt_length_of_mem hm
     simp [gQ]; omega
    simp only [List.getD_cons_zero]
    by_cases hlt : 3 <= c.length
    ·rw [if_pos (by omega), if_pos ⟨trivial, hlt⟩]
    ·rw [if_neg (by omega), if_neg (by rintro ⟨_, h⟩; exact hlt h)]
     simp
  ·next hc =>
   cases hf' : findT t p with
   | none => rw [hf'] at hf; simp at hf
   | some x =>
    rw [hf'] at hf
    simp only [Option.map_some, Option.some.injEq, Prod.mk.injEq] at hf
    obtain ⟨rfl, rfl⟩ := hf
    have hm : p ∉ c := by simpa [List.contains_iff_mem] using hc
    have ih := zl (right := right) (n := n) ht3 hn.2.1 hf'
    unfold splitR
    have hno : ¬ (c.contains p = true /\ right = true) := fun h => hc h.1
    rw [xz hm, if_neg (by omega), ih]
    simp only [hno, if_false, List.getD_cons_succ]
    by_cases h5 : right = false /\ 3 <= (t.getD x.1 []).length
    ·rw [if_pos h5, if_pos h5]; rfl
    ·rw [if_neg h5, if_neg h5]
     cases right <;> simp [gQ]
theorem nx {p : Int} {c : List Int} (h : p ∉ c) : c.filter (· ≠ p) = c := by
 rw [List.filter_eq_self]
 intro q hq
 simp only [ne_eq, decide_not, Bool.not_eq_true', decide_eq_false_iff_not]
 rintro rfl
 exact h hq
theorem zn {p : Int} {c : List Int} (h : p ∈ c) (hn : c.Nodup) : c.filter (· ≠ p) = c.eraseIdx (c.idxOf p) := by
 induction c with
 | nil => simp at h
 | cons q c ih =>
  rw [List.nodup_cons] at hn
  by_cases e : q = p
  ·subst e
   rw [List.filter_cons_of_neg (by simp), nx hn.1]
   simp
  ·have hc : p ∈ c := by
    rcases List.mem_cons.1 h with h | h
    ·exact (e h.symm).elim
    ·exact h
   rw [List.filter_cons_of_pos (by simpa using e), ih hc hn.2, Dg e]
   rfl
theorem zq {p : Int} : ∀ {t : aD}, (∀ c ∈ t, 1 <= c.length) -> p ∉ t.flatten -> eI t p = t
 | [], _, _ => rfl
 | c :: t, h, hp => by
  simp only [List.flatten_cons, List.mem_append, not_or] at hp
  have ih := zq (t := t) (fun d hd => h d (List.mem_cons_of_mem _ hd)) hp.2
  unfold eI at ih ⊢
  rw [List.map_cons, nx hp.1, List.filter_cons_of_pos, ih]
  have := h c List.mem_cons_self
  cases c <;> simp at this ⊢
theorem Cs {p : Int} : ∀ {t : aD} {i k : Nat}, (∀ c ∈ t, 1 <= c.length) -> t.flatten.Nodup -> findT t p = some (i, k) ->
  eI t p = if (t.getD i []).length = 1 then t.eraseIdx i else t.set i ((t.getD i []).eraseIdx k)
 | [], _, _, _, _, h => by simp [findT] at h
 | c :: t, i, k, h1, hn, hf => by
  simp only [List.flatten_cons, List.nodup_append] at hn
  unfold findT at hf
  have hc1 := h1 c List.mem_cons_self
  have ht1 : ∀ d ∈ t, 1 <= d.length := fun d hd => h1 d (List.mem_cons_of_mem _ hd)
  split at hf
  ·next hc =>
   simp only [Option.some.injEq, Prod.mk.injEq] at hf
   obtain ⟨rfl, rfl⟩ := hf
   have hm : p ∈ c := by simpa [List.contains_iff_mem] using hc
   have hnt : p ∉ t.flatten := fun h => hn.2.2 p hm p h rfl
   have ih := zq ht1 hnt
   have hlt := List.idxOf_lt_length_of_mem hm
   unfold eI at ih ⊢
   simp only [List.getD_cons_zero, List.set_cons_zero, List.eraseIdx_cons_zero]
   rw [List.map_cons, zn hm hn.1]
   by_cases hl : c.length = 1
   ·rw [if_pos hl, List.filter_cons_of_neg, ih]
    have : (c.eraseIdx (c.idxOf p)).length = 0 := by rw [List.length_eraseIdx_of_lt hlt]; omega
    rw [List.length_eq_zero_iff] at this
    rw [this]; simp
   ·rw [if_neg hl, List.filter_cons_of_pos, ih]
    have : (c.eraseIdx (c.idxOf p)).length ≠ 0 := by rw [List.length_eraseIdx_of_lt hlt]; omega
    cases hh : c.eraseIdx (c.idxOf p) with
    | nil => rw [hh] at this; simp at this
    | cons _ _ => rfl
  ·next hc =>
   cases hf' : findT t p with
   | none => rw [hf'] at hf; simp at hf
   | some x =>
    rw [hf'] at hf
    simp only [Option.map_some, Option.some.injEq, Prod.mk.injEq] at hf
    obtain ⟨rfl, rfl⟩ := hf
    have hm : p ∉ c := by simpa [List.contains_iff_mem] using hc
    have ih := Cs ht1 hn.2.1 hf'
    unfold eI at ih ⊢
    rw [List.map_cons, nx hm, List.filter_cons_of_pos (by cases c <;> simp at hc1 ⊢), ih]
    simp only [List.getD_cons_succ]
    split <;> rfl
theorem EJ {t : aD} (hg : cF t) {p : Int} (hp : br t p = true) (h1 : ¬ (t.length = 1 /\ (t.getD 0 []).length = 1)) : bk t p = (eI t p, 0) := by
 obtain ⟨i, k, hf⟩ := kQ.1 hp
 unfold bk
 rw [if_neg (by rw [bI.2 hg]; simp), hf]
 simp only
 rw [if_neg h1, Cs (fun c hc => (hg.each c hc).1) hg.nodup hf]
 split <;> rfl
theorem split_eq {t : aD} (hg : cF t) {p n : Int} {right : Bool} (hn : cy n = true) (hp : br t p = true) (hnn : br t n = false) : aY t p n right = match splitR p n right t with | none => (t, 5) | some x => (x, 0) := by
 obtain ⟨i, k, hf⟩ := kQ.1 hp
 unfold aY
 rw [if_neg (by rw [bI.2 hg, hn]; simp), hf]
 simp only
 rw [hnn, if_neg (by simp), zl (fun c hc => (hg.each c hc).2) hg.nodup hf]
 by_cases h : right = false /\ 3 <= (t.getD i []).length
 ·rw [if_pos h, if_pos h]
 ·rw [if_neg h, if_neg h]
  split <;> rfl
theorem uD {α : Type} (l : List α) (i : Nat) (x : α) : (gQ l i x).Perm (x :: l) := by
 unfold gQ
 have h := List.perm_middle (a := x) (l₁ := l.take i) (l₂ := l.drop i)
 rwa [List.take_append_drop] at h
theorem ud {α : Type} {l : List α} {i : Nat} (h : i < l.length) (x : α) : l.set i x = l.take i ++ x :: l.drop (i + 1) := by
 rw [List.set_eq_take_append_cons_drop, if_pos h]
theorem HS {α : Type} {l : List α} {i : Nat} (h : i < l.length) (d : α) : l = l.take i ++ l.getD i d :: l.drop (i + 1) := by
 have := ud h (l.getD i d)
 rw [<- this]
 refine List.ext_getElem (by simp) fun j h1 h2 => ?_
 rw [List.getElem_set]
 split
 ·next e => subst e; simp [List.getD_eq_getElem?_getD, List.getElem?_eq_getElem h1]
 ·rfl
theorem FB {t : aD} {p n : Int} {right : Bool} (h : (aY t p n right).2 = 0) : cF t /\ cy n = true /\ br t n = false /\ ∃ i k, findT t p = some (i, k) /\
  (aY t p n right).1 = if right = true then gQ t (i + 1) [n] else t.set i (gQ (t.getD i []) (k + 1) n) := by
 unfold aY at h ⊢
 by_cases h1 : mV t = false \/ cy n = false
 ·rw [if_pos h1] at h; cases h
 rw [if_neg h1] at h ⊢
 have hg : cF t := bI.1 (by cases hh : mV t with | true => rfl | false => exact (h1 (.inl hh)).elim)
 have hn : cy n = true := by cases hh : cy n with | true => rfl | false => exact (h1 (.inr hh)).elim
 cases hf : findT t p with
 | none => rw [hf] at h; cases h
 | some x =>
  obtain ⟨i, k⟩ := x
  rw [hf] at h
  simp only at h ⊢
  by_cases h2 : br t n = true
  ·rw [if_pos h2] at h; cases h
  rw [if_neg h2] at h ⊢
  by_cases h3 : right = false /\ 3 <= (t.getD i []).length
  ·rw [if_pos h3] at h; cases h
  rw [if_neg h3] at h ⊢
  refine ⟨hg, hn, by simpa using h2, i, k, rfl, ?_⟩
  split <;> rfl
theorem DX {t : aD} {p n : Int} {right : Bool} {i k : Nat} (hf : findT t p = some (i, k)) : (if right = true then gQ t (i + 1) [n] else t.set i (gQ (t.getD i []) (k + 1) n)).flatten.Perm (n :: t.flatten) := by
 have hi := (db hf).1
 split
 ·exact (uD t (i + 1) [n]).flatten
 ·rw [ud hi]
  have e := HS hi []
  rw [List.flatten_append, List.flatten_cons]
  have h1 : (t.take i).flatten ++ (gQ (t.getD i []) (k + 1) n ++ (t.drop (i + 1)).flatten) = (t.take i).flatten ++ ((t.getD i []).take (k + 1)) ++ n :: ((t.getD i []).drop (k + 1) ++ (t.drop (i + 1)).flatten) := by
   simp [gQ]
  rw [h1]
  refine List.perm_middle.trans (List.Perm.cons _ ?_)
  have h2 : t.flatten = (t.take i).flatten ++ (t.getD i [] ++ (t.drop (i + 1)).flatten) := by
   conv => lhs; rw [e]
   rw [List.flatten_append, List.flatten_cons]
  have h3 : (t.getD i []).take (k + 1) ++ ((t.getD i []).drop (k + 1) ++ (t.drop (i + 1)).flatten) = t.getD i [] ++ (t.drop (i + 1)).flatten := by
   rw [<- List.append_assoc, List.take_append_drop]
  rw [h2, List.append_assoc, h3]
theorem nK {t : aD} {p n : Int} {right : Bool} (h : (aY t p n right).2 = 0) : cF (aY t p n right).1 /\ br (aY t p n right).1 n = true /\ 2 <= (aY t p n right).1.flatten.length := by
 obtain ⟨hg, hn, hnn, i, k, hf, he⟩ := FB h
 have hfl := DX (n := n) (right := right) hf
 obtain ⟨hi, hk, _⟩ := db hf
 have hnot : n ∉ t.flatten := by simpa [br, List.contains_iff_mem] using hnn
 have h3 : right = false -> (t.getD i []).length < 3 := fun hr => by
  apply Classical.byContradiction
  intro hc
  unfold aY at h
  rw [if_neg (by rw [bI.2 hg, hn]; simp), hf] at h
  simp only at h
  rw [hnn, if_neg (by simp), if_pos ⟨hr, by omega⟩] at h
  cases h
 rw [he]
 refine ⟨⟨?_, fun q hq => ?_, ?_, ?_⟩, ?_, ?_⟩
 ·intro c hc
  split at hc
  ·rcases List.mem_cons.1 ((uD t (i + 1) [n]).mem_iff.1 hc) with rfl | hc
   ·exact ⟨Nat.le_refl 1, by show 1 <= 3; decide⟩
   ·exact hg.each c hc
  ·next hr =>
   have hr' : right = false := by simpa using hr
   rcases List.mem_or_eq_of_mem_set hc with hc | rfl
   ·exact hg.each c hc
   ·have := (uD (t.getD i []) (k + 1) n).length_eq
    simp only [List.length_cons] at this
    have := h3 hr'
    omega
 ·rcases List.mem_cons.1 (hfl.mem_iff.1 hq) with rfl | hq
  ·exact hn
  ·exact hg.E6 q hq
 ·rw [hfl.nodup_iff, List.nodup_cons]
  exact ⟨hnot, hg.nodup⟩
 ·intro hz
  have := hfl.length_eq
  rw [hz] at this
  simp at this
 ·unfold br
  rw [List.contains_iff_mem]
  exact hfl.mem_iff.2 List.mem_cons_self
 ·rw [hfl.length_eq, List.length_cons]
  have := pD (t := t) fun c hc => (hg.each c hc).1
  omega
structure Vw where
 aj : aD
 aG : List Gr
 wide : Int
 high : Int
 focus : Int
def lv (t : aD) (wide high r c : Int) : Option Nat :=
 [0, 1, 2, 3, 4, 5].find? fun p : Nat => decide ((whereT t wide high p).row <= r /\ r < (whereT t wide high p).row + (whereT t wide high p).high /\ (whereT t wide high p).col <= c /\ c < (whereT t wide high p).col + (whereT t wide high p).wide)
def Ab (wide : Int) (n : Nat) (c : Int) : Bool := (List.range (n - 1)).any fun i => decide (0 < (aw wide n i).2 /\ c = (aw wide n i).1 + (aw wide n i).2)
def sign (c : Int) : Cl := ⟨c, 0, 0, false⟩
def cellV (v : Vw) (r c : Int) : Cl :=
 if r < 0 \/ c < 0 \/ v.high <= r \/ v.wide <= c then sign 46
 else match lv v.aj v.wide v.high r c with
  | some p => atG (v.aG.getD p .zero) (r - (whereT v.aj v.wide v.high p).row) (c - (whereT v.aj v.wide v.high p).col)
  | none => if Ab v.wide v.aj.length c = true then sign 124 else sign 45
def nh (t : aD) (focus col : Int) : Cl :=
 if 0 <= col /\ col % 2 = 0 /\ (col / 2).toNat < t.flatten.length then
  ⟨48 + max 0 (min (t.flatten.getD (col / 2).toNat 0) 9), 0, 0, decide (t.flatten.getD (col / 2).toNat 0 = focus)⟩
 else sign 32
def df (v : Vw) (w h : Nat) : List Cl := Am (w * h) fun i => if i / w + 1 = h then nh v.aj v.focus ((i % w : Nat) : Int) else cellV v ((i / w : Nat) : Int) ((i % w : Nat) : Int)
def cx (v : Vw) (w h : Int) : Int × Int :=
 if v.focus < 0 \/ 6 <= v.focus then (0, 0)
 else
  let a := whereT v.aj v.wide v.high v.focus
  let f := v.aG.getD v.focus.toNat .zero
  if 0 < a.wide then (max 0 (min (a.row + min f.row (a.high - 1)) (h - 1)), max 0 (min (a.col + min f.col (a.wide - 1)) (w - 1))) else (0, 0)
def aX (v : Vw) (wide high : Int) : Gr :=
 let w := max 1 (min wide 24)
 let h := max 1 (min high 10)
 ⟨w, h, df v w.toNat h.toNat, (cx v w h).1, (cx v w h).2, 0, false, 0, h⟩
theorem CC {t : aD} {wide high r c : Int} {p : Nat} (hp : p < 6) (h : inR (whereT t wide high p) r c) : lv t wide high r c = some p := by
 cases hf : lv t wide high r c with
 | none =>
  unfold lv at hf
  rw [List.find?_eq_none] at hf
  have := hf p (by simp only [List.mem_cons, List.not_mem_nil, or_false]; omega)
  exact (this (by rw [decide_eq_true_eq]; exact h)).elim
 | some q =>
  have := List.find?_some hf
  rw [decide_eq_true_eq] at this
  have e := B7 h this
  rw [show p = q by omega]
theorem B6 {t : aD} {wide high r c : Int} (h : ∀ p : Nat, p < 6 -> ¬ inR (whereT t wide high p) r c) : lv t wide high r c = none := by
 unfold lv
 rw [List.find?_eq_none]
 intro p hp hq
 rw [decide_eq_true_eq] at hq
 refine h p ?_ hq
 simp only [List.mem_cons, List.not_mem_nil, or_false] at hp
 omega
theorem EW {t : aD} {wide high r c : Int} {p : Nat} (h : lv t wide high r c = some p) : p < 6 /\ inR (whereT t wide high p) r c := by
 have h1 := List.find?_some h
 have h2 := List.mem_of_find?_eq_some h
 rw [decide_eq_true_eq] at h1
 refine ⟨?_, h1⟩
 simp only [List.mem_cons, List.not_mem_nil, or_false] at h2
 omega
theorem xL {wide : Int} {n : Nat} {c : Int} : Ab wide n c = true ↔ ∃ i : Nat, i + 1 < n /\ 0 < (aw wide n i).2 /\ c = (aw wide n i).1 + (aw wide n i).2 := by
 unfold Ab
 rw [List.any_eq_true]
 constructor
 ·rintro ⟨i, hi, h⟩
  rw [List.mem_range] at hi
  rw [decide_eq_true_eq] at h
  exact ⟨i, by omega, h⟩
 ·rintro ⟨i, hi, h⟩
  exact ⟨i, List.mem_range.2 (by omega), decide_eq_true h⟩
theorem xu (v : Vw) (w h : Nat) : (df v w h).length = w * h := nB _ _
abbrev Bs := List UInt8
theorem pB : ∀ (a b : Bs) (p : Pr), feedP p (a ++ b) = ((feedP (feedP p a).1 b).1, (feedP p a).2 ++ (feedP (feedP p a).1 b).2)
 | [], _, _ => rfl
 | x :: a, b, p => by
  simp only [List.cons_append, feedP]
  rw [pB a b]
  simp only [List.append_assoc]
theorem gd {p q : Pr} {b : UInt8} (h : aC p (b.toNat : Int) = (q, .none)) (rest : Bs) : feedP p (b :: rest) = feedP q rest := by
 show ((feedP (aC p b.toNat).1 rest).1, (if (aC p b.toNat).2.kind = 0 then [] else [(aC p b.toNat).2]) ++ (feedP (aC p b.toNat).1 rest).2) = _
 rw [h]
 simp [Ev.none]
theorem uf {p q : Pr} {e : Ev} {b : UInt8} (h : aC p (b.toNat : Int) = (q, e)) (he : e.kind ≠ 0) : feedP p [b] = (q, [e]) := by
 show ((feedP (aC p b.toNat).1 []).1, (if (aC p b.toNat).2.kind = 0 then [] else [(aC p b.toNat).2]) ++ (feedP (aC p b.toNat).1 []).2) = _
 rw [h]
 simp [he, feedP]
theorem Cg (ps : List Int) (pl : ByteArray) (lg : Bool) (c : Int) : aC ⟨2, ps, pl, lg⟩ c = lA ⟨2, ps, pl, lg⟩ c := rfl
theorem Dc (ps : List Int) (pl : ByteArray) (lg : Bool) (c : Int) : aC ⟨3, ps, pl, lg⟩ c = if c = 27 then (⟨4, ps, pl, lg⟩, .none)
  else if c = 24 then (.zero, .none)
  else if 32 <= c /\ c < 127 then
   if 48 <= pl.size then (⟨3, ps, pl, true⟩, .none) else (⟨3, ps, pl ++ iq c, lg⟩, .none)
  else (⟨3, ps, pl, lg⟩, .none) := rfl
theorem all_append : ∀ (a b : List Ev) (g : Gr), (allG g a).2 = 0 -> allG g (a ++ b) = allG (allG g a).1 b
 | [], _, _, _ => rfl
 | e :: a, b, g, h => by
  simp only [List.cons_append, allG] at h ⊢
  by_cases h0 : (doG g e).2 = 0
  ·rw [if_pos h0] at h ⊢
   rw [if_pos h0]
   exact all_append a b _ h
  ·rw [if_neg h0] at h
   exact (h0 h).elim
def dT (g : Gr) (s : Bs) (g' : Gr) : Prop := ∃ evs, feedP .zero s = (.zero, evs) /\ allG g evs = (g', 0)
theorem dT.nil (g : Gr) : dT g [] g := ⟨[], rfl, rfl⟩
theorem dT.append {g g' g'' : Gr} {a b : Bs} (h : dT g a g') (k : dT g' b g'') : dT g (a ++ b) g'' := by
 obtain ⟨l, h1, h2⟩ := h
 obtain ⟨m, k1, k2⟩ := k
 refine ⟨l ++ m, ?_, ?_⟩
 ·rw [pB, h1]
  simp only [k1]
 ·rw [all_append _ _ _ (by rw [h2]), h2]
  exact k2
theorem dT.one {g : Gr} {s : Bs} {e : Ev} (hg : ao g) (hf : feedP .zero s = (.zero, [e])) (hd : (doG g e).2 = 0) : dT g s (doG g e).1 :=
 ⟨[e], hf, by simp only [allG, if_pos hd]⟩
theorem fz {g : Gr} (h : ao g) (e : Ev) : doG g e = if e.kind = 1 then if e.b < 32 \/ 126 < e.b then (g, 6) else (jR g e.b, 0)
 else if e.kind = 2 then (bZ g e.b, 0)
 else if e.kind = 3 then (aP g e.b e.ps, 0)
 else if e.kind = 4 then (dz g e.pl.data.toList, 0)
 else if e.kind = 5 then (aO g.wide g.high, 0)
 else (g, 2) := by
 unfold doG
 rw [if_neg (by rw [bH.2 h]; simp)]
def fl (n : Int) : UInt8 := UInt8.ofNat n.toNat
theorem qo {n : Int} (h0 : 0 <= n) (h1 : n <= 255) : ((fl n).toNat : Int) = n := by
 unfold fl
 rw [UInt8.toNat_ofNat']
 omega
def dig (n : Int) : Bs := if n < 10 then [fl (48 + n)] else [fl (48 + n / 10), fl (48 + n % 10)]
theorem ll (ps : List Int) (x : Int) {d : Int} (h0 : 0 <= d) (h1 : d <= 9) (hx : 10 * x + d <= 999) (rest : Bs) : feedP ⟨2, ps ++ [x], au, false⟩ (fl (48 + d) :: rest) = feedP ⟨2, ps ++ [10 * x + d], au, false⟩ rest := by
 have hb := qo (n := 48 + d) (by omega) (by omega)
 have hs : aC ⟨2, ps ++ [x], au, false⟩ ((fl (48 + d)).toNat : Int) = (⟨2, ps ++ [10 * x + d], au, false⟩, .none) := by
  rw [hb, Cg]
  unfold lA
  rw [if_pos (by omega)]
  have : cW (ps ++ [x]) (48 + d) = ps ++ [10 * x + d] := by
   unfold cW
   simp only [List.length_append, List.length_cons, List.length_nil, Nat.add_sub_cancel, List.getD_eq_getElem?_getD]
   simp
   omega
  rw [this]
 exact gd hs rest
theorem yg (ps : List Int) {n : Int} (h0 : 0 <= n) (h1 : n < 100) (rest : Bs) : feedP ⟨2, ps ++ [0], au, false⟩ (dig n ++ rest) = feedP ⟨2, ps ++ [n], au, false⟩ rest := by
 unfold dig
 split
 ·rw [List.cons_append, List.nil_append, ll ps 0 h0 (by omega) (by omega)]
  simp
 ·rw [List.cons_append, List.cons_append, List.nil_append, ll ps 0 (by omega) (by omega) (by omega), ll ps _ (by omega) (by omega) (by omega)]
  rw [show 10 * (10 * 0 + n / 10) + n % 10 = n by omega]
theorem uH (ps : List Int) (h : ps.length < 4) (rest : Bs) : feedP ⟨2, ps, au, false⟩ (59 :: rest) = feedP ⟨2, ps ++ [0], au, false⟩ rest := by
 have hs : aC ⟨2, ps, au, false⟩ (((59 : UInt8).toNat : Nat) : Int) = (⟨2, ps ++ [0], au, false⟩, .none) := by
  show lA _ 59 = _
  unfold lA
  rw [if_neg (by omega), if_pos ⟨rfl, h⟩]
 exact gd hs rest
theorem xh (rest : Bs) : feedP .zero (27 :: 91 :: rest) = feedP ⟨2, [0], au, false⟩ rest := by
 have h1 : aC .zero (((27 : UInt8).toNat : Nat) : Int) = (⟨1, [], au, false⟩, .none) := rfl
 have h2 : aC ⟨1, [], au, false⟩ (((91 : UInt8).toNat : Nat) : Int) = (⟨2, [0], au, false⟩, .none) := rfl
 rw [gd h1, gd h2]
theorem iQ (ps : List Int) {b : UInt8} (h0 : 64 <= b.toNat) (h1 : b.toNat < 127) : feedP ⟨2, ps, au, false⟩ [b] = (.zero, [⟨3, b.toNat, ps, au⟩]) := by
 have hs : aC ⟨2, ps, au, false⟩ (b.toNat : Int) = (.zero, ⟨3, b.toNat, ps, au⟩) := by
  rw [Cg]
  unfold lA
  rw [if_neg (by omega), if_neg (by omega), if_pos (by omega)]
 exact uf hs (by simp)
def wrD (x : Gr × Bs) (s : Bs) : Gr × Bs := ((allG x.1 (feedP .zero s).2).1, x.2 ++ s)
theorem me {g g' : Gr} {out s : Bs} (h : dT g s g') : wrD (g, out) s = (g', out ++ s) := by
 obtain ⟨l, h1, h2⟩ := h
 unfold wrD
 simp only [h1, h2]
def dB (r c : Int) : Bs := [27, 91] ++ (dig (r + 1) ++ (59 :: (dig (c + 1) ++ [72])))
def nY (x : Gr × Bs) (r c : Int) : Gr × Bs := if x.1.row ≠ r \/ x.1.col ≠ c then wrD x (dB r c) else x
def cR (c : Cl) : Bs := [27, 91, 48] ++ ((if c.bold = true then [59, 49] else []) ++ ((if 0 < c.ink then 59 :: dig (29 + c.ink) else []) ++ [109]))
def yI (x : Gr × Bs) (c : Cl) : Gr × Bs := if x.1.ink = c.ink /\ x.1.bold = c.bold then x else wrD x (cR c)
def eL (c : Cl) : Bs := [27, 80, fl (97 + c.pic - 1), 27, 92]
def zx (x : Gr × Bs) (r c : Int) (k : Cl) : Gr × Bs :=
 let x := nY x r c
 if 0 < k.pic then wrD x (eL k)
 else if k.ch = 0 then wrD x [27, 91, 75]
 else wrD (yI x k) [fl k.ch]
def jh (to : Gr) (x : Gr × Bs) (i : Nat) : Gr × Bs :=
 if cg x.1.cells i = cg to.cells i then x else zx x ((i / to.wide.toNat : Nat) : Int) ((i % to.wide.toNat : Nat) : Int) (cg to.cells i)
def turnCells (to : Gr) (x : Gr × Bs) : Nat -> Gr × Bs
 | 0 => x
 | n + 1 => jh to (turnCells to x n) n
def bV (frm to : Gr) : Gr × Bs := nY (turnCells to (frm, []) (to.wide.toNat * to.high.toNat)) to.row to.col
def iX (frm to : Gr) : Prop := ao frm /\ ao to /\ frm.wide = to.wide /\ frm.high = to.high /\ to.col < to.wide
theorem qp (n : Int) : 1 <= (dig n).length /\ (dig n).length <= 2 := by
 unfold dig; split <;> exact ⟨by simp, by simp⟩
theorem qZ (r c : Int) : (dB r c).length <= 8 := by
 have := qp (r + 1)
 have := qp (c + 1)
 simp [dB]
 omega
theorem sM (c : Cl) : (cR c).length <= 9 := by
 have := qp (29 + c.ink)
 unfold cR
 simp only [List.length_append, List.length_cons, List.length_nil]
 split <;> split <;> simp <;> omega
theorem tT {g : Gr} (hg : ao g) {r c : Int} (hr : 0 <= r /\ r < g.high) (hc : 0 <= c /\ c < g.wide) : dT g (dB r c) { g with row := r, col := c } := by
 have h2 := hg.h2
 have w2 := hg.w2
 have hf : feedP .zero (dB r c) = (.zero, [⟨3, 72, [r + 1, c + 1], au⟩]) := by
  unfold dB
  rw [List.cons_append, List.cons_append, List.nil_append, xh]
  have e1 := yg [] (n := r + 1) (by omega) (by omega) (59 :: (dig (c + 1) ++ [72]))
  rw [List.nil_append, List.nil_append] at e1
  rw [e1, uH _ (by simp), yg _ (by omega) (by omega), iQ _ (by decide) (by decide)]
  rfl
 have hd : doG g ⟨3, 72, [r + 1, c + 1], au⟩ = ({ g with row := r, col := c }, 0) := by
  rw [fz hg]
  dsimp only
  rw [if_neg (by omega), if_neg (by omega), if_pos rfl]
  have n0 : aQ [r + 1, c + 1] 0 1 = r + 1 := by show max 1 (min (r + 1) 999) = _; omega
  have n1 : aQ [r + 1, c + 1] 1 1 = c + 1 := by show max 1 (min (c + 1) 999) = _; omega
  unfold aP
  dsimp only
  rw [n0, n1, if_neg (by omega), if_neg (by omega), if_neg (by omega), if_neg (by omega), if_pos rfl]
  rw [show min g.high (r + 1) - 1 = r by omega, show min g.wide (c + 1) - 1 = c by omega]
 have := dT.one hg hf (by rw [hd])
 rwa [hd] at this
theorem xr {g : Gr} {out : Bs} (hg : ao g) {r c : Int} (hr : 0 <= r /\ r < g.high) (hc : 0 <= c /\ c < g.wide) :
  ∃ s, nY (g, out) r c = ({ g with row := r, col := c }, out ++ s) /\ dT g s { g with row := r, col := c } /\ s.length <= 8 /\ (g.row = r -> g.col = c -> s = []) := by
 unfold nY
 split
 ·next h => exact ⟨_, me (tT hg hr hc), tT hg hr hc, qZ _ _, fun h1 h2 => by simp [h1, h2] at h⟩
 ·next h =>
  have h1 : g.row = r := by apply Classical.byContradiction; intro hn; exact h (.inl hn)
  have h2 : g.col = c := by apply Classical.byContradiction; intro hn; exact h (.inr hn)
  subst h1 h2
  exact ⟨[], by simp, dT.nil _, by simp, fun _ _ => rfl⟩
theorem DN {c : Cl} (h0 : 0 <= c.ink) (h1 : c.ink <= 8) : feedP .zero (cR c) = (.zero, [⟨3, 109, [0] ++ (if c.bold = true then [1] else []) ++ (if 0 < c.ink then [29 + c.ink] else []), au⟩]) := by
 have hz : ∀ rest : Bs, feedP .zero ([27, 91, 48] ++ rest) = feedP ⟨2, [0], au, false⟩ rest := fun rest => by
  have e := ll [] 0 (d := 0) (by decide) (by decide) (by decide) rest
  rw [List.cons_append, List.cons_append, List.cons_append, List.nil_append, xh]
  exact e
 have h1' : ∀ (ps : List Int) (rest : Bs), ps.length < 4 -> feedP ⟨2, ps, au, false⟩ ([59, 49] ++ rest) = feedP ⟨2, ps ++ [1], au, false⟩ rest := fun ps rest hl => by
  rw [List.cons_append, List.cons_append, List.nil_append, uH _ hl]
  exact ll ps 0 (d := 1) (by decide) (by decide) (by decide) rest
 have h2' : ∀ (ps : List Int) (rest : Bs), ps.length < 4 -> feedP ⟨2, ps, au, false⟩ ((59 :: dig (29 + c.ink)) ++ rest) = feedP ⟨2, ps ++ [29 + c.ink], au, false⟩ rest := fun ps rest hl => by
  rw [List.cons_append, uH _ hl, yg _ (by omega) (by omega)]
 unfold cR
 rw [hz]
 cases c.bold <;> by_cases hk : 0 < c.ink
 ·simp only [hk, if_true, Bool.false_eq_true, if_false, List.nil_append, List.append_nil]
  rw [h2' _ _ (by simp), iQ _ (by decide) (by decide)]
  rfl
 ·simp only [hk, if_false, Bool.false_eq_true, List.nil_append, List.append_nil]
  rw [iQ _ (by decide) (by decide)]
  rfl
 ·simp only [hk, if_true]
  rw [h1' _ _ (by simp), h2' _ _ (by simp), iQ _ (by decide) (by decide)]
  rfl
 ·simp only [hk, if_true, if_false, List.nil_append, List.append_nil]
  rw [h1' _ _ (by simp), iQ _ (by decide) (by decide)]
  rfl
theorem wZ {g : Gr} (hg : ao g) {c : Cl} (h0 : 0 <= c.ink) (h1 : c.ink <= 8) : dT g (cR c) { g with ink := c.ink, bold := c.bold } := by
 have hd : doG g ⟨3, 109, [0] ++ (if c.bold = true then [1] else []) ++ (if 0 < c.ink then [29 + c.ink] else []), au⟩ = ({ g with ink := c.ink, bold := c.bold }, 0) := by
  rw [fz hg]
  dsimp only
  rw [if_neg (by omega), if_neg (by omega), if_pos rfl]
  unfold aP
  dsimp only
  rw [if_neg (by omega), if_neg (by omega), if_neg (by omega), if_neg (by omega), if_neg (by omega), if_neg (by omega), if_neg (by omega), if_neg (by omega), if_pos rfl]
  have hink : ∀ x : Gr, 0 < c.ink -> cj x (29 + c.ink) = { x with ink := c.ink } := fun x hk => by
   unfold cj
   rw [if_neg (by omega), if_neg (by omega), if_neg (by omega), if_pos (by omega), show 29 + c.ink - 29 = c.ink by omega]
  have hz : ∀ x : Gr, cj x 0 = { x with ink := 0, bold := false } := fun x => rfl
  have ho : ∀ x : Gr, cj x 1 = { x with bold := true } := fun x => rfl
  cases hb : c.bold <;> by_cases hk : 0 < c.ink
  ·simp only [hk, if_true, Bool.false_eq_true, if_false, List.append_nil, List.cons_append, List.nil_append, List.foldl_cons, List.foldl_nil, hz, hink _ hk]
  ·simp only [hk, Bool.false_eq_true, if_false, List.append_nil, List.cons_append, List.nil_append, List.foldl_cons, List.foldl_nil, hz]
   rw [show c.ink = 0 by omega]
  ·simp only [hk, if_true, List.append_nil, List.cons_append, List.nil_append, List.foldl_cons, List.foldl_nil, hz, ho, hink _ hk]
  ·simp only [hk, if_true, if_false, List.append_nil, List.cons_append, List.nil_append, List.foldl_cons, List.foldl_nil, hz, ho]
   rw [show c.ink = 0 by omega]
 have := dT.one hg (DN h0 h1) (by rw [hd])
 rwa [hd] at this
theorem Ef {g : Gr} {out : Bs} (hg : ao g) {c : Cl} (h0 : 0 <= c.ink) (h1 : c.ink <= 8) :
  ∃ s, yI (g, out) c = ({ g with ink := c.ink, bold := c.bold }, out ++ s) /\ dT g s { g with ink := c.ink, bold := c.bold } /\ s.length <= 9 := by
 unfold yI
 split
 ·next h =>
  obtain ⟨h2, h3⟩ := h
  simp only at h2 h3
  exact ⟨[], by rw [<- h2, <- h3]; simp, by rw [<- h2, <- h3]; exact dT.nil _, by simp⟩
 ·exact ⟨_, me (wZ hg h0 h1), wZ hg h0 h1, sM _⟩
theorem CU {g : Gr} (hg : ao g) (hc : g.col < g.wide) {k : Cl} (h0 : 0 < k.pic) (h1 : k.pic <= 8) : dT g (eL k) { g with cells := g.cells.set (g.row * g.wide + g.col).toNat ⟨0, 0, k.pic, false⟩ } := by
 have hb := qo (n := 97 + k.pic - 1) (by omega) (by omega)
 have hr := hg.r2
 have hf : feedP .zero (eL k) = (.zero, [⟨4, 0, [], au ++ iq (97 + k.pic - 1)⟩]) := by
  unfold eL
  have s1 : aC .zero (((27 : UInt8).toNat : Nat) : Int) = (⟨1, [], au, false⟩, .none) := rfl
  have s2 : aC ⟨1, [], au, false⟩ (((80 : UInt8).toNat : Nat) : Int) = (⟨3, [], au, false⟩, .none) := rfl
  have s3 : aC ⟨3, [], au, false⟩ ((fl (97 + k.pic - 1)).toNat : Int) = (⟨3, [], au ++ iq (97 + k.pic - 1), false⟩, .none) := by
   rw [hb, Dc]
   rw [if_neg (by omega), if_neg (by omega), if_pos (by omega), if_neg (by decide)]
  have s4 : ∀ pl, aC ⟨3, [], pl, false⟩ (((27 : UInt8).toNat : Nat) : Int) = (⟨4, [], pl, false⟩, .none) := fun _ => rfl
  have s5 : ∀ pl, aC ⟨4, [], pl, false⟩ (((92 : UInt8).toNat : Nat) : Int) = (.zero, ⟨4, 0, [], pl⟩) := fun _ => rfl
  rw [gd s1, gd s2, gd s3, gd (s4 _), uf (s5 _) (by simp)]
 have hpl : (au ++ iq (97 + k.pic - 1)).data.toList = [fl (97 + k.pic - 1)] := by
  rw [ByteArray.data_append]
  simp [iq, fl, au]
 have hd : doG g ⟨4, 0, [], au ++ iq (97 + k.pic - 1)⟩ = ({ g with cells := g.cells.set (g.row * g.wide + g.col).toNat ⟨0, 0, k.pic, false⟩ }, 0) := by
  rw [fz hg]
  dsimp only
  rw [if_neg (by omega), if_neg (by omega), if_neg (by omega), if_pos rfl, hpl]
  unfold dz
  have hm : min g.col (g.wide - 1) = g.col := by omega
  rw [hm]
  simp only [picC]
  rw [if_neg (by omega), if_pos (by omega), hb, show (97 : Int) + k.pic - 1 - 96 = k.pic by omega]
 have := dT.one hg hf (by rw [hd])
 rwa [hd] at this
theorem xe {g : Gr} (hg : ao g) (hc : g.col < g.wide) : dT g [27, 91, 75] { g with cells := cY (g.row * g.wide + g.col).toNat ((g.row + 1) * g.wide).toNat g.cells } := by
 have hf : feedP .zero [27, 91, 75] = (.zero, [⟨3, 75, [0], au⟩]) := by
  rw [xh, iQ _ (by decide) (by decide)]; rfl
 have hd : doG g ⟨3, 75, [0], au⟩ = ({ g with cells := cY (g.row * g.wide + g.col).toNat ((g.row + 1) * g.wide).toNat g.cells }, 0) := by
  rw [fz hg]
  dsimp only
  rw [if_neg (by omega), if_neg (by omega), if_pos rfl]
  unfold aP
  dsimp only
  rw [if_neg (by omega), if_neg (by omega), if_neg (by omega), if_neg (by omega), if_neg (by omega), if_neg (by omega), if_pos rfl]
  have hm : min g.col (g.wide - 1) = g.col := by omega
  rw [hm]
  rw [show aQ [0] 0 0 = 0 from rfl]
  rfl
 have := dT.one hg hf (by rw [hd])
 rwa [hd] at this
theorem zf {g : Gr} (hg : ao g) (hc : g.col < g.wide) {ch : Int} (h0 : 32 <= ch) (h1 : ch <= 126) : dT g [fl ch] { g with cells := g.cells.set (g.row * g.wide + g.col).toNat ⟨ch, g.ink, 0, g.bold⟩, col := g.col + 1 } := by
 have hb := qo (n := ch) (by omega) (by omega)
 have hf : feedP .zero [fl ch] = (.zero, [⟨1, ch, [], au⟩]) := by
  have s1 : aC .zero ((fl ch).toNat : Int) = (.zero, ⟨1, ch, [], au⟩) := by
   rw [hb]
   unfold aC
   rw [if_pos (show Pr.zero.at_ = 0 from rfl), if_neg (by omega), if_pos (by omega)]
  exact uf s1 (by simp)
 have hd : doG g ⟨1, ch, [], au⟩ = ({ g with cells := g.cells.set (g.row * g.wide + g.col).toNat ⟨ch, g.ink, 0, g.bold⟩, col := g.col + 1 }, 0) := by
  rw [fz hg]
  dsimp only
  rw [if_pos rfl, if_neg (by omega)]
  unfold jR
  rw [if_neg (by omega)]
 have := dT.one hg hf (by rw [hd])
 rwa [hd] at this
theorem vi {k : Cl} (h : cG k = true) : (0 < k.pic /\ k.pic <= 8 /\ k = ⟨0, 0, k.pic, false⟩) \/ (k.pic = 0 /\ k.ch = 0 /\ k = .z) \/ (k.pic = 0 /\ k.ch ≠ 0 /\ 32 <= k.ch /\ k.ch <= 126 /\ 0 <= k.ink /\ k.ink <= 8 /\ k = ⟨k.ch, k.ink, 0, k.bold⟩) := by
 unfold cG at h
 rw [Bool.and_eq_true, decide_eq_true_eq] at h
 obtain ⟨h1, h2⟩ := h
 obtain ⟨ch, ink, pic, bold⟩ := k
 simp only at h1 h2 ⊢
 by_cases hp : pic = 0
 ·rw [if_pos hp, decide_eq_true_eq] at h2
  subst hp
  rcases h2 with ⟨rfl, rfl, rfl⟩ | h2
  ·exact .inr (.inl ⟨rfl, rfl, rfl⟩)
  ·exact .inr (.inr ⟨rfl, by omega, by omega, by omega, h1.2.2.1, h1.2.2.2, rfl⟩)
 ·rw [if_neg hp, decide_eq_true_eq] at h2
  obtain ⟨rfl, rfl, rfl⟩ := h2
  exact .inl ⟨by omega, h1.2.1, rfl⟩
structure FW (g : Gr) (out : Bs) (r c : Nat) (k : Cl) (x : Gr × Bs) : Prop where
 uv : ao x.1
 wide : x.1.wide = g.wide
 high : x.1.high = g.high
 bytes : ∃ s, x.2 = out ++ s /\ dT g s x.1 /\ (g.row = r -> g.col = c -> s.length <= 10) /\ (s.length <= 13 \/ (s.length <= 18 /\ x.1.row = r /\ x.1.col = c + 1))
 here : cg x.1.cells (r * g.wide.toNat + c) = k
 left : ∀ j, j < r * g.wide.toNat + c -> cg x.1.cells j = cg g.cells j
theorem iH {g : Gr} (h : ao g) : g.cells.length = g.high.toNat * g.wide.toNat := by
 have hl := h.len
 have := h.w1
 have := h.h1
 obtain ⟨w, hw⟩ : ∃ w : Nat, g.wide = w := ⟨g.wide.toNat, by omega⟩
 obtain ⟨k, hk⟩ : ∃ k : Nat, g.high = k := ⟨g.high.toNat, by omega⟩
 rw [hw, hk] at hl ⊢
 simp only [Int.toNat_natCast]
 rw [Nat.mul_comm]
 exact_mod_cast hl
theorem ug {g : Gr} (h : ao g) (r c : Nat) : ((r : Int) * g.wide + c).toNat = r * g.wide.toNat + c := by
 have := h.w1
 obtain ⟨w, hw⟩ : ∃ w : Nat, g.wide = w := ⟨g.wide.toNat, by omega⟩
 rw [hw]
 simp only [Int.toNat_natCast]
 have e : (r : Int) * w + c = ((r * w + c : Nat) : Int) := by simp
 rw [e, Int.toNat_natCast]
theorem Gs {g : Gr} {out : Bs} (hg : ao g) {r c : Nat} (hr : (r : Int) < g.high) (hc : (c : Int) < g.wide) {k : Cl} (hk : cG k = true) : FW g out r c k (zx (g, out) r c k) := by
 obtain ⟨s, he, hrun, hs, hs0⟩ := xr (out := out) hg (r := r) (c := c) ⟨by omega, hr⟩ ⟨by omega, hc⟩
 have hg1 : ao { g with row := (r : Int), col := (c : Int) } := hg.with rfl hg.all ⟨by omega, hr⟩ ⟨by omega, by omega⟩ ⟨hg.i1, hg.i2⟩ ⟨hg.t1, hg.t2, hg.b2⟩
 have hp := ug hg r c
 have hlen := iH hg
 have hin : r * g.wide.toNat + c < g.cells.length := by
  rw [hlen]
  exact ph (by omega) (by omega)
 have hmv : (g.row = r /\ g.col = c /\ s.length = 0) \/ s.length <= 8 := .inr hs
 have hmv2 : g.row = r -> g.col = c -> s.length = 0 := fun h1 h2 => by rw [hs0 h1 h2]; rfl
 unfold zx
 simp only [he]
 rcases vi hk with ⟨h1, h2, h3⟩ | ⟨h1, h2, h3⟩ | ⟨h1, h2, h3, h4, h5, h6, h7⟩
 ·rw [if_pos h1]
  have hrun2 := CU hg1 hc h1 h2
  simp only [hp] at hrun2
  rw [me hrun2]
  refine ⟨?_, rfl, rfl, ⟨s ++ eL k, by simp, hrun.append hrun2, fun h1 h2 => by have := hmv2 h1 h2; simp [eL]; omega, .inl (by simp [eL]; omega)⟩, ?_, ?_⟩
  ·refine hg1.fP (List.length_set ..) (cN.set hg1.all ?_ _)
   rw [<- h3]; exact hk
  ·show cg (g.cells.set _ _) _ = k
   rw [nH hin, if_pos rfl, <- h3]
  ·intro j hj
   show cg (g.cells.set _ _) _ = _
   rw [nH hin, if_neg (by omega)]
 ·rw [if_neg (by omega), if_pos h2]
  have hrun2 := xe hg1 hc
  simp only [hp] at hrun2
  have hp2 : (((r : Int) + 1) * g.wide).toNat = (r + 1) * g.wide.toNat := by
   have := ug hg (r + 1) 0
   simp only [Nat.add_zero] at this
   rw [<- this]
   congr 1
   push_cast
   omega
  rw [hp2] at hrun2
  rw [me hrun2]
  refine ⟨?_, rfl, rfl, ⟨s ++ [27, 91, 75], by simp, hrun.append hrun2, fun h1 h2 => by have := hmv2 h1 h2; simp; omega, .inl (by simp; omega)⟩, ?_, ?_⟩
  ·exact hg1.fP (bO _ _ _) (cN.erase hg1.all _ _)
  ·show cg (cY _ _ g.cells) _ = k
   rw [jf hin, if_pos ⟨Nat.le_refl _, by rw [Nat.add_mul]; omega⟩, h3]
  ·intro j hj
   show cg (cY _ _ g.cells) _ = _
   rw [jf (by omega), if_neg (by omega)]
 ·rw [if_neg (by omega), if_neg h2]
  obtain ⟨s2, he2, hrun2, hs2⟩ := Ef (out := out ++ s) hg1 h5 h6
  rw [he2]
  have hg2 : ao { g with row := (r : Int), col := (c : Int), ink := k.ink, bold := k.bold } := hg.with rfl hg.all ⟨by omega, hr⟩ ⟨by omega, by omega⟩ ⟨h5, h6⟩ ⟨hg.t1, hg.t2, hg.b2⟩
  have hrun3 := zf hg2 hc h3 h4
  simp only [hp] at hrun3
  rw [me hrun3]
  refine ⟨?_, rfl, rfl, ⟨s ++ s2 ++ [fl k.ch], by simp, (hrun.append hrun2).append hrun3, ?_⟩, ?_, ?_⟩
  ·refine hg2.with (List.length_set ..) (cN.set hg2.all ?_ _) ⟨by show (0 : Int) <= r; omega, hr⟩ ⟨by show (0 : Int) <= c + 1; omega, by show (c : Int) + 1 <= g.wide; omega⟩ ⟨h5, h6⟩ ⟨hg.t1, hg.t2, hg.b2⟩
   rw [<- h7]; exact hk
  ·simp only [List.length_append, List.length_cons, List.length_nil]
   exact ⟨fun h1 h2 => by have := hmv2 h1 h2; omega, .inr ⟨by omega, by first | trivial | rfl, by first | trivial | rfl⟩⟩
  ·show cg (g.cells.set _ _) _ = k
   rw [nH hin, if_pos rfl, <- h7]
  ·intro j hj
   show cg (g.cells.set _ _) _ = _
   rw [nH hin, if_neg (by omega)]
def uy (w r c : Nat) (g : Gr) : Nat := r * (31 * w + 5) + 31 * c + if 0 < c /\ g.row = r /\ g.col = c then 5 else 0
structure zD (frm to : Gr) (w r c : Nat) (x : Gr × Bs) : Prop where
 uv : ao x.1
 wide : x.1.wide = frm.wide
 high : x.1.high = frm.high
 runs : dT frm x.2 x.1
 done : ∀ j, j < r * w + c -> cg x.1.cells j = cg to.cells j
 few : 2 * x.2.length <= uy w r c x.1
theorem zt {frm to : Gr} (h : iX frm to) {r c : Nat} {x : Gr × Bs} (hr : (r : Int) < to.high) (hc : (c : Int) < to.wide) (hx : zD frm to to.wide.toNat r c x) :
  if c + 1 < to.wide.toNat then zD frm to to.wide.toNat r (c + 1) (jh to x (r * to.wide.toNat + c)) else zD frm to to.wide.toNat (r + 1) 0 (jh to x (r * to.wide.toNat + c)) := by
 obtain ⟨hgf, hgt, hw, hh, hcol⟩ := h
 obtain ⟨g, out⟩ := x
 have hcw : c < to.wide.toNat := by omega
 have hgw : g.wide = to.wide := hx.wide.trans hw
 have hgh : g.high = to.high := hx.high.trans hh
 have hlen := iH hgt
 have hin : r * to.wide.toNat + c < to.cells.length := by
  rw [hlen]
  exact ph hcw (by omega)
 have key : ∃ y, jh to (g, out) (r * to.wide.toNat + c) = y /\ ao y.1 /\ y.1.wide = frm.wide /\ y.1.high = frm.high /\ dT frm y.2 y.1 /\ (∀ j, j < r * to.wide.toNat + (c + 1) -> cg y.1.cells j = cg to.cells j) /\
   (2 * y.2.length <= r * (31 * to.wide.toNat + 5) + 31 * (c + 1) \/ (2 * y.2.length <= r * (31 * to.wide.toNat + 5) + 31 * (c + 1) + 5 /\ y.1.row = r /\ y.1.col = (c + 1 : Nat))) := by
  have hfew := hx.few
  unfold uy at hfew
  simp only at hfew
  unfold jh
  split
  ·next he =>
   refine ⟨_, rfl, hx.uv, hx.wide, hx.high, hx.runs, fun j hj => ?_, .inl ?_⟩
   ·rcases (by omega : j < r * to.wide.toNat + c \/ j = r * to.wide.toNat + c) with h | rfl
    ·exact hx.done j h
    ·exact he
   ·simp only
    split at hfew <;> omega
  ·rw [tL hcw, wv hcw]
   have hp := Gs (out := out) hx.uv (r := r) (c := c) (by rw [hgh]; exact hr) (by rw [hgw]; exact hc) (cN.cg hgt.all (r * to.wide.toNat + c))
   generalize zx (g, out) (r : Int) (c : Int) (cg to.cells (r * to.wide.toNat + c)) = y at hp
   obtain ⟨p1, p2, p3, ⟨s, p4, p5, p6, p6'⟩, p7, p8⟩ := hp
   rw [hgw] at p7 p8
   refine ⟨_, rfl, p1, p2.trans hx.wide, p3.trans hx.high, by rw [p4]; exact hx.runs.append p5, fun j hj => ?_, ?_⟩
   ·rcases (by omega : j < r * to.wide.toNat + c \/ j = r * to.wide.toNat + c) with h | rfl
    ·rw [p8 j h]; exact hx.done j h
    ·exact p7
   ·rw [p4, List.length_append]
    by_cases hat : g.row = r /\ g.col = c
    ·have := p6 hat.1 hat.2
     left; split at hfew <;> omega
    ·rw [if_neg (by omega)] at hfew
     rcases p6' with h | ⟨h, h1, h2⟩
     ·left; omega
     ·right; exact ⟨by omega, h1, by rw [h2]; omega⟩
 obtain ⟨y, hy, k1, k2, k3, k4, k5, k6⟩ := key
 rw [hy]
 split
 ·refine ⟨k1, k2, k3, k4, k5, ?_⟩
  unfold uy
  rcases k6 with h | ⟨h, h1, h2⟩
  ·split <;> omega
  ·rw [if_pos ⟨by omega, h1, h2⟩]; exact h
 ·refine ⟨k1, k2, k3, k4, fun j hj => k5 j ?_, ?_⟩
  ·rw [Nat.add_mul] at hj; omega
  ·unfold uy
   rw [if_neg (by omega), Nat.add_mul]
   have : c + 1 = to.wide.toNat := by omega
   rw [this] at k6
   rcases k6 with h | ⟨h, _⟩ <;> omega
theorem qh {frm to : Gr} (h : iX frm to) : ∀ n r c : Nat, n = r * to.wide.toNat + c -> c < to.wide.toNat -> n <= to.wide.toNat * to.high.toNat -> zD frm to to.wide.toNat r c (turnCells to (frm, []) n)
 | 0, r, c, hn, hc, _ => by
  have hw : 0 < to.wide.toNat := by omega
  have hr : r = 0 := by
   rcases Nat.eq_zero_or_pos r with h | h
   ·exact h
   ·have := Nat.mul_pos h hw; omega
  subst hr
  have hc0 : c = 0 := by omega
  subst hc0
  exact ⟨h.1, rfl, rfl, dT.nil _, fun j hj => by omega, by simp [turnCells]⟩
 | n + 1, r, c, hn, hc, hle => by
  have hw : 0 < to.wide.toNat := by omega
  have hmul : ∀ q s, n = q * to.wide.toNat + s -> s < to.wide.toNat -> (q : Int) < to.high := fun q s e hs => by
   have h1 : q * to.wide.toNat < to.high.toNat * to.wide.toNat := by rw [Nat.mul_comm to.high.toNat]; omega
   have := Nat.lt_of_mul_lt_mul_right h1
   omega
  rcases Nat.eq_zero_or_pos c with h0 | h0
  ·subst h0
   cases r with
   | zero => omega
   | succ r =>
    rw [Nat.add_mul] at hn
    have ih := qh h n r (to.wide.toNat - 1) (by omega) (by omega) (by omega)
    have st := zt h (r := r) (c := to.wide.toNat - 1) (hmul r (to.wide.toNat - 1) (by omega) (by omega)) (by omega) ih
    rw [if_neg (by omega)] at st
    rw [turnCells, show n = r * to.wide.toNat + (to.wide.toNat - 1) by omega]
    rwa [show n = r * to.wide.toNat + (to.wide.toNat - 1) by omega] at st
  ·have ih := qh h n r (c - 1) (by omega) (by omega) (by omega)
   have st := zt h (r := r) (c := c - 1) (hmul r (c - 1) (by omega) (by omega)) (by omega) ih
   rw [if_pos (by omega), show c - 1 + 1 = c by omega] at st
   rw [turnCells]
   have e : n = r * to.wide.toNat + (c - 1) := by omega
   rwa [<- e] at st
structure Cv (frm to : Gr) (x : Gr × Bs) : Prop where
 uv : ao x.1
 wide : x.1.wide = to.wide
 high : x.1.high = to.high
 runs : dT frm x.2 x.1
 cells : x.1.cells = to.cells
 row : x.1.row = to.row
 col : x.1.col = to.col
 few : x.2.length <= 3900
theorem tH {frm to : Gr} (h : iX frm to) : Cv frm to (bV frm to) := by
 have hw1 := h.2.1.w1
 have hw2 := h.2.1.w2
 have hh1 := h.2.1.h1
 have hh2 := h.2.1.h2
 have hI := qh h (to.wide.toNat * to.high.toNat) to.high.toNat 0 (by rw [Nat.mul_comm]; omega) (by omega) (Nat.le_refl _)
 unfold bV
 generalize turnCells to (frm, []) (to.wide.toNat * to.high.toNat) = x at hI
 obtain ⟨g, out⟩ := x
 obtain ⟨i1, i2, i3, i4, i5, i6⟩ := hI
 simp only at i1 i2 i3 i4 i5 i6
 have hgw : g.wide = to.wide := i2.trans h.2.2.1
 have hgh : g.high = to.high := i3.trans h.2.2.2.1
 have hr := h.2.1.r1
 have hr2 := h.2.1.r2
 have hc := h.2.1.c1
 have hc2 := h.2.2.2.2
 obtain ⟨s, e1, e2, e3, _⟩ := xr (out := out) i1 (r := to.row) (c := to.col) ⟨hr, by omega⟩ ⟨hc, by omega⟩
 rw [e1]
 have hl1 := iH i1
 have hl2 := iH h.2.1
 refine ⟨i1.with rfl i1.all ⟨hr, by omega⟩ ⟨hc, by omega⟩ ⟨i1.i1, i1.i2⟩ ⟨i1.t1, i1.t2, i1.b2⟩, hgw, hgh, i4.append e2, ?_, rfl, rfl, ?_⟩
 ·refine gP (by show g.cells.length = _; rw [hl1, hl2, hgw, hgh]) fun j hj => i5 j ?_
  have : g.cells.length = to.high.toNat * to.wide.toNat := by rw [hl1, hgw, hgh]
  show j < _
  have hj' : j < g.cells.length := hj
  omega
 ·rw [List.length_append]
  unfold uy at i6
  simp only [Nat.lt_irrefl, false_and, if_false] at i6
  have := Nat.mul_le_mul (show to.high.toNat <= 10 by omega) (show 31 * to.wide.toNat + 5 <= 749 by omega)
  omega
theorem C4 {frm to : Gr} (hf : ao frm) (h : ao to) (hc : to.col < to.wide) (hw : frm.wide = to.wide) (hh : frm.high = to.high) :
  dT frm ([27, 99] ++ (bV (aO to.wide to.high) to).2) (bV (aO to.wide to.high) to).1 /\ Cv (aO to.wide to.high) to (bV (aO to.wide to.high) to) := by
 have hs := tY h
 have hm : iX (aO to.wide to.high) to := ⟨dr _ _, h, hs.wide, hs.high, hc⟩
 have hp := tH hm
 refine ⟨dT.append ?_ hp.runs, hp⟩
 have hd : doG frm ⟨5, 0, [], au⟩ = (aO to.wide to.high, 0) := by
  rw [fz hf]
  dsimp only
  rw [if_neg (by omega), if_neg (by omega), if_neg (by omega), if_neg (by omega), if_pos rfl, hw, hh]
 have := dT.one (s := [27, 99]) hf (e := ⟨5, 0, [], au⟩) (by rfl) (by rw [hd])
 rwa [hd] at this
structure Ct where
 here : Bool
 shown : Gr
 queue : Bs
 lost : Bool
abbrev Ct.zero : Ct := ⟨false, .zero, [], false⟩
structure Sv where
 v : Vw
 az : List Pr
 ak : List Ct
 ay : Int
structure Ac where
 kind : Int
 p : Int
 n : Int
 m : Int
 bytes : Bs
structure Rp where
 code : Int
 n : Int
 out : Bs
abbrev Rp.no (e : Int) : Rp := ⟨e, 0, []⟩
abbrev aq (v : Vw) (p : Nat) : Gr := v.aG.getD p .zero
abbrev an (s : Sv) (p : Nat) : Pr := s.az.getD p .zero
abbrev ag (s : Sv) (c : Nat) : Ct := s.ak.getD c .zero
def g9 (t : aD) (wide high : Int) (p : Nat) (g : Gr) : Gr :=
 if br t p = false then .zero
 else
  let w := max 1 (whereT t wide high p).wide
  let h := max 1 (whereT t wide high p).high
  if g.wide = 0 then aO w h else if g.wide ≠ w \/ g.high ≠ h then (bM g w h).1 else g
def yf (v : Vw) : List Gr := (List.range 6).map fun p => g9 v.aj v.wide v.high p (aq v p)
def rI (t : aD) (l : List Pr) : List Pr := (List.range 6).map fun p : Nat => if br t p = true then l.getD p .zero else .zero
def kN (s : Sv) : Sv := { s with v := { s.v with aG := yf s.v }, az := rI s.v.aj s.az }
def yO : Sv := kN ⟨⟨[[0]], List.replicate 6 .zero, 20, 7, 0⟩, List.replicate 6 .zero, List.replicate 3 .zero, 0⟩
def eT (t : aD) : Option Nat := [0, 1, 2, 3, 4, 5].find? fun n : Nat => !br t n
def splitS (s : Sv) (a : Ac) : Sv × Rp :=
 match eT s.v.aj with
 | none => (s, .no 5)
 | some n =>
  let r := aY s.v.aj a.p n (decide (a.n = 1))
  if r.2 ≠ 0 then (s, .no r.2) else (kN { s with v := { s.v with aj := r.1, focus := n } }, ⟨0, n, []⟩)
def dF (s : Sv) (p : Int) : Sv × Rp :=
 let r := bk s.v.aj p
 if r.2 ≠ 0 then (s, .no r.2) else (kN { s with v := { s.v with aj := r.1, focus := if s.v.focus = p then (r.1.getD 0 []).getD 0 0 else s.v.focus } }, .no 0)
def fy (s : Sv) (p : Nat) (b : Bs) : Sv :=
 { s with v := { s.v with aG := s.v.aG.set p (allG (aq s.v p) (feedP (an s p) b).2).1 }, az := s.az.set p (feedP (an s p) b).1 }
def Eo (to : Gr) : Gr × Bs := ((bV (aO to.wide to.high) to).1, [27, 99] ++ (bV (aO to.wide to.high) to).2)
def dg (v : Vw) (c : Ct) : Ct :=
 if c.here = false \/ (c.lost = true /\ c.queue ≠ []) then c
 else
  let to := aX v c.shown.wide c.shown.high
  let r := if c.lost = true then Eo to else bV c.shown to
  if 4000 - (c.queue.length : Int) < (r.2.length : Int) then { c with lost := true } else ⟨c.here, r.1, c.queue ++ r.2, false⟩
def kd (n m : Int) : Prop := 1 <= n /\ n <= 24 /\ 1 <= m /\ m <= 10
def bL (n : Int) (q : Bs) : Nat := (max 0 (min n q.length)).toNat
def aM (s : Sv) (a : Ac) : Sv × Rp :=
 if a.p < 0 \/ 3 <= a.p then (s, .no 3)
 else
  let c := ag s a.p.toNat
  if a.kind = 6 then
   if c.here = true then (s, .no 4)
   else if a.n < 1 \/ 24 < a.n \/ a.m < 1 \/ 10 < a.m then (s, .no 1)
   else ({ s with ak := s.ak.set a.p.toNat ⟨true, aO a.n a.m, [], true⟩ }, .no 0)
  else if c.here = false then (s, .no 3)
  else if a.kind = 7 then ({ s with ak := s.ak.set a.p.toNat .zero }, .no 0)
  else ({ s with ak := s.ak.set a.p.toNat { c with queue := c.queue.drop (bL a.n c.queue) } }, ⟨0, bL a.n c.queue, c.queue.take (bL a.n c.queue)⟩)
def va (s : Sv) : Sv := { s with ak := s.ak.map (dg s.v) }
def gu (s : Sv) (a : Ac) : Sv × Rp :=
 if a.kind = 1 then splitS s a
 else if a.kind = 2 then dF s a.p
 else if a.kind = 3 \/ a.kind = 4 then
  if br s.v.aj a.p = false then (s, .no 3)
  else if a.kind = 4 then ({ s with v := { s.v with focus := a.p } }, .no 0)
  else (fy s a.p.toNat a.bytes, .no 0)
 else if a.kind = 5 then
  if a.n < 1 \/ 24 < a.n \/ a.m < 1 \/ 10 < a.m then (s, .no 1)
  else (kN { s with v := { s.v with wide := a.n, high := a.m } }, .no 0)
 else if a.kind = 8 then (va s, .no 0)
 else if a.kind = 6 \/ a.kind = 7 \/ a.kind = 9 then aM s a
 else (s, .no 2)
def doS (s : Sv) (a : Ac) : Sv × Rp := if 300 <= s.ay then (s, .no 5) else gu { s with ay := s.ay + 1 } a
structure zT (t : aD) (wide high : Int) (p : Nat) (g : Gr) : Prop where
 off : br t p = false -> g = .zero
 on : br t p = true -> ao g /\ g.wide = max 1 (whereT t wide high p).wide /\ g.high = max 1 (whereT t wide high p).high
structure D2 (c : Ct) : Prop where
 off : c.here = false -> c = .zero
 on : c.here = true -> ao c.shown /\ c.queue.length <= 4000
structure bR (s : Sv) : Prop where
 aj : cF s.v.aj
 focus : br s.v.aj s.v.focus = true
 wY : kd s.v.wide s.v.high
 gl : s.v.aG.length = 6
 pl : s.az.length = 6
 cl : s.ak.length = 3
 aG : ∀ p, p < 6 -> zT s.v.aj s.v.wide s.v.high p (aq s.v p)
 az : ∀ p, p < 6 -> bB (an s p) /\ (br s.v.aj p = false -> an s p = .zero)
 ak : ∀ c, c < 3 -> D2 (ag s c)
theorem lu {α : Type} {n i : Nat} (f : Nat -> α) (d : α) (h : i < n) : ((List.range n).map f).getD i d = f i := by
 simp [List.getD_eq_getElem?_getD, h]
theorem mE {α : Type} {l : List α} {i j : Nat} (x d : α) (h : i < l.length) : (l.set i x).getD j d = if j = i then x else l.getD j d := by
 simp only [List.getD_eq_getElem?_getD]
 split
 ·next e => subst e; simp [h]
 ·next e => rw [List.getElem?_set_ne (fun h => e h.symm)]
theorem getD_map {α β : Type} {l : List α} {i : Nat} (f : α -> β) (d : α) (e : β) (h : i < l.length) : (l.map f).getD i e = f (l.getD i d) := by
 simp [List.getD_eq_getElem?_getD, h]
theorem E7 {t : aD} {wide high p : Int} (h : kd wide high) : (whereT t wide high p).wide <= 24 /\ (whereT t wide high p).high <= 10 := by
 have := FE t wide high p
 obtain ⟨h1, h2, h3, h4⟩ := h
 omega
theorem HV {t : aD} {wide high : Int} (h : kd wide high) {p : Nat} {g : Gr} (hg : g = .zero \/ ao g) : zT t wide high p (g9 t wide high p g) := by
 have hf := E7 (t := t) (p := p) h
 unfold g9
 refine ⟨fun ho => by rw [if_pos ho], fun ho => ?_⟩
 rw [if_neg (by rw [ho]; simp)]
 dsimp only
 by_cases h0 : g.wide = 0
 ·rw [if_pos h0]
  refine ⟨dr _ _, ?_, ?_⟩
  ·show max 1 (min (max 1 _) 24) = _; omega
  ·show max 1 (min (max 1 _) 10) = _; omega
 ·rw [if_neg h0]
  have hg' : ao g := hg.resolve_left fun e => h0 (by rw [e])
  split
  ·have hr := wT hg' (max 1 (whereT t wide high p).wide) (max 1 (whereT t wide high p).high)
   refine ⟨hr.2.1, ?_, ?_⟩
   ·rw [hr.2.2.1]; omega
   ·rw [hr.2.2.2.1]; omega
  ·next hs => exact ⟨hg', by apply Classical.byContradiction; intro hn; exact hs (.inl hn), by apply Classical.byContradiction; intro hn; exact hs (.inr hn)⟩
theorem rV {t : aD} (h : cF t) {p : Int} (hp : br t p = true) : 0 <= p /\ p < 6 := by
 have := h.E6 p (by simpa [br, List.contains_iff_mem] using hp)
 simpa [cy] using this
theorem EC {s : Sv} (hc : cF s.v.aj) (hf : br s.v.aj s.v.focus = true) (hs : kd s.v.wide s.v.high) (hg : ∀ p, p < 6 -> aq s.v p = .zero \/ ao (aq s.v p)) (hp : ∀ p, p < 6 -> bB (an s p)) (hl : s.ak.length = 3) (hcl : ∀ c, c < 3 -> D2 (ag s c)) : bR (kN s) := by
 refine ⟨hc, hf, hs, by simp [kN, yf], by simp [kN, rI], hl, fun p h6 => ?_, fun p h6 => ?_, hcl⟩
 ·have : aq (kN s).v p = g9 s.v.aj s.v.wide s.v.high p (aq s.v p) := lu _ _ h6
  rw [this]
  exact HV hs (hg p h6)
 ·have : an (kN s) p = if br s.v.aj p = true then s.az.getD p .zero else .zero := lu _ _ h6
  rw [this]
  split
  ·next h => exact ⟨hp p h6, fun hn => by rw [show br s.v.aj p = false from hn] at h; cases h⟩
  ·exact ⟨bB.zero, fun _ => rfl⟩
theorem zT.zero_or {t : aD} {wide high : Int} {p : Nat} {g : Gr} (h : zT t wide high p g) : g = .zero \/ ao g := by
 cases hh : br t p with
 | false => exact .inl (h.off hh)
 | true => exact .inr (h.on hh).1
theorem tf : bR yO := by
 refine EC (s := ⟨⟨[[0]], List.replicate 6 .zero, 20, 7, 0⟩, List.replicate 6 .zero, List.replicate 3 .zero, 0⟩) (bI.1 (by decide)) (by decide) (by simp [kd]) (fun p h => ?_) (fun p h => ?_) rfl fun c h => ?_
 ·left
  simp only [aq, List.getD_eq_getElem?_getD, List.getElem?_replicate, h, if_true, Option.getD_some]
 ·simp only [an, List.getD_eq_getElem?_getD, List.getElem?_replicate, h, if_true, Option.getD_some]
  exact bB.zero
 ·simp only [ag, List.getD_eq_getElem?_getD, List.getElem?_replicate, h, if_true, Option.getD_some]
  exact ⟨fun _ => rfl, fun h => by cases h⟩
theorem E2 (p : Pr) (c : Int) : (aC p c).2.kind = 0 \/ ((aC p c).2.kind = 1 /\ 32 <= (aC p c).2.b /\ (aC p c).2.b <= 126) \/ (2 <= (aC p c).2.kind /\ (aC p c).2.kind <= 5) := by
 unfold aC lA
 repeat' split
 all_goals simp [Ev.none]
 all_goals omega
def GW (e : Ev) : Prop := (e.kind = 1 /\ 32 <= e.b /\ e.b <= 126) \/ (2 <= e.kind /\ e.kind <= 5)
theorem uB : ∀ (l : Bs) (p : Pr), ∀ e ∈ (feedP p l).2, GW e
 | [], _, e, h => by simp [feedP] at h
 | b :: l, p, e, h => by
  simp only [feedP, List.mem_append] at h
  rcases h with h | h
  ·split at h
   ·simp at h
   ·next hk =>
    simp only [List.mem_singleton] at h
    rw [h]
    exact (E2 p b.toNat).resolve_left hk
  ·exact uB l _ e h
theorem En {g : Gr} (hg : ao g) {e : Ev} (he : GW e) : (doG g e).2 = 0 := by
 unfold GW at he
 rw [fz hg]
 by_cases h1 : e.kind = 1
 ·rw [if_pos h1, if_neg (by omega)]
 rw [if_neg h1]
 by_cases h1 : e.kind = 2
 ·rw [if_pos h1]
 rw [if_neg h1]
 by_cases h1 : e.kind = 3
 ·rw [if_pos h1]
 rw [if_neg h1]
 by_cases h1 : e.kind = 4
 ·rw [if_pos h1]
 rw [if_neg h1, if_pos (by omega)]
theorem CY : ∀ (l : List Ev) {g : Gr}, ao g -> (∀ e ∈ l, GW e) -> (allG g l).2 = 0 /\ ao (allG g l).1 /\ lM g (allG g l).1
 | [], g, hg, _ => ⟨rfl, hg, rfl, rfl⟩
 | e :: l, g, hg, h => by
  have h0 := En hg (h e List.mem_cons_self)
  have ho := DK hg e
  have ih := CY l ho.1 fun x hx => h x (List.mem_cons_of_mem _ hx)
  unfold allG
  rw [if_pos h0]
  exact ⟨ih.1, ih.2.1, ih.2.2.wide.trans ho.2.wide, ih.2.2.high.trans ho.2.high⟩
theorem po {g : Gr} (hg : ao g) (p : Pr) (b : Bs) : (allG g (feedP p b).2).2 = 0 /\ ao (allG g (feedP p b).2).1 /\ lM g (allG g (feedP p b).2).1 := CY _ hg (uB b p)
theorem nJ {c : Int} (h0 : 32 <= c) (h1 : c < 127) : cG (sign c) = true := by
 unfold cG sign
 simp only [Bool.and_eq_true, decide_eq_true_eq, if_true]
 exact ⟨by decide, .inr ⟨h0, h1⟩⟩
theorem CT (t : aD) (focus col : Int) : cG (nh t focus col) = true := by
 unfold nh
 split
 ·unfold cG
  simp only [Bool.and_eq_true, decide_eq_true_eq, if_true]
  exact ⟨by decide, .inr (by omega)⟩
 ·exact nJ (by decide) (by decide)
theorem G6 {g : Gr} (h : g = .zero \/ ao g) (r c : Int) : cG (atG g r c) = true := by
 unfold atG
 split
 ·rcases h with rfl | h
  ·simp [cG]
  ·exact cN.cg h.all _
 ·rfl
theorem EN {v : Vw} (h : ∀ p, p < 6 -> aq v p = .zero \/ ao (aq v p)) (r c : Int) : cG (cellV v r c) = true := by
 unfold cellV
 split
 ·exact nJ (by decide) (by decide)
 ·split
  ·next p hp => exact G6 (h p (EW hp).1) _ _
  ·split
   ·exact nJ (by decide) (by decide)
   ·exact nJ (by decide) (by decide)
theorem vz {v : Vw} (hg : ∀ p, p < 6 -> aq v p = .zero \/ ao (aq v p)) (wide high : Int) : ao (aX v wide high) /\ (aX v wide high).col < (aX v wide high).wide := by
 have hcur : ∀ w h : Int, 1 <= w -> 1 <= h -> 0 <= (cx v w h).1 /\ (cx v w h).1 < h /\ 0 <= (cx v w h).2 /\ (cx v w h).2 < w := fun w h hw hh => by
  unfold cx
  split
  ·simp only; omega
  ·dsimp only
   split <;> (dsimp only; omega)
 have hc := hcur (max 1 (min wide 24)) (max 1 (min high 10)) (by omega) (by omega)
 unfold aX
 dsimp only
 refine ⟨⟨?_, ?_, ?_, ?_, ?_, hc.1, hc.2.1, hc.2.2.1, Int.le_of_lt hc.2.2.2, Int.le_refl _, by show (0 : Int) <= 8; decide, Int.le_refl _, ?_, Int.le_refl _, ?_⟩, hc.2.2.2⟩
 ·show (1 : Int) <= max 1 (min wide 24); omega
 ·show max 1 (min wide 24) <= (24 : Int); omega
 ·show (1 : Int) <= max 1 (min high 10); omega
 ·show max 1 (min high 10) <= (10 : Int); omega
 ·show ((df _ _ _).length : Int) = max 1 (min wide 24) * max 1 (min high 10)
  rw [xu]
  have e1 : ((max 1 (min wide 24)).toNat : Int) = max 1 (min wide 24) := Int.toNat_of_nonneg (by omega)
  have e2 : ((max 1 (min high 10)).toNat : Int) = max 1 (min high 10) := Int.toNat_of_nonneg (by omega)
  push_cast
  rw [e1, e2]
 ·show (0 : Int) < max 1 (min high 10); omega
 ·refine cN.tab fun i _ => ?_
  split
  ·exact CT _ _ _
  ·exact EN hg _ _
theorem xO {p : Int} : ∀ t : aD, (eI t p).flatten = t.flatten.filter (· ≠ p)
 | [] => rfl
 | c :: t => by
  have ih := xO (p := p) t
  unfold eI at ih ⊢
  rw [List.map_cons, List.flatten_cons, List.filter_append, <- ih]
  cases hc : c.filter (· ≠ p) with
  | nil => rw [List.filter_cons_of_neg (by simp)]; simp
  | cons a b => rw [List.filter_cons_of_pos (by simp)]; simp
theorem Dv {p : Int} {l : List Int} (hn : l.Nodup) : l.length <= (l.filter (· ≠ p)).length + 1 := by
 by_cases h : p ∈ l
 ·rw [zn h hn, List.length_eraseIdx_of_lt (List.idxOf_lt_length_of_mem h)]; omega
 ·rw [nx h]; omega
theorem HA {t : aD} {p : Int} (h : (bk t p).2 = 0) : cF t /\ br t p = true /\ 2 <= t.flatten.length /\ (bk t p).1 = eI t p := by
 unfold bk at h
 by_cases h1 : mV t = false
 ·rw [if_pos h1] at h; cases h
 rw [if_neg h1] at h
 have hg : cF t := bI.1 (by simpa using h1)
 cases hf : findT t p with
 | none => rw [hf] at h; cases h
 | some x =>
  obtain ⟨i, k⟩ := x
  rw [hf] at h
  simp only at h
  by_cases h2 : t.length = 1 /\ (t.getD 0 []).length = 1
  ·rw [if_pos h2] at h; cases h
  have hh := kQ.2 ⟨i, k, hf⟩
  refine ⟨hg, hh, ?_, by rw [EJ hg hh h2]⟩
  cases t with
  | nil => exact (hg.some rfl).elim
  | cons c t =>
   have h1 := (hg.each c List.mem_cons_self).1
   cases t with
   | nil => simp at h2 ⊢; omega
   | cons d t =>
    have h3 := (hg.each d (by simp)).1
    simp; omega
theorem uq {t : aD} {p : Int} (h : (bk t p).2 = 0) : cF (bk t p).1 /\ br (bk t p).1 p = false /\ (∀ q, q ≠ p -> br (bk t p).1 q = br t q) /\ br (bk t p).1 (((bk t p).1.getD 0 []).getD 0 0) = true := by
 obtain ⟨hg, hh, h2, he⟩ := HA h
 rw [he]
 have hfl := xO (p := p) t
 have hlen : 1 <= (eI t p).flatten.length := by
  rw [hfl]
  have := Dv (p := p) hg.nodup
  omega
 have heach : ∀ c ∈ eI t p, 1 <= c.length /\ c.length <= 3 := fun c hc => by
  unfold eI at hc
  rw [List.mem_filter, List.mem_map] at hc
  obtain ⟨⟨d, hd, rfl⟩, hne⟩ := hc
  have := (hg.each d hd).2
  have := List.length_filter_le (fun x => decide (x ≠ p)) d
  refine ⟨?_, by omega⟩
  cases hx : d.filter (· ≠ p) with
  | nil => rw [hx] at hne; simp at hne
  | cons _ _ => simp
 have hne : eI t p ≠ [] := fun e => by rw [e] at hlen; simp at hlen
 refine ⟨⟨heach, fun q hq => ?_, ?_, hne⟩, ?_, fun q hq => ?_, ?_⟩
 ·rw [hfl, List.mem_filter] at hq
  exact hg.E6 q hq.1
 ·rw [hfl]; exact hg.nodup.filter _
 ·unfold br
  rw [hfl]
  cases hx : (t.flatten.filter (· ≠ p)).contains p with
  | false => rfl
  | true => rw [List.contains_iff_mem, List.mem_filter] at hx; simp at hx
 ·unfold br
  rw [hfl, Bool.eq_iff_iff, List.contains_iff_mem, List.contains_iff_mem, List.mem_filter]
  simp [hq]
 ·cases hk : eI t p with
  | nil => exact (hne hk).elim
  | cons c l =>
   have := (heach c (by rw [hk]; simp)).1
   cases c with
   | nil => simp at this
   | cons a c => simp [br]
structure Tm where
 p : Pr
 g : Gr
abbrev Tm.zero : Tm := ⟨.zero, .zero⟩
def uF (t : Tm) (s : Bs) : Tm := ⟨(feedP t.p s).1, (allG t.g (feedP t.p s).2).1⟩
structure Hw (c : Ct) (t : Tm) : Prop where
 pr : bB t.p
 gr : t.g = .zero \/ ao t.g
 on : c.here = true -> ao t.g /\ uF t c.queue = ⟨.zero, c.shown⟩
theorem uR {t : Tm} (h : ao t.g) (a b : Bs) : uF t (a ++ b) = uF (uF t a) b := by
 unfold uF
 rw [pB]
 dsimp only
 rw [all_append _ _ _ (po h _ _).1]
theorem Fx {t : Tm} (h : ao t.g) (hp : bB t.p) (s : Bs) : ao (uF t s).g /\ bB (uF t s).p /\ lM t.g (uF t s).g :=
 ⟨(po h _ _).2.1, tZ s hp, (po h _ _).2.2⟩
theorem dT.get {g g' : Gr} {s : Bs} (h : dT g s g') : uF ⟨.zero, g⟩ s = ⟨.zero, g'⟩ := by
 obtain ⟨evs, h1, h2⟩ := h
 unfold uF
 dsimp only
 rw [h1]
 dsimp only
 rw [h2]
structure Shown (v : Vw) (c c' : Ct) : Prop where
 here : c'.here = c.here
 wY : lM c.shown c'.shown
 ok : D2 c'
 grow : c' = c \/ (c' = { c with lost := true } /\ c.queue ≠ []) \/ (c'.lost = false /\ ∃ b, c'.queue = c.queue ++ b /\ dT c.shown b c'.shown)
 IA : c'.here = true -> c'.lost = false -> c'.shown.cells = (aX v c'.shown.wide c'.shown.high).cells /\ c'.shown.row = (aX v c'.shown.wide c'.shown.high).row /\ c'.shown.col = (aX v c'.shown.wide c'.shown.high).col
 clean : c.here = true -> c.queue = [] -> c'.lost = false
theorem su {v : Vw} {g : Gr} (h : ao g) : (aX v g.wide g.high).wide = g.wide /\ (aX v g.wide g.high).high = g.high := by
 have := h.w1
 have := h.w2
 have := h.h1
 have := h.h2
 unfold aX
 dsimp only
 omega
theorem yz {v : Vw} (hg : ∀ p, p < 6 -> aq v p = .zero \/ ao (aq v p)) {c : Ct} (hc : D2 c) : Shown v c (dg v c) := by
 unfold dg
 by_cases h1 : c.here = false \/ (c.lost = true /\ c.queue ≠ [])
 ·rw [if_pos h1]
  refine ⟨rfl, ⟨rfl, rfl⟩, hc, .inl rfl, fun hh hl => ?_, fun hh hq => ?_⟩
  ·rcases h1 with h1 | h1
   ·rw [h1] at hh; cases hh
   ·rw [h1.1] at hl; cases hl
  ·rcases h1 with h1 | h1
   ·rw [h1] at hh; cases hh
   ·exact (h1.2 hq).elim
 rw [if_neg h1]
 have hh : c.here = true := by cases hx : c.here with | true => rfl | false => exact (h1 (.inl hx)).elim
 obtain ⟨hs, hq⟩ := hc.on hh
 have hw := vz hg c.shown.wide c.shown.high
 have hsd := su (v := v) hs
 dsimp only
 have key : ∀ r : Gr × Bs, r = (if c.lost = true then Eo (aX v c.shown.wide c.shown.high) else bV c.shown (aX v c.shown.wide c.shown.high)) -> ao r.1 /\ r.1.wide = c.shown.wide /\ r.1.high = c.shown.high /\ dT c.shown r.2 r.1 /\ r.2.length <= 3902 /\ r.1.cells = (aX v c.shown.wide c.shown.high).cells /\ r.1.row = (aX v c.shown.wide c.shown.high).row /\ r.1.col = (aX v c.shown.wide c.shown.high).col := by
  rintro r rfl
  split
  ·have ha := C4 hs hw.1 hw.2 hsd.1.symm hsd.2.symm
   have hp := ha.2
   exact ⟨hp.uv, hp.wide.trans hsd.1, hp.high.trans hsd.2, ha.1, by have := hp.few; simp only [Eo, List.length_append, List.length_cons, List.length_nil]; omega, hp.cells, hp.row, hp.col⟩
  ·have hp := tH ⟨hs, hw.1, hsd.1.symm, hsd.2.symm, hw.2⟩
   exact ⟨hp.uv, hp.wide.trans hsd.1, hp.high.trans hsd.2, hp.runs, by have := hp.few; omega, hp.cells, hp.row, hp.col⟩
 have k := key _ rfl
 generalize (if c.lost = true then Eo (aX v c.shown.wide c.shown.high) else bV c.shown (aX v c.shown.wide c.shown.high)) = r at k
 obtain ⟨k1, k2, k3, k4, k5, k6, k7, k8⟩ := k
 by_cases h2 : 4000 - (c.queue.length : Int) < (r.2.length : Int)
 ·rw [if_pos h2]
  have hne : c.queue ≠ [] := fun e => by rw [e] at h2; simp at h2; omega
  exact ⟨rfl, ⟨rfl, rfl⟩, ⟨fun h => (by rw [show c.here = false from h] at hh; cases hh), fun _ => ⟨hs, hq⟩⟩, .inr (.inl ⟨rfl, hne⟩), fun _ hl => (by cases hl), fun _ he => (hne he).elim⟩
 ·rw [if_neg h2]
  refine ⟨rfl, ⟨k2, k3⟩, ⟨fun h => (by rw [show c.here = false from h] at hh; cases hh), fun _ => ⟨k1, ?_⟩⟩, .inr (.inr ⟨rfl, r.2, rfl, k4⟩), fun _ _ => ?_, fun _ _ => rfl⟩
  ·show (c.queue ++ r.2).length <= 4000
   rw [List.length_append]; omega
  ·show r.1.cells = (aX v r.1.wide r.1.high).cells /\ _
   rw [k2, k3]
   exact ⟨k6, k7, k8⟩
theorem Hp {v : Vw} {c c' : Ct} {t : Tm} (h : Shown v c c') (ht : Hw c t) : Hw c' t := by
 refine ⟨ht.pr, ht.gr, fun hh => ?_⟩
 obtain ⟨h1, h2⟩ := ht.on (by rw [<- h.here]; exact hh)
 refine ⟨h1, ?_⟩
 rcases h.grow with rfl | ⟨rfl, _⟩ | ⟨_, b, hb, hr⟩
 ·exact h2
 ·exact h2
 ·rw [hb, uR h1, h2, hr.get]
theorem bR.ay {s : Sv} (h : bR s) (n : Int) : bR { s with ay := n } := ⟨h.aj, h.focus, h.wY, h.gl, h.pl, h.cl, h.aG, h.az, h.ak⟩
theorem bR.ki {s : Sv} (h : bR s) (p : Nat) (hp : p < 6) : aq s.v p = .zero \/ ao (aq s.v p) := (h.aG p hp).zero_or
theorem bR.fit {s : Sv} (h : bR s) {t : aD} {w k f : Int} (ht : cF t) (hf : br t f = true) (hs : kd w k) : bR (kN { s with v := { s.v with aj := t, wide := w, high := k, focus := f } }) :=
 EC ht hf hs h.ki (fun p hp => (h.az p hp).1) h.cl h.ak
structure uZ (s s' : Sv) : Prop where
 v : s'.v = s.v
 az : s'.az = s.az
 len : s'.ak.length = s.ak.length
theorem bR.ve {s s' : Sv} (h : bR s) (ho : uZ s s') (hc : ∀ c, c < 3 -> D2 (ag s' c)) : bR s' := by
 obtain ⟨v, ps, cs, n⟩ := s'
 obtain ⟨h1, h2, h3⟩ := ho
 simp only at h1 h2 h3
 subst h1 h2
 exact ⟨h.aj, h.focus, h.wY, h.gl, h.pl, h3.trans h.cl, h.aG, h.az, hc⟩
theorem rE {s : Sv} {i : Nat} {c : Ct} (hi : i < s.ak.length) (j : Nat) : ag { s with ak := s.ak.set i c } j = if j = i then c else ag s j := mE _ _ hi
theorem rQ (s : Sv) (a : Ac) : uZ s (aM s a).1 /\ (aM s a).1.ay = s.ay := by
 unfold aM
 dsimp only
 repeat' split
 all_goals exact ⟨⟨rfl, rfl, by simp⟩, rfl⟩
theorem iU {s : Sv} (h : bR s) (a : Ac) : ((aM s a).2.code ≠ 0 /\ (aM s a).1 = s /\ (aM s a).2.n = 0 /\ (aM s a).2.out = []) \/
  ((aM s a).2.code = 0 /\ 0 <= a.p /\ a.p < 3 /\ (∀ j, j ≠ a.p.toNat -> ag (aM s a).1 j = ag s j) /\ D2 (ag (aM s a).1 a.p.toNat) /\
   ((a.kind = 6 /\ (ag s a.p.toNat).here = false /\ ag (aM s a).1 a.p.toNat = ⟨true, aO a.n a.m, [], true⟩ /\ (aM s a).2 = .no 0 /\ kd a.n a.m) \/
    (a.kind = 7 /\ ag (aM s a).1 a.p.toNat = .zero /\ (aM s a).2 = .no 0) \/
    (a.kind ≠ 6 /\ a.kind ≠ 7 /\ (ag s a.p.toNat).here = true /\ ag (aM s a).1 a.p.toNat = { ag s a.p.toNat with queue := (ag s a.p.toNat).queue.drop (bL a.n (ag s a.p.toNat).queue) } /\
     (aM s a).2 = ⟨0, bL a.n (ag s a.p.toNat).queue, (ag s a.p.toNat).queue.take (bL a.n (ag s a.p.toNat).queue)⟩))) := by
 unfold aM
 by_cases h1 : a.p < 0 \/ 3 <= a.p
 ·rw [if_pos h1]; exact .inl ⟨by show (3 : Int) ≠ 0; decide, rfl, rfl, rfl⟩
 rw [if_neg h1]
 dsimp only
 have hlt : a.p.toNat < s.ak.length := by rw [h.cl]; omega
 have hc := h.ak a.p.toNat (by omega)
 have oth : ∀ (x : Ct), ∀ j, j ≠ a.p.toNat -> ag { s with ak := s.ak.set a.p.toNat x } j = ag s j := fun x j hj => by rw [rE hlt, if_neg hj]
 have own : ∀ (x : Ct), ag { s with ak := s.ak.set a.p.toNat x } a.p.toNat = x := fun x => by rw [rE hlt, if_pos rfl]
 by_cases h2 : a.kind = 6
 ·rw [if_pos h2]
  by_cases h3 : (ag s a.p.toNat).here = true
  ·rw [if_pos h3]; exact .inl ⟨by show (4 : Int) ≠ 0; decide, rfl, rfl, rfl⟩
  rw [if_neg h3]
  by_cases h4 : a.n < 1 \/ 24 < a.n \/ a.m < 1 \/ 10 < a.m
  ·rw [if_pos h4]; exact .inl ⟨by show (1 : Int) ≠ 0; decide, rfl, rfl, rfl⟩
  rw [if_neg h4]
  refine .inr ⟨rfl, by omega, by omega, oth _, ?_, .inl ⟨h2, by simpa using h3, own _, rfl, by unfold kd; omega⟩⟩
  rw [own]
  exact ⟨fun h => (by cases h), fun _ => ⟨dr _ _, by simp⟩⟩
 rw [if_neg h2]
 by_cases h3 : (ag s a.p.toNat).here = false
 ·rw [if_pos h3]; exact .inl ⟨by show (3 : Int) ≠ 0; decide, rfl, rfl, rfl⟩
 rw [if_neg h3]
 have hh : (ag s a.p.toNat).here = true := by simpa using h3
 by_cases h4 : a.kind = 7
 ·rw [if_pos h4]
  refine .inr ⟨rfl, by omega, by omega, oth _, ?_, .inr (.inl ⟨h4, own _, rfl⟩)⟩
  rw [own]
  exact ⟨fun _ => rfl, fun h => by cases h⟩
 rw [if_neg h4]
 refine .inr ⟨rfl, by omega, by omega, oth _, ?_, .inr (.inr ⟨h2, h4, hh, own _, rfl⟩)⟩
 rw [own]
 exact ⟨fun h => (by rw [show (ag s a.p.toNat).here = false from h] at hh; cases hh), fun _ => ⟨(hc.on hh).1, by
  have := (hc.on hh).2
  show (List.drop _ _).length <= 4000
  rw [List.length_drop]; omega⟩⟩
theorem Fz {s : Sv} (h : bR s) (a : Ac) : bR (aM s a).1 := by
 rcases iU h a with ⟨_, he, _⟩ | ⟨_, h0, h3, ho, hc, _⟩
 ·rw [he]; exact h
 ·refine h.ve (rQ s a).1 fun c hc3 => ?_
  by_cases e : c = a.p.toNat
  ·rw [e]; exact hc
  ·rw [ho c e]; exact h.ak c hc3
theorem uU {s : Sv} (h : bR s) {c : Nat} (hc : c < 3) : ag (va s) c = dg s.v (ag s c) := getD_map _ _ _ (by rw [h.cl]; exact hc)
theorem FG {s : Sv} (h : bR s) : bR (va s) := by
 refine h.ve ⟨rfl, rfl, by simp [va]⟩ fun c hc => ?_
 rw [uU h hc]
 exact (yz h.ki (h.ak c hc)).ok
theorem EX {s : Sv} (h : bR s) (a : Ac) : bR (splitS s a).1 := by
 unfold splitS
 cases hf : eT s.v.aj with
 | none => exact h
 | some n =>
  dsimp only
  split
  ·exact h
  ·next h0 =>
   have hg := nK (t := s.v.aj) (p := a.p) (n := n) (right := decide (a.n = 1)) (by simpa using h0)
   exact h.fit hg.1 hg.2.1 h.wY
theorem Ge {s : Sv} (h : bR s) (p : Int) : bR (dF s p).1 := by
 unfold dF
 dsimp only
 split
 ·exact h
 ·next h0 =>
  have hg := uq (t := s.v.aj) (p := p) (by simpa using h0)
  refine h.fit hg.1 ?_ h.wY
  split
  ·exact hg.2.2.2
  ·next hne => rw [hg.2.2.1 _ hne]; exact h.focus
theorem FD {s : Sv} {p : Nat} {b : Bs} (h : bR s) (hp : p < 6) (q : Nat) : aq (fy s p b).v q = if q = p then (allG (aq s.v p) (feedP (an s p) b).2).1 else aq s.v q := mE _ _ (by rw [h.gl]; exact hp)
theorem Dt {s : Sv} {p : Nat} {b : Bs} (h : bR s) (hp : p < 6) (q : Nat) : an (fy s p b) q = if q = p then (feedP (an s p) b).1 else an s q := mE _ _ (by rw [h.pl]; exact hp)
theorem Dp {s : Sv} (h : bR s) {p : Int} (hp : br s.v.aj p = true) (b : Bs) : bR (fy s p.toNat b) := by
 have h6 := rV h.aj hp
 have hpn : ((p.toNat : Nat) : Int) = p := by omega
 refine ⟨h.aj, h.focus, h.wY, by simp [fy, h.gl], by simp [fy, h.pl], h.cl, fun q hq => ?_, fun q hq => ?_, h.ak⟩
 ·rw [FD h (by omega)]
  split
  ·next e =>
   subst e
   have ho := (h.aG p.toNat hq).on (by rw [hpn]; exact hp)
   have hf := po ho.1 (an s p.toNat) b
   refine ⟨fun hn => ?_, fun _ => ⟨hf.2.1, hf.2.2.wide.trans ho.2.1, hf.2.2.high.trans ho.2.2⟩⟩
   rw [hpn] at hn
   rw [show br s.v.aj p = false from hn] at hp
   cases hp
  ·exact h.aG q hq
 ·rw [Dt h (by omega)]
  split
  ·next e =>
   subst e
   refine ⟨tZ b (h.az p.toNat hq).1, fun hn => ?_⟩
   rw [hpn] at hn
   rw [show br s.v.aj p = false from hn] at hp
   cases hp
  ·exact h.az q hq
theorem GY {s : Sv} (h : bR s) (a : Ac) : bR (gu s a).1 := by
 unfold gu
 by_cases h1 : a.kind = 1
 ·rw [if_pos h1]; exact EX h a
 rw [if_neg h1]
 by_cases h1 : a.kind = 2
 ·rw [if_pos h1]; exact Ge h a.p
 rw [if_neg h1]
 by_cases h1 : a.kind = 3 \/ a.kind = 4
 ·rw [if_pos h1]
  by_cases h2 : br s.v.aj a.p = false
  ·rw [if_pos h2]; exact h
  rw [if_neg h2]
  have h2' : br s.v.aj a.p = true := by simpa using h2
  split
  ·exact ⟨h.aj, h2', h.wY, h.gl, h.pl, h.cl, h.aG, h.az, h.ak⟩
  ·exact Dp h h2' a.bytes
 rw [if_neg h1]
 by_cases h1 : a.kind = 5
 ·rw [if_pos h1]
  by_cases h2 : a.n < 1 \/ 24 < a.n \/ a.m < 1 \/ 10 < a.m
  ·rw [if_pos h2]; exact h
  ·rw [if_neg h2]
   exact h.fit h.aj h.focus (by unfold kd; omega)
 rw [if_neg h1]
 by_cases h1 : a.kind = 8
 ·rw [if_pos h1]; exact FG h
 rw [if_neg h1]
 split
 ·exact Fz h a
 ·exact h
theorem DP {s : Sv} (h : bR s) (a : Ac) : bR (doS s a).1 := by
 unfold doS
 split
 ·exact h
 ·exact GY (h.ay _) a
theorem GK (s : Sv) (a : Ac) : (gu s a).1.ay = s.ay := by
 unfold gu
 repeat' split
 all_goals first
  | rfl
  | exact (rQ s a).2
  | (unfold splitS; split <;> first | rfl | (dsimp only; split <;> rfl))
  | (unfold dF; dsimp only; split <;> rfl)
theorem EK {s : Sv} {a : Ac} (h : s.ay < 300) : (doS s a).1.ay = s.ay + 1 := by
 unfold doS
 rw [if_neg (by omega), GK]
theorem vA (s : Sv) (a : Ac) (h : a.kind ≠ 6 /\ a.kind ≠ 7 /\ a.kind ≠ 8 /\ a.kind ≠ 9) : (gu s a).1.ak = s.ak := by
 unfold gu
 repeat' split
 all_goals first
  | rfl
  | (exfalso; omega)
  | (unfold splitS; split <;> first | rfl | (dsimp only; split <;> rfl))
  | (unfold dF; dsimp only; split <;> rfl)
abbrev Ce (t : List Tm) (c : Nat) : Tm := t.getD c .zero
def stepT (t : List Tm) (a : Ac) (r : Rp) : List Tm :=
 if r.code = 0 /\ a.kind = 6 then t.set a.p.toNat ⟨.zero, aO a.n a.m⟩
 else if r.code = 0 /\ a.kind = 9 then t.set a.p.toNat (uF (Ce t a.p.toNat) r.out)
 else t
structure BP (k : Int) (s : Sv) (t : List Tm) : Prop where
 inv : bR s
 ay : s.ay = k
 len : t.length = 3
 tm : ∀ c, c < 3 -> Hw (ag s c) (Ce t c)
theorem BP.start : BP 0 yO (List.replicate 3 .zero) := by
 refine ⟨tf, rfl, rfl, fun c h => ?_⟩
 have hz : ag yO c = .zero := by
  show (List.replicate 3 Ct.zero).getD c .zero = .zero
  simp only [List.getD_eq_getElem?_getD, List.getElem?_replicate, h, if_true, Option.getD_some]
 have ht : Ce (List.replicate 3 Tm.zero) c = .zero := by
  simp only [Ce, List.getD_eq_getElem?_getD, List.getElem?_replicate, h, if_true, Option.getD_some]
 rw [hz, ht]
 exact ⟨bB.zero, .inl rfl, fun h => by cases h⟩
theorem AX {t : List Tm} {i : Nat} {x : Tm} (h : i < t.length) (j : Nat) : Ce (t.set i x) j = if j = i then x else Ce t j := mE _ _ h
theorem zk {s : Sv} {a : Ac} (h : s.ay < 300) : doS s a = gu { s with ay := s.ay + 1 } a := by unfold doS; rw [if_neg (by omega)]
theorem kA {s : Sv} {a : Ac} (h : a.kind = 6 \/ a.kind = 7 \/ a.kind = 9) : gu s a = aM s a := by
 unfold gu
 rw [if_neg (by omega), if_neg (by omega), if_neg (by omega), if_neg (by omega), if_neg (by omega), if_pos h]
theorem F3 {s : Sv} {a : Ac} (h : a.kind = 8) : gu s a = (va s, .no 0) := by
 unfold gu
 rw [if_neg (by omega), if_neg (by omega), if_neg (by omega), if_neg (by omega), if_pos h]
theorem BP.step {k : Int} {s : Sv} {t : List Tm} (h : BP k s t) (hk : k < 300) (a : Ac) : BP (k + 1) (doS s a).1 (stepT t a (doS s a).2) := by
 have hl := h.len
 have hacts := h.ay
 have hi := h.inv.ay (s.ay + 1)
 refine ⟨DP h.inv a, by rw [EK (by omega), hacts], ?_, fun c hc => ?_⟩
 ·unfold stepT; repeat' split
  all_goals simp [hl]
 rw [zk (by omega)]
 have htm := h.tm c hc
 have hsame : ∀ x, ag { s with ay := x } c = ag s c := fun _ => rfl
 by_cases hv : a.kind = 6 \/ a.kind = 7 \/ a.kind = 9
 ·rw [kA hv]
  rcases iU hi a with ⟨h1, h2, _⟩ | ⟨h1, h2, h3, h4, h5, h6⟩
  ·rw [h2]
   unfold stepT
   rw [if_neg (by rintro ⟨e, _⟩; exact h1 e), if_neg (by rintro ⟨e, _⟩; exact h1 e)]
   exact htm
  ·by_cases e : c = a.p.toNat
   ·subst e
    rcases h6 with ⟨g1, g2, g3, g4, g5⟩ | ⟨g1, g3, g4⟩ | ⟨g1, g2, g3, g4, g5⟩
    ·unfold stepT
     rw [if_pos ⟨h1, g1⟩, AX (by omega), if_pos rfl, g3]
     exact ⟨bB.zero, .inr (dr _ _), fun _ => ⟨dr _ _, rfl⟩⟩
    ·unfold stepT
     rw [if_neg (by omega), if_neg (by omega), g3]
     exact ⟨htm.pr, htm.gr, fun h => by cases h⟩
    ·have h9 : a.kind = 9 := by omega
     unfold stepT
     rw [if_neg (by omega), if_pos ⟨h1, h9⟩, AX (by omega), if_pos rfl, g4, g5]
     obtain ⟨j1, j2⟩ := htm.on g3
     have jj := Fx j1 htm.pr ((ag s a.p.toNat).queue.take (bL a.n (ag s a.p.toNat).queue))
     refine ⟨jj.2.1, .inr jj.1, fun _ => ⟨jj.1, ?_⟩⟩
     show uF (uF _ (List.take _ _)) (List.drop _ _) = _
     rw [<- uR j1, List.take_append_drop]
     exact j2
   ·rw [h4 c e]
    have : Ce (stepT t a (aM { s with ay := s.ay + 1 } a).2) c = Ce t c := by
     unfold stepT
     split
     ·rw [AX (by omega), if_neg e]
     ·split
      ·rw [AX (by omega), if_neg e]
      ·rfl
    rw [this]
    exact htm
 ·have hst : ∀ r, stepT t a r = t := fun r => by
   unfold stepT
   rw [if_neg (by omega), if_neg (by omega)]
  rw [hst]
  by_cases h8 : a.kind = 8
  ·rw [F3 h8]
   show Hw (ag (va _) c) _
   rw [uU hi hc]
   exact Hp (yz hi.ki (hi.ak c hc)) htm
  ·have := vA { s with ay := s.ay + 1 } a ⟨by omega, by omega, by omega, by omega⟩
   unfold ag
   rw [this]
   exact htm
structure Alike (s s' : Sv) : Prop where
 v : s'.v = s.v
 az : s'.az = s.az
 ak : s'.ak = s.ak
theorem Alike.eq {s s' : Sv} (h : Alike s s') : s' = { s with ay := s'.ay } := by
 obtain ⟨v, p, c, n⟩ := s'
 obtain ⟨h1, h2, h3⟩ := h
 simp only at h1 h2 h3
 subst h1 h2 h3
 rfl
theorem Fg {s : Sv} (hs : bR s) {a : Ac} (ha : a.kind = 6 \/ a.kind = 7 \/ a.kind = 9) : (doS s a).1.v = s.v /\ ∀ c : Nat, c < 3 -> (c : Int) ≠ a.p -> ag (doS s a).1 c = ag s c := by
 unfold doS
 split
 ·exact ⟨rfl, fun _ _ _ => rfl⟩
 ·rw [kA ha]
  have hi := hs.ay (s.ay + 1)
  refine ⟨(rQ _ _).1.v, fun c hc hn => ?_⟩
  rcases iU hi a with ⟨_, h2, _⟩ | ⟨h1, h2, h3, h4, _⟩
  ·rw [h2]
  ·exact h4 c (by omega)
theorem GJ {p : Pr} (h : bB p) (c : Int) : (aC p c).2.ps.length <= 4 := by
 have hl := h.len
 unfold aC lA
 repeat' split
 all_goals first | exact hl | exact Nat.zero_le _
theorem tz : ∀ (l : List UInt8) (p : Pr), bB p -> ∀ e ∈ (feedP p l).2, e.ps.length <= 4
 | [], _, _, _, he => by simp [feedP] at he
 | b :: l, p, h, e, he => by
  simp only [feedP, List.mem_append] at he
  rcases he with he | he
  ·split at he
   ·simp at he
   ·simp only [List.mem_singleton] at he
    rw [he]
    exact GJ h _
  ·exact tz l _ (kC h) e he
theorem sL : ∀ (l : List UInt8) (p : Pr), (feedP p l).2.length <= l.length
 | [], _ => by simp [feedP]
 | b :: l, p => by
  have := sL l (aC p b.toNat).1
  simp only [feedP, List.length_append, List.length_cons]
  split <;> simp <;> omega
def bg (l : List Int) : List Value := l.map (Value.int .i64)
def bY (u : World) (p : Option Addr) (n : Nat) (l : List Int) : Prop := Gets u p (bg l) /\ l.length = n
theorem bF (l : List Int) : (bg l).length = l.length := by simp [bg]
theorem Gh {u : World} {b : Nat} : ∀ (l : List Int) (o i : Nat), Rd u b o (bg l) -> i < l.length -> Rd u b (o + i * 1) [.int .i64 (l.getD i 0)]
 | [], _, _, _, h => by simp at h
 | x :: l, o, 0, h, _ => ⟨by simpa using h.1, trivial⟩
 | x :: l, o, i + 1, h, hi => by
  have := Gh l (o + 1) i h.2 (by simpa using hi)
  rw [show o + (i + 1) * 1 = o + 1 + i * 1 by omega]
  simpa using this
theorem bY.at {u : World} {p : Option Addr} {n : Nat} {l : List Int} (h : bY u p n l) {i : Nat} (hi : i < n) : ∃ b o, p = some ⟨b, o, none⟩ /\ Rd u b (o + i * 1) [.int .i64 (l.getD i 0)] := by
 obtain ⟨h, hl⟩ := h
 cases p with
 | none =>
  have : (bg l).length = 0 := by rw [show bg l = [] from h]; rfl
  rw [bF] at this
  omega
 | some a =>
  obtain ⟨b, o, s⟩ := a
  obtain ⟨hs, hr⟩ := h
  have hs := hs fun e => by have := congrArg List.length e; rw [bF] at this; simp only [List.length_nil] at this; omega
  simp only at hs
  subst hs
  exact ⟨b, o, rfl, Gh l o i hr (by omega)⟩
theorem bY.upd {S : Nat -> Prop} {u u' : World} {p : Option Addr} {n : Nat} {l : List Int} (h : bY u p n l) (hu : Upd S u u') (hn : ∀ k, At p k -> ¬ S k) : bY u' p n l := ⟨hu.aH h.1 hn, h.2⟩
theorem bY.ext {u u' : World} {p : Option Addr} {n : Nat} {l : List Int} (h : bY u p n l) (hu : Ext u u') : bY u' p n l := h.upd hu fun _ _ h => h
theorem iY (l : List Int) : okCells (bg l) True := by
 rw [bm]
 refine ⟨fun c hc => ?_, trivial⟩
 simp only [bg, List.mem_map] at hc
 obtain ⟨_, _, rfl⟩ := hc
 rfl
theorem Own.iG {u : World} {p : Option Addr} {n c : Nat} {l : List Int} (h : Own u 1 p n c (bg l)) : bY u p n l := ⟨h.aH, by have := h.len; rw [bF] at this; omega⟩
def PrV (p : Pr) (pp : Option Addr) (n c : Nat) : Value := .agg #[.int .i64 p.at_, .slice pp n c, .string p.pl, .bool p.fA]
def EvV (e : Ev) (pp : Option Addr) (n c : Nat) : Value := .agg #[.int .i64 e.kind, .int .i64 e.b, .slice pp n c, .string e.pl]
theorem Fb {a b : ByteArray} (h : a.data.toList = b.data.toList) : a = b := by
 cases a; cases b; simp only [ByteArray.mk.injEq]; exact Array.ext' h
theorem vp {a : ByteArray} : a.data.toList = [] ↔ a = au := ⟨fun h => Fb h, fun h => by rw [h]⟩
theorem CR {l m : List Int} (hl : l.length = m.length) : l = m ↔ ∀ i, i < l.length -> l.getD i 0 = m.getD i 0 := by
 constructor
 ·rintro rfl _ _; rfl
 ·intro h
  refine List.ext_getElem hl fun i h1 h2 => ?_
  have := h i h1
  simpa [List.getD_eq_getElem?_getD, List.getElem?_eq_getElem h1, List.getElem?_eq_getElem h2] using this
def Evs (u : World) (ok : Nat -> Prop) : List (List Value) -> List Ev -> Prop
 | [], [] => True
 | x :: xs, e :: es => (∃ p n c, x = [.int .i64 e.kind, .int .i64 e.b, .slice p n c, .string e.pl] /\ bY u p n e.ps /\ ∀ k, At p k -> ok k) /\ Evs u ok xs es
 | _, _ => False
theorem Evs.len {u : World} {ok : Nat -> Prop} : ∀ {xs : List (List Value)} {es : List Ev}, Evs u ok xs es -> xs.length = es.length
 | [], [], _ => rfl
 | _ :: _, _ :: _, h => by simp only [List.length_cons, Evs.len h.2]
theorem Evs.at {u : World} {ok : Nat -> Prop} : ∀ {xs : List (List Value)} {es : List Ev} {i : Nat}, Evs u ok xs es -> i < es.length -> ∃ p n c, xs.getD i [] = [.int .i64 (es.getD i .none).kind, .int .i64 (es.getD i .none).b, .slice p n c, .string (es.getD i .none).pl] /\ bY u p n (es.getD i .none).ps /\ ∀ k, At p k -> ok k
 | x :: xs, e :: es, 0, h, _ => by simpa using h.1
 | x :: xs, e :: es, i + 1, h, hi => by simpa using Evs.at (i := i) h.2 (by simpa using hi)
 | [], [], _, _, hi => by simp at hi
theorem Evs.each {u : World} {ok : Nat -> Prop} : ∀ {xs : List (List Value)} {es : List Ev}, Evs u ok xs es -> ∀ y ∈ xs, y.length = 4
 | x :: xs, e :: es, h, y, hy => by
  rcases List.mem_cons.1 hy with rfl | hy
  ·obtain ⟨_, _, _, rfl, _⟩ := h.1
   rfl
  ·exact Evs.each h.2 y hy
 | [], [], _, _, hy => by simp at hy
theorem Evs.upd {S ok ok' : Nat -> Prop} {u u' : World} (hu : Upd S u u') (hok : ∀ k, ok k -> ¬ S k /\ ok' k) : ∀ {xs : List (List Value)} {es : List Ev}, Evs u ok xs es -> Evs u' ok' xs es
 | [], [], _ => trivial
 | x :: xs, e :: es, h => ⟨by
  obtain ⟨p, n, c, h1, h2, h3⟩ := h.1
  exact ⟨p, n, c, h1, h2.upd hu fun k hk => (hok k (h3 k hk)).1, fun k hk => (hok k (h3 k hk)).2⟩, Evs.upd hu hok h.2⟩
theorem Evs.snoc {u : World} {ok : Nat -> Prop} {x : List Value} {e : Ev} (hx : ∃ p n c, x = [.int .i64 e.kind, .int .i64 e.b, .slice p n c, .string e.pl] /\ bY u p n e.ps /\ ∀ k, At p k -> ok k) : ∀ {xs : List (List Value)} {es : List Ev}, Evs u ok xs es -> Evs u ok (xs ++ [x]) (es ++ [e])
 | [], [], _ => ⟨hx, trivial⟩
 | _ :: _, _ :: _, h => ⟨h.1, Evs.snoc hx h.2⟩
theorem Evs.append {u : World} {ok : Nat -> Prop} {ys : List (List Value)} {fs : List Ev} (h' : Evs u ok ys fs) : ∀ {xs : List (List Value)} {es : List Ev}, Evs u ok xs es -> Evs u ok (xs ++ ys) (es ++ fs)
 | [], [], _ => h'
 | _ :: _, _ :: _, h => ⟨h.1, Evs.append h' h.2⟩
theorem Evs.ext {u u' : World} {ok : Nat -> Prop} (hu : Ext u u') {xs : List (List Value)} {es : List Ev} (h : Evs u ok xs es) : Evs u' ok xs es := h.upd hu fun k hk => ⟨fun h => h, hk⟩
def EvL (u : World) (ok : Nat -> Prop) (p : Option Addr) (n : Nat) (es : List Ev) : Prop := ∃ xs, Arr u 4 p n xs /\ Evs u ok xs es
theorem Cm {α : Type} {l m : List α} (d : α) (hl : l.length = m.length) : l = m ↔ ∀ i, i < l.length -> l.getD i d = m.getD i d := by
 constructor
 ·rintro rfl _ _; rfl
 ·intro h
  refine List.ext_getElem hl fun i h1 h2 => ?_
  have := h i h1
  simpa [List.getD_eq_getElem?_getD, List.getElem?_eq_getElem h1, List.getElem?_eq_getElem h2] using this
theorem CH {α : Type} {l : List α} (d : α) {i : Nat} (h : i < l.length) : l.getD i d ∈ l := by
 rw [List.getD_eq_getElem?_getD, List.getElem?_eq_getElem h]
 exact List.getElem_mem _
theorem EvL.len {u : World} {ok : Nat -> Prop} {p : Option Addr} {n : Nat} {es : List Ev} (h : EvL u ok p n es) : es.length = n := by
 obtain ⟨xs, ha, he⟩ := h
 rw [<- he.len, ha.len]
theorem EvL.upd {S ok ok' : Nat -> Prop} {u u' : World} {p : Option Addr} {n : Nat} {es : List Ev} (h : EvL u ok p n es) (hu : Upd S u u') (hp : ∀ k, At p k -> ¬ S k) (hok : ∀ k, ok k -> ¬ S k /\ ok' k) : EvL u' ok' p n es := by
 obtain ⟨xs, ha, he⟩ := h
 exact ⟨xs, ha.upd hu hp, he.upd hu hok⟩
theorem EvL.ext {ok : Nat -> Prop} {u u' : World} {p : Option Addr} {n : Nat} {es : List Ev} (h : EvL u ok p n es) (hu : Ext u u') : EvL u' ok p n es := h.upd hu (fun _ _ h => h) fun _ h => ⟨fun h => h, h⟩
theorem EvL.at {u : World} {ok : Nat -> Prop} {p : Option Addr} {n : Nat} {es : List Ev} (h : EvL u ok p n es) {i : Nat} (hi : i < n) : ∃ b o q m c, p = some ⟨b, o, none⟩ /\ Rd u b (o + i * 4) [.int .i64 (es.getD i .none).kind, .int .i64 (es.getD i .none).b, .slice q m c, .string (es.getD i .none).pl] /\ bY u q m (es.getD i .none).ps := by
 have hl := h.len
 obtain ⟨xs, ha, he⟩ := h
 obtain ⟨b, o, hp, hr⟩ := ha.at hi (by decide)
 obtain ⟨q, m, c, h1, h2, _⟩ := he.at (i := i) (by omega)
 rw [h1] at hr
 exact ⟨b, o, q, m, c, hp, hr, h2⟩
def bu (u : World) (pp : Option Addr) (r : Pr × Ev) (e : Ending) (u' : World) : Prop :=
 ∃ (q : Option Addr) (n c : Nat) (ep : Option Addr) (en ec : Nat), e = .returned (.tuple #[PrV r.1 q n c, EvV r.2 ep en ec]) /\ Own u' 1 q n c (bg r.1.ps) /\ bY u' ep en r.2.ps /\ Upd (At pp) u u' /\
  (∀ k, At q k -> At pp k \/ u.heap.size <= k) /\ ∀ k, At ep k -> At pp k /\ ¬ At q k
theorem aJ {k : Nat} : ¬ At none k := fun ⟨_, h, _⟩ => by cases h
theorem ar {a : Addr} {k : Nat} (h : At (some a) k) : k = a.block := by obtain ⟨_, h, rfl⟩ := h; cases h; rfl
theorem bu.plain {u u' : World} {pp : Option Addr} {p : Pr} {e : Ev} {q : Option Addr} {n c : Nat} (hps : e.ps = []) (ho : Own u' 1 q n c (bg p.ps)) (hu : Upd (At pp) u u') (hq : ∀ k, At q k -> At pp k \/ u.heap.size <= k) :
  bu u pp (p, e) (.returned (.tuple #[PrV p q n c, EvV e none 0 0])) u' := ⟨q, n, c, none, 0, 0, rfl, ho, ⟨by rw [hps]; rfl, by rw [hps]; rfl⟩, hu, hq, fun _ h => (aJ h).elim⟩
theorem Own.Dn {u : World} {p : Option Addr} {n c : Nat} {l : List Int} (h : Own u 1 p n c (bg l)) : l.length = n := by have := h.len; rw [bF] at this; omega
theorem zP (ps : List Int) (c : Int) (h : 0 < ps.length) : bg (cW ps c) = bg (ps.take (ps.length - 1)) ++ [.int .i64 (min (10 * (ps.getD (ps.length - 1) 0) + c - 48) 999)] ++ [] := by
 unfold cW bg
 rw [List.append_nil, List.map_set]
 apply List.ext_getElem
 ·simp; omega
 ·intro i h1 h2
  simp only [List.length_set, List.length_map] at h1
  by_cases hi : i = ps.length - 1
  ·subst hi
   simp
  ·rw [List.getElem_set_ne (by omega), List.getElem_append_left (by simp; omega)]
   simp
def Blk (u : World) (b : Nat) (cs : List Value) : Prop := ∃ t, u.heap[b]? = some (.cells cs.toArray t (0, 0))
theorem Blk.lt {u : World} {b : Nat} {cs : List Value} (h : Blk u b cs) : b < u.heap.size := by
 obtain ⟨t, h⟩ := h
 exact (Array.getElem?_eq_some_iff.1 h).1
theorem Blk.upd {S : Nat -> Prop} {u u' : World} {b : Nat} {cs : List Value} (h : Blk u b cs) (hu : Upd S u u') (hn : ¬ S b) : Blk u' b cs := by
 have hl := h.lt
 obtain ⟨t, h⟩ := h
 exact ⟨t, by rw [hu.old b hl hn]; exact h⟩
theorem Blk.ext {u u' : World} {b : Nat} {cs : List Value} (h : Blk u b cs) (hu : Ext u u') : Blk u' b cs := h.upd hu fun h => h
theorem Blk.fresh (u : World) (cs : List Value) (t : TypeId) : Blk (ab u (.cells cs.toArray t)) u.heap.size cs := ⟨t, by rw [heap_alloc, if_pos rfl]⟩
theorem Blk.rd {u : World} {b : Nat} {pre xs post : List Value} (h : Blk u b (pre ++ xs ++ post)) {o : Nat} (ho : o = pre.length) : Rd u b o xs := by
 obtain ⟨t, h⟩ := h
 subst ho
 exact j0 xs pre post h
theorem Blk.dL {u : World} {b : Nat} {cs : List Value} (h : Blk u b cs) {o n : Nat} {xs : List Value} (hx : takeN cs o n = some xs) : Rd u b o xs := by
 obtain ⟨t, h⟩ := h
 exact xo h hx
theorem Blk.wr {u : World} {b : Nat} {cs : List Value} (h : Blk u b cs) {o n : Nat} (hn : o + n <= cs.length) : Wr u b o n := by
 obtain ⟨t, h⟩ := h
 exact Em h hn
theorem Blk.put {u : World} {b : Nat} {pre mid post : List Value} (h : Blk u b (pre ++ mid ++ post)) {ys : List Value} (hl : mid.length = ys.length) {o : Nat} (ho : o = pre.length) : Blk (ae u b o ys) b (pre ++ ys ++ post) := by
 obtain ⟨t, h⟩ := h
 subst ho
 exact ⟨t, iW ys pre mid post u h hl⟩
theorem Blk.putAt {u : World} {b : Nat} {cs r : List Value} (h : Blk u b cs) {o : Nat} {ys : List Value} (hp : putN cs o ys = some r) : Blk (ae u b o ys) b r := by
 obtain ⟨t, h⟩ := h
 exact ⟨t, kB ys o cs r u h hp⟩
theorem Blk.oF {u : World} {b : Nat} {cs r : List Value} (h : Blk u b cs) {o : Nat} {ys : List Value} (hp : putN cs o ys = some r) : Wr u b o ys.length := by
 obtain ⟨t, h⟩ := h
 exact pt h hp
theorem aI {u : World} (b o : Nat) (ys : List Value) : Upd (· = b) u (ae u b o ys) := Upd.put (S := (· = b)) (Upd.refl u) (b := b) (fun _ => rfl) _ _
theorem Own.blk {u : World} {es b n c : Nat} {cs : List Value} (h : Own u es (some ⟨b, 0, none⟩) n c cs) : ∃ r, Blk u b (cs ++ r) /\ cs.length = n * es /\ n <= c /\ r.length = (c - n) * es := by
 rcases h with ⟨h, _⟩ | ⟨b', t, r, hp, hb, h1, h2, h3⟩
 ·cases h
 ·cases hp
  exact ⟨r, ⟨t, hb⟩, h1, h2, h3⟩
theorem Blk.own {u : World} {es b n c : Nat} {cs r : List Value} (h : Blk u b (cs ++ r)) (h1 : cs.length = n * es) (h2 : n <= c) (h3 : r.length = (c - n) * es) : Own u es (some ⟨b, 0, none⟩) n c cs := by
 obtain ⟨t, h⟩ := h
 exact .inr ⟨b, t, r, rfl, h, h1, h2, h3⟩
theorem Own.over {u : World} {es b n c : Nat} {cs : List Value} (h : Own u es (some ⟨b, 0, none⟩) n c cs) {o : Nat} {ys : List Value} (hl : o + ys.length <= cs.length) : Own (ae u b o ys) es (some ⟨b, 0, none⟩) n c (cs.take o ++ ys ++ cs.drop (o + ys.length)) := by
 have e : cs = cs.take o ++ (cs.drop o).take ys.length ++ cs.drop (o + ys.length) := by
  rw [List.append_assoc, <- List.drop_drop, List.take_append_drop, List.take_append_drop]
 have h' := h
 rw [e] at h'
 exact h'.put (by rw [List.length_take, List.length_drop]; omega) (by rw [List.length_take]; omega)
def clV (c : Cl) : List Value := [.int .i64 c.ch, .int .i64 c.ink, .int .i64 c.pic, .bool c.bold]
abbrev ClV (c : Cl) : Value := .agg #[.int .i64 c.ch, .int .i64 c.ink, .int .i64 c.pic, .bool c.bold]
def aE (l : List Cl) : List Value := (l.map clV).flatten
theorem bq (l : List Cl) : (aE l).length = l.length * 4 := by
 unfold aE
 rw [jg (es := 4) _ (fun y hy => by obtain ⟨c, _, rfl⟩ := List.mem_map.1 hy; rfl), List.length_map]
theorem dA (l m : List Cl) : aE (l ++ m) = aE l ++ aE m := by simp [aE]
theorem vv : ∀ (l : List Cl) (i : Nat), (aE l).take (i * 4) = aE (l.take i)
 | [], i => by simp [aE]
 | c :: l, 0 => by simp [aE]
 | c :: l, i + 1 => by
  have ih := vv l i
  unfold aE at ih ⊢
  rw [List.map_cons, List.flatten_cons, Nat.add_mul, List.take_succ_cons, List.map_cons, List.flatten_cons, <- ih]
  simp [clV]
theorem uX : ∀ (l : List Cl) (i : Nat), (aE l).drop (i * 4) = aE (l.drop i)
 | [], i => by simp [aE]
 | c :: l, 0 => by simp [aE]
 | c :: l, i + 1 => by
  have ih := uX l i
  unfold aE at ih ⊢
  rw [List.map_cons, List.flatten_cons, Nat.add_mul, List.drop_succ_cons, <- ih]
  simp [clV]
theorem Cw (n : Nat) : aE (List.replicate n .z) = aS n (clV .z) := by
 unfold aE aS
 rw [List.map_replicate]
theorem fQ (l : List Cl) (r : Prop) : okCells (aE l) r ↔ r := by
 rw [bm]
 refine ⟨fun h => h.2, fun h => ⟨fun c hc => ?_, h⟩⟩
 unfold aE at hc
 rw [List.mem_flatten] at hc
 obtain ⟨y, hy, hc⟩ := hc
 obtain ⟨x, _, rfl⟩ := List.mem_map.1 hy
 simp only [clV, List.mem_cons, List.not_mem_nil, or_false] at hc
 rcases hc with rfl | rfl | rfl | rfl <;> rfl
structure Cells (u : World) (p : Option Addr) (l : List Cl) : Prop where
 aH : Gets u p (aE l)
theorem Cells.upd {S : Nat -> Prop} {u u' : World} {p : Option Addr} {l : List Cl} (h : Cells u p l) (hu : Upd S u u') (hn : ∀ k, At p k -> ¬ S k) : Cells u' p l := ⟨hu.aH h.aH hn⟩
theorem Cells.ext {u u' : World} {p : Option Addr} {l : List Cl} (h : Cells u p l) (hu : Ext u u') : Cells u' p l := h.upd hu fun _ _ h => h
theorem Cells.at {u : World} {p : Option Addr} {l : List Cl} (h : Cells u p l) {i : Nat} (hi : i < l.length) : ∃ b o, p = some ⟨b, o, none⟩ /\ Rd u b (o + i * 4) (clV (cg l i)) := by
 obtain ⟨h⟩ := h
 have hA : Arr u 4 p l.length (l.map clV) := ⟨h, by simp, fun y hy => by obtain ⟨c, _, rfl⟩ := List.mem_map.1 hy; rfl⟩
 obtain ⟨b, o, hp, hr⟩ := hA.at hi (by decide)
 refine ⟨b, o, hp, ?_⟩
 have e : (l.map clV).getD i [] = clV (cg l i) := by
  simp [cg, List.getD_eq_getElem?_getD, hi]
 rwa [e] at hr
theorem Cells.lt {u : World} {p : Option Addr} {l : List Cl} (h : Cells u p l) (hl : 0 < l.length) {k : Nat} (hk : At p k) : k < u.heap.size := by
 obtain ⟨b, o, hp, hr⟩ := h.at hl
 obtain ⟨a, ha, rfl⟩ := hk
 rw [hp] at ha
 cases ha
 exact uL hr
theorem Cells.nil (u : World) : Cells u none [] := ⟨rfl⟩
theorem Cells.sub {u : World} {b o : Nat} {l : List Cl} (h : Cells u (some ⟨b, o, none⟩) l) {i k : Nat} (hik : i + k <= l.length) : Cells u (some ⟨b, o + i * 4, none⟩) ((l.drop i).take k) := by
 obtain ⟨_, h⟩ := h
 refine ⟨fun _ => rfl, ?_⟩
 have e : aE l = aE (l.take i) ++ (aE ((l.drop i).take k) ++ aE (l.drop (i + k))) := by
  rw [<- dA, <- dA, <- List.drop_drop, List.take_append_drop, List.take_append_drop]
 rw [e] at h
 have h1 := (fw _ _ _ h).2
 have h2 := (fw _ _ _ h1).1
 rw [bq, List.length_take] at h2
 rwa [show min i l.length = i by omega] at h2
def CO (u : World) (b c : Nat) (l : List Cl) : Prop := Own u 4 (some ⟨b, 0, none⟩) l.length c (aE l)
theorem CO.cells {u : World} {b c : Nat} {l : List Cl} (h : CO u b c l) : Cells u (some ⟨b, 0, none⟩) l := ⟨Own.aH h⟩
theorem CO.upd {S : Nat -> Prop} {u u' : World} {b c : Nat} {l : List Cl} (h : CO u b c l) (hu : Upd S u u') (hn : ¬ S b) : CO u' b c l := Own.upd h hu fun k hk => by
 obtain ⟨a, ha, rfl⟩ := hk
 cases ha
 exact hn
theorem CO.ext {u u' : World} {b c : Nat} {l : List Cl} (h : CO u b c l) (hu : Ext u u') : CO u' b c l := h.upd hu fun h => h
theorem CO.lt {u : World} {b c : Nat} {l : List Cl} (h : CO u b c l) : b < u.heap.size := (Own.at h ⟨_, rfl, rfl⟩).1
theorem CO.le {u : World} {b c : Nat} {l : List Cl} (h : CO u b c l) : l.length <= c := Own.le h
theorem CO.rd {u : World} {b c : Nat} {l : List Cl} (h : CO u b c l) {i : Nat} (hi : i < l.length) : Rd u b (0 + i * 4) (clV (cg l i)) := by
 obtain ⟨b', o, hp, hr⟩ := h.cells.at hi
 cases hp
 exact hr
theorem CO.wr {u : World} {b c : Nat} {l : List Cl} (h : CO u b c l) {o n : Nat} (hn : o + n <= l.length * 4) : Wr u b o n := by
 obtain ⟨r, hb, h1, h2, h3⟩ := Own.blk h
 exact hb.wr (by rw [List.length_append, h1]; omega)
def fH (l : List Cl) (i : Nat) (m : List Cl) : List Cl := l.take i ++ m ++ l.drop (i + m.length)
theorem cw {l m : List Cl} {i : Nat} (h : i + m.length <= l.length) : (fH l i m).length = l.length := by
 simp only [fH, List.length_append, List.length_take, List.length_drop]
 omega
theorem mo {l m : List Cl} {i j : Nat} (h : i + m.length <= l.length) : cg (fH l i m) j = if i <= j /\ j < i + m.length then cg m (j - i) else cg l j := by
 unfold fH
 rw [qe, qe]
 simp only [List.length_append, List.length_take]
 rw [show min i l.length = i by omega]
 by_cases h1 : j < i + m.length
 ·rw [if_pos h1]
  by_cases h2 : j < i
  ·rw [if_pos h2, if_neg (by omega), tu h2]
  ·rw [if_neg h2, if_pos (by omega)]
 ·rw [if_neg h1, if_neg (by omega), tQ, show i + m.length + (j - (i + m.length)) = j by omega]
theorem CO.over {u : World} {b c : Nat} {l : List Cl} (h : CO u b c l) {i : Nat} {m : List Cl} (hl : i + m.length <= l.length) {o : Nat} (ho : o = i * 4) : CO (ae u b o (aE m)) b c (fH l i m) := by
 subst ho
 have := Own.over h (o := i * 4) (ys := aE m) (by rw [bq, bq]; omega)
 unfold CO
 rw [cw hl]
 have e : aE (fH l i m) = (aE l).take (i * 4) ++ aE m ++ (aE l).drop (i * 4 + (aE m).length) := by
  rw [bq, <- Nat.add_mul, vv, uX, <- dA, <- dA]
  rfl
 rw [e]
 exact this
theorem FM {l : List Cl} {i : Nat} {x : Cl} (h : i < l.length) : fH l i [x] = l.set i x := by
 refine gP (by rw [cw (by simp; omega), List.length_set]) fun j hj => ?_
 rw [cw (by simp; omega)] at hj
 rw [mo (by simp; omega), nH h]
 simp only [List.length_cons, List.length_nil]
 by_cases e : j = i
 ·rw [if_pos (by omega), if_pos e, show j - i = 0 by omega]; rfl
 ·rw [if_neg (by omega), if_neg e]
theorem CO.set {u : World} {b c : Nat} {l : List Cl} (h : CO u b c l) {i : Nat} (x : Cl) (hl : i < l.length) {o : Nat} (ho : o = i * 4) : CO (ae u b o (clV x)) b c (l.set i x) := by
 have := h.over (m := [x]) (i := i) (by simp; omega) ho
 rw [FM hl] at this
 have e : aE [x] = clV x := by simp [aE]
 rwa [e] at this
theorem CO.fresh (u : World) (l : List Cl) (t : TypeId) : CO (ab u (.cells (aE l).toArray t)) u.heap.size l.length l := Own.fresh u (bq l)
abbrev GrV (g : Gr) (p : Option Addr) (n c : Nat) : Value := .agg #[.int .i64 g.wide, .int .i64 g.high, .slice p n c, .int .i64 g.row, .int .i64 g.col, .int .i64 g.ink, .bool g.bold, .int .i64 g.top, .int .i64 g.aA]
abbrev grV (g : Gr) (p : Option Addr) (n c : Nat) : List Value := [.int .i64 g.wide, .int .i64 g.high, .slice p n c, .int .i64 g.row, .int .i64 g.col, .int .i64 g.ink, .bool g.bold, .int .i64 g.top, .int .i64 g.aA]
structure GB (u : World) (gb : Nat) (g : Gr) (b c : Nat) : Prop where
 blk : Blk u gb (grV g (some ⟨b, 0, none⟩) g.cells.length c)
 own : CO u b c g.cells
 ne : b ≠ gb
theorem GB.upd {S : Nat -> Prop} {u u' : World} {gb : Nat} {g : Gr} {b c : Nat} (h : GB u gb g b c) (hu : Upd S u u') (h1 : ¬ S gb) (h2 : ¬ S b) : GB u' gb g b c := ⟨h.blk.upd hu h1, h.own.upd hu h2, h.ne⟩
theorem GB.ext {u u' : World} {gb : Nat} {g : Gr} {b c : Nat} (h : GB u gb g b c) (hu : Ext u u') : GB u' gb g b c := h.upd hu (fun h => h) fun h => h
theorem GB.put {u : World} {gb : Nat} {g g' : Gr} {b c o : Nat} {ys : List Value} (h : GB u gb g b c) (hc : g'.cells = g.cells) (hp : putN (grV g (some ⟨b, 0, none⟩) g.cells.length c) o ys = some (grV g' (some ⟨b, 0, none⟩) g.cells.length c)) : GB (ae u gb o ys) gb g' b c := by
 refine ⟨?_, ?_, h.ne⟩
 ·rw [hc]; exact h.blk.putAt hp
 ·rw [hc]; exact h.own.upd (aI gb o ys) h.ne
theorem GB.wr {u : World} {gb : Nat} {g : Gr} {b c o n : Nat} (h : GB u gb g b c) (hn : o + n <= 9) : Wr u gb o n := h.blk.wr hn
theorem GB.cell {u : World} {gb : Nat} {g : Gr} {b c i : Nat} (h : GB u gb g b c) (x : Cl) (hi : i < g.cells.length) {o : Nat} (ho : o = i * 4) : GB (ae u b o (clV x)) gb { g with cells := g.cells.set i x } b c := by
 refine ⟨?_, h.own.set x hi ho, h.ne⟩
 show Blk _ gb (grV g _ (g.cells.set i x).length c)
 rw [List.length_set]
 exact h.blk.upd (aI b o (clV x)) h.ne.symm
theorem GB.cells {u : World} {gb : Nat} {g : Gr} {b c i : Nat} {m : List Cl} (h : GB u gb g b c) (hi : i + m.length <= g.cells.length) {o : Nat} (ho : o = i * 4) : GB (ae u b o (aE m)) gb { g with cells := fH g.cells i m } b c := by
 refine ⟨?_, h.own.over hi ho, h.ne⟩
 show Blk _ gb (grV g _ (fH g.cells i m).length c)
 rw [cw hi]
 exact h.blk.upd (aI b o (aE m)) h.ne.symm
def cH (u : World) (ok : Nat -> Prop) : List (List Value) -> aD -> Prop
 | [], [] => True
 | x :: xs, l :: ls => (∃ q c, x = [.slice q l.length c] /\ bY u q l.length l /\ ∀ k, At q k -> ok k) /\ cH u ok xs ls
 | _, _ => False
section
variable {u u' : World} {ok ok' : Nat -> Prop}
theorem cH.len : ∀ {xs : List (List Value)} {ls : aD}, cH u ok xs ls -> xs.length = ls.length
 | [], [], _ => rfl
 | _ :: _, _ :: _, h => by simp only [List.length_cons, cH.len h.2]
theorem cH.each : ∀ {xs : List (List Value)} {ls : aD}, cH u ok xs ls -> ∀ y ∈ xs, y.length = 1
 | x :: xs, l :: ls, h, y, hy => by
  rcases List.mem_cons.1 hy with rfl | hy
  ·obtain ⟨_, _, rfl, _⟩ := h.1
   rfl
  ·exact cH.each h.2 y hy
 | [], [], _, _, hy => by simp at hy
theorem cH.upd {S : Nat -> Prop} (hu : Upd S u u') (hok : ∀ k, ok k -> ¬ S k /\ ok' k) : ∀ {xs : List (List Value)} {ls : aD}, cH u ok xs ls -> cH u' ok' xs ls
 | [], [], _ => trivial
 | x :: xs, l :: ls, h => ⟨by
  obtain ⟨q, c, h1, h2, h3⟩ := h.1
  exact ⟨q, c, h1, h2.upd hu fun k hk => (hok k (h3 k hk)).1, fun k hk => (hok k (h3 k hk)).2⟩, cH.upd hu hok h.2⟩
theorem cH.snoc {q : Option Addr} {c : Nat} {l : List Int} (hq : bY u q l.length l) (hk : ∀ k, At q k -> ok k) : ∀ {xs : List (List Value)} {ls : aD}, cH u ok xs ls -> cH u ok (xs ++ [[.slice q l.length c]]) (ls ++ [l])
 | [], [], _ => ⟨⟨q, c, rfl, hq, hk⟩, trivial⟩
 | _ :: _, _ :: _, h => ⟨h.1, cH.snoc hq hk h.2⟩
theorem cH.at : ∀ {xs : List (List Value)} {ls : aD} {i : Nat}, cH u ok xs ls -> i < ls.length -> ∃ q c, xs.getD i [] = [.slice q (ls.getD i []).length c] /\ bY u q (ls.getD i []).length (ls.getD i []) /\ ∀ k, At q k -> ok k
 | x :: xs, l :: ls, 0, h, _ => by simpa using h.1
 | x :: xs, l :: ls, i + 1, h, hi => by simpa using cH.at (i := i) h.2 (by simpa using hi)
 | [], [], _, _, hi => by simp at hi
end
structure Tl (u : World) (p : Option Addr) (t : aD) : Prop where
 ex : ∃ xs, Arr u 1 p t.length xs /\ cH u (fun _ => True) xs t
theorem Tl.ext {u u' : World} {p : Option Addr} {t : aD} (h : Tl u p t) (hu : Ext u u') : Tl u' p t := by
 obtain ⟨xs, h1, h2⟩ := h.ex
 exact ⟨xs, h1.ext hu, h2.upd hu fun _ _ => ⟨fun h => h, trivial⟩⟩
theorem Tl.at {u : World} {p : Option Addr} {t : aD} (h : Tl u p t) {i : Nat} (hi : i < t.length) : ∃ b o q c, p = some ⟨b, o, none⟩ /\ Rd u b (o + i * 1) [.slice q (t.getD i []).length c] /\ bY u q (t.getD i []).length (t.getD i []) := by
 obtain ⟨xs, h1, h2⟩ := h.ex
 obtain ⟨b, o, hp, hr⟩ := h1.at hi (by decide)
 obtain ⟨q, c, hx, hn, _⟩ := h2.at hi
 rw [hx] at hr
 exact ⟨b, o, q, c, hp, hr, hn⟩
structure dO (B : Nat) (t : aD) : Prop where
 n : t.length <= B
 each : ∀ c ∈ t, c.length <= B
theorem dO.getD {B : Nat} {t : aD} (h : dO B t) (i : Nat) : (t.getD i []).length <= B := by
 rcases Nat.lt_or_ge i t.length with hi | hi
 ·exact h.each _ (by rw [List.getD_eq_getElem?_getD, List.getElem?_eq_getElem hi]; exact List.getElem_mem _)
 ·rw [List.getD_eq_getElem?_getD, List.getElem?_eq_none hi]; simp
theorem cF.yP {t : aD} (h : cF t) : dO 6 t := ⟨h.few, fun c hc => Nat.le_trans (h.each c hc).2 (by decide)⟩
abbrev TlV (p : Option Addr) (t : aD) (c : Nat) : Value := .agg #[.slice p t.length c]
abbrev RcV (r : Rc) : Value := .agg #[.int .i64 r.row, .int .i64 r.col, .int .i64 r.high, .int .i64 r.wide]
theorem cA {α : Type} {l : List α} {d : α} {i : Nat} (h : i < l.length) : l.getD i d ∈ l := by
 rw [List.getD_eq_getElem?_getD, List.getElem?_eq_getElem h]
 exact List.getElem_mem _
theorem bN {α : Type} (l : List α) (d : α) {i : Nat} (h : i < l.length) : l.take (i + 1) = l.take i ++ [l.getD i d] := by
 rw [List.take_succ, List.getElem?_eq_getElem h, List.getD_eq_getElem?_getD, List.getElem?_eq_getElem h]
 rfl
theorem ub : ∀ {l : List Int} {i : Nat} {v : Int}, i < l.length -> l.getD i 0 = v -> (∀ j : Nat, j < i -> l.getD j 0 ≠ v) -> l.contains v = true /\ l.idxOf v = i
 | [], _, _, h, _, _ => by simp at h
 | a :: l, 0, v, _, h, _ => by
  simp only [List.getD_cons_zero] at h
  subst h
  simp
 | a :: l, i + 1, v, hi, h, hj => by
  have h0 := hj 0 (by omega)
  simp only [List.getD_cons_zero] at h0
  have ih := ub (l := l) (i := i) (v := v) (by simpa using hi) (by simpa using h) fun j hji => by
   have := hj (j + 1) (by omega)
   simpa using this
  refine ⟨?_, ?_⟩
  ·simp only [List.contains_cons, ih.1, Bool.or_true]
  ·rw [Dg h0, ih.2]
theorem tA {l : List Int} {v : Int} (h : ∀ j : Nat, j < l.length -> l.getD j 0 ≠ v) : l.contains v = false := by
 cases hc : l.contains v with
 | false => rfl
 | true =>
  rw [List.contains_iff_mem] at hc
  obtain ⟨i, hi, he⟩ := List.getElem_of_mem hc
  exact (h i hi (by rw [List.getD_eq_getElem?_getD, List.getElem?_eq_getElem hi]; simpa using he)).elim
theorem zO : ∀ {t : aD} {i : Nat} {p : Int}, i < t.length -> (t.getD i []).contains p = true -> (∀ j : Nat, j < i -> (t.getD j []).contains p = false) -> findT t p = some (i, (t.getD i []).idxOf p)
 | [], _, _, h, _, _ => by simp at h
 | c :: t, 0, p, _, h, _ => by
  simp only [List.getD_cons_zero] at h
  unfold findT
  rw [if_pos h]
  simp
 | c :: t, i + 1, p, hi, h, hj => by
  have h0 := hj 0 (by omega)
  simp only [List.getD_cons_zero] at h0
  have ih := zO (t := t) (i := i) (p := p) (by simpa using hi) (by simpa using h) fun j hji => by
   have := hj (j + 1) (by omega)
   simpa using this
  unfold findT
  rw [if_neg (by rw [h0]; simp), ih]
  simp
theorem GF {t : aD} {p : Int} (h : ∀ j : Nat, j < t.length -> (t.getD j []).contains p = false) : findT t p = none := by
 rw [iS]
 unfold br
 cases hc : t.flatten.contains p with
 | false => rfl
 | true =>
  rw [List.contains_iff_mem, List.mem_flatten] at hc
  obtain ⟨c, hc, hp⟩ := hc
  obtain ⟨i, hi, rfl⟩ := List.getElem_of_mem hc
  have := h i hi
  rw [List.getD_eq_getElem?_getD, List.getElem?_eq_getElem hi] at this
  simp only [Option.getD_some] at this
  rw [<- Bool.not_eq_true, List.contains_iff_mem] at this
  exact (this hp).elim
structure VwM (u : World) (cs : List Value) (v : Vw) : Prop where
 aj : ∃ p c, takeN cs 0 1 = some [.slice p v.aj.length c] /\ Tl u p v.aj
 few : dO 1048576 v.aj
 qz : ∀ i : Nat, i < 6 -> ∃ p c, takeN cs (1 + i * 9) 9 = some (grV (v.aG.getD i .zero) p (v.aG.getD i .zero).cells.length c) /\ Cells u p (v.aG.getD i .zero).cells /\ (v.aG.getD i .zero).cells.length <= 1048576 /\
  inK .i64 (v.aG.getD i .zero).row /\ inK .i64 (v.aG.getD i .zero).col
 wide : takeN cs 55 1 = some [.int .i64 v.wide]
 high : takeN cs 56 1 = some [.int .i64 v.high]
 focus : takeN cs 57 1 = some [.int .i64 v.focus]
 whole : takeN cs 0 58 = some cs
theorem VwM.ext {u u' : World} {cs : List Value} {v : Vw} (h : VwM u cs v) (hu : Ext u u') : VwM u' cs v := by
 obtain ⟨⟨p, c, h1, h2⟩, h3, h4, h5, h6, h7, h8⟩ := h
 refine ⟨⟨p, c, h1, h2.ext hu⟩, h3, fun i hi => ?_, h5, h6, h7, h8⟩
 obtain ⟨p, c, g1, g2, g3⟩ := h4 i hi
 exact ⟨p, c, g1, g2.ext hu, g3⟩
theorem dO.le {B C : Nat} {t : aD} (h : dO B t) (hBC : B <= C) : dO C t := ⟨Nat.le_trans h.n hBC, fun c hc => Nat.le_trans (h.each c hc) hBC⟩
theorem vf (t : aD) (wide high p : Int) : 0 <= (whereT t wide high p).row /\ 0 <= (whereT t wide high p).col /\ (whereT t wide high p).row + (whereT t wide high p).high <= 24 /\ (whereT t wide high p).col + (whereT t wide high p).wide <= 24 /\
  0 <= (whereT t wide high p).high /\ 0 <= (whereT t wide high p).wide := by
 rcases lT t wide high p with h | ⟨i, k, hf, hg, hw, hh, h⟩
 ·rw [h]; exact ⟨Int.le_refl _, Int.le_refl _, by show (0 : Int) + 0 <= _; omega, by show (0 : Int) + 0 <= _; omega, Int.le_refl _, Int.le_refl _⟩
 ·rw [h]
  simp only
  have a := dw wide t.length i
  have b := dw high (t.getD i []).length k
  have c := pT wide t.length i
  have d := pT high (t.getD i []).length k
  have e := fE hw
  have f := fE hh
  omega
theorem Bj (length n k : Int) : 0 <= (aw length n k).1 /\ 0 <= (aw length n k).2 /\ (aw length n k).1 + (aw length n k).2 <= 24 := by
 have a := dw length n k
 by_cases h : (aw length n k).2 = 0
 ·have := Ea h
  rw [this]
  exact ⟨Int.le_refl _, Int.le_refl _, by decide⟩
 ·have := fE h
  have := pT length n k
  omega
structure oI (u : World) (cs : List Cl) (b c n : Nat) (w : World) : Prop where
 own : ∃ l, CO w b c l /\ l.length = cs.length /\ ∀ i : Nat, i < n -> cg l i = cg cs i
 ext : Ext u w
 new : u.heap.size <= b
theorem oI.ext' {u : World} {cs : List Cl} {b c n : Nat} {w w' : World} (h : oI u cs b c n w) (hw : Ext w w') : oI u cs b c n w' := by
 obtain ⟨⟨l, h1, h2, h3⟩, h4, h5⟩ := h
 exact ⟨⟨l, h1.ext hw, h2, h3⟩, h4.ext hw, h5⟩
theorem oI.put {u : World} {cs : List Cl} {b c n : Nat} {w : World} (h : oI u cs b c n w) (hn : n < cs.length) {o : Nat} (ho : o = n * 4) (k : Cl) : Wr w b o 4 /\ oI u cs b c n (ae w b o (clV k)) := by
 obtain ⟨⟨l, h1, h2, h3⟩, h4, h5⟩ := h
 refine ⟨h1.wr (by omega), ⟨l.set n k, h1.set k (by omega) ho, by rw [List.length_set]; exact h2, fun i hi => ?_⟩, h4.put (fun hlt => by omega) _ _, h5⟩
 rw [nH (by omega), if_neg (by omega)]
 exact h3 i hi
theorem oI.store {u : World} {cs : List Cl} {b c n : Nat} {w : World} (h : oI u cs b c n w) (hn : n < cs.length) {o : Nat} (ho : o = n * 4) {k : Cl} (hk : k = cg cs n) : Wr w b o 4 /\ oI u cs b c (n + 1) (ae w b o (clV k)) := by
 obtain ⟨⟨l, h1, h2, h3⟩, h4, h5⟩ := h
 refine ⟨h1.wr (by omega), ⟨l.set n k, h1.set k (by omega) ho, by rw [List.length_set]; exact h2, fun i hi => ?_⟩, h4.put (fun hlt => by omega) _ _, h5⟩
 rw [nH (by omega)]
 split
 ·next e => rw [e, hk]
 ·exact h3 i (by omega)
theorem oI.done {u : World} {cs : List Cl} {b c n : Nat} {w : World} (h : oI u cs b c n w) (hn : n = cs.length) : CO w b c cs := by
 obtain ⟨⟨l, h1, h2, h3⟩, h4, h5⟩ := h
 have : l = cs := gP h2 fun i hi => h3 i (by omega)
 rwa [this] at h1
theorem ER (v : Vw) {w h r c : Nat} (hc : c < w) (hr : r < h) : cg (df v w h) (r * w + c) = if r + 1 = h then nh v.aj v.focus (c : Nat) else cellV v (r : Nat) (c : Nat) := by
 unfold df
 rw [rM (by rw [Nat.mul_comm w h]; exact ph hc hr), tL hc, wv hc]
theorem G5 {t : aD} {x y : Nat} (hx : x < t.length) (hy : y < (t.getD x []).length) : t.flatten.getD ((t.take x).flatten.length + y) 0 = (t.getD x []).getD y 0 /\ (t.take x).flatten.length + y < t.flatten.length := by
 have h : t.flatten = (t.take x).flatten ++ (t.getD x [] ++ (t.drop (x + 1)).flatten) := by
  conv => lhs; rw [<- List.take_append_drop x t, List.drop_eq_getElem_cons hx]
  rw [List.flatten_append, List.flatten_cons, List.getD_eq_getElem?_getD, List.getElem?_eq_getElem hx]
  rfl
 rw [h]
 refine ⟨?_, by simp only [List.length_append]; omega⟩
 rw [List.getD_eq_getElem?_getD, List.getElem?_append_right (by omega), List.getElem?_append_left (by omega), Nat.add_sub_cancel_left, <- List.getD_eq_getElem?_getD]
section
variable {u u' : World} {gb : Nat} {g : Gr} {b c : Nat}
theorem GB.bK (h : GB u gb g b c) (hu : Ext u u') : Rd u' gb (0 + 0) [.int .i64 g.wide] := (h.ext hu).blk.dL (n := 1) rfl
theorem GB.rG (h : GB u gb g b c) (hu : Ext u u') : Rd u' gb (0 + 1) [.int .i64 g.high] := (h.ext hu).blk.dL (n := 1) rfl
theorem GB.iZ (h : GB u gb g b c) (hu : Ext u u') : Rd u' gb (0 + 2) [.slice (some ⟨b, 0, none⟩) g.cells.length c] := (h.ext hu).blk.dL (n := 1) rfl
theorem GB.fV (h : GB u gb g b c) (hu : Ext u u') : Rd u' gb (0 + 3) [.int .i64 g.row] := (h.ext hu).blk.dL (n := 1) rfl
theorem GB.jN (h : GB u gb g b c) (hu : Ext u u') : Rd u' gb (0 + 4) [.int .i64 g.col] := (h.ext hu).blk.dL (n := 1) rfl
theorem GB.EB (h : GB u gb g b c) (hu : Ext u u') : Rd u' gb (0 + 5) [.int .i64 g.ink] := (h.ext hu).blk.dL (n := 1) rfl
theorem GB.Bd (h : GB u gb g b c) (hu : Ext u u') : Rd u' gb (0 + 6) [.bool g.bold] := (h.ext hu).blk.dL (n := 1) rfl
theorem GB.HI (h : GB u gb g b c) (hu : Ext u u') : Rd u' gb (0 + 7) [.int .i64 g.top] := (h.ext hu).blk.dL (n := 1) rfl
theorem GB.pg (h : GB u gb g b c) (hu : Ext u u') : Rd u' gb (0 + 8) [.int .i64 g.aA] := (h.ext hu).blk.dL (n := 1) rfl
theorem GB.EA (h : GB u gb g b c) (hu : Ext u u') : Rd u' gb 0 (grV g (some ⟨b, 0, none⟩) g.cells.length c) := (h.ext hu).blk.dL (n := 9) rfl
end
theorem j9 (b o k : Nat) : Option.map (fun a => Addr.add a k) (some ⟨b, o, none⟩) = some ⟨b, o + k, none⟩ := by
 show some (Addr.add ⟨b, o, none⟩ k) = _
 rw [gG]
theorem GB.back {u u' : World} {gb : Nat} {g : Gr} {b c : Nat} {l : List Cl} (h : GB u gb g b c) (hu : Upd (· = b) u u') (ho : CO u' b c l) (hl : l.length = g.cells.length) : GB u' gb { g with cells := l } b c := by
 refine ⟨?_, ho, h.ne⟩
 show Blk _ gb (grV g _ l.length c)
 rw [hl]
 exact h.blk.upd hu h.ne.symm
theorem aB {g : Gr} (hg : ao g) {r : Int} (h0 : 0 <= r) (h1 : r <= g.high) : 0 <= r * g.wide /\ r * g.wide <= (g.cells.length : Int) /\ r * g.wide <= 240 /\ (r * g.wide).toNat = r.toNat * g.wide.toNat := by
 have w1 := hg.w1
 have w2 := hg.w2
 have h2 := hg.h2
 have a : 0 <= r * g.wide := Int.mul_nonneg h0 (by omega)
 have b : r * g.wide <= g.high * g.wide := Int.mul_le_mul_of_nonneg_right h1 (by omega)
 have e : g.high * g.wide <= 10 * g.wide := Int.mul_le_mul_of_nonneg_right h2 (by omega)
 have l := hg.len
 rw [Int.mul_comm] at l
 refine ⟨a, by omega, by omega, ?_⟩
 obtain ⟨w, hw⟩ : ∃ w : Nat, g.wide = w := ⟨g.wide.toNat, by omega⟩
 obtain ⟨q, hq⟩ : ∃ q : Nat, r = q := ⟨r.toNat, by omega⟩
 rw [hw, hq]
 simp only [Int.toNat_natCast]
 rw [show (q : Int) * w = ((q * w : Nat) : Int) by simp, Int.toNat_natCast]
theorem aK {g : Gr} (hg : ao g) : g.cells.length <= 240 := by
 have := aB hg (r := g.high) (by have := hg.h1; omega) (Int.le_refl _)
 have l := hg.len
 rw [Int.mul_comm] at l
 omega
theorem bQ (r w : Int) : (r + 1) * w = r * w + w := by rw [Int.add_mul, Int.one_mul]
theorem zo (r w : Int) : (r - 1) * w = r * w - w := by rw [Int.sub_mul, Int.one_mul]
theorem tW {u : World} {gb : Nat} {g : Gr} {b c : Nat} (h : GB u gb g b c) (hg : ao g) {r : Int} (h0 : 0 <= r) (h1 : r < g.high) :
  Spec Tryz.prog lL #[.pointer (some ⟨gb, 0, none⟩), .int .i64 r] u fun e u' => ∃ c', e = .returned (.slice (some ⟨b, 0 + (r * g.wide).toNat * 4, none⟩) g.wide.toNat c') /\ Ext u u' := by
 apply my
 delta oW cnd iI lq
 have hu : Ext u (af u) := (Upd.refl u).drew
 have f0 := aB hg h0 (by omega)
 have f1 := aB hg (r := r + 1) (by omega) (by omega)
 have w1 := hg.w1
 have hc := h.own.le
 have hfew := aK hg
 have e := bQ r g.wide
 rw [e] at f1
 refine ⟨_, _, _, rfl, h.iZ hu, _, rfl, h.bK hu, by simp only [inK]; omega, by have := hg.h2; simp only [inK]; omega, _, rfl, h.bK hu, ?_⟩
 rw [e]
 refine ⟨by simp only [inK]; omega, f0.1, by omega, by omega, c - (r * g.wide).toNat, ?_, hu⟩
 rw [if_neg (by omega), show (r * g.wide + g.wide).toNat - (r * g.wide).toNat = g.wide.toNat by omega, j9]
theorem AI {u : World} {b c : Nat} {l : List Cl} (h : CO u b c l) (hl : l.length <= 100000000) {i n cc : Nat} (hn : i + n <= l.length) :
  Spec Tryz.prog ks #[.slice (some ⟨b, 0 + i * 4, none⟩) n cc] u fun e u' => e = .returned (.tuple #[]) /\ CO u' b c (cY i (i + n) l) /\ Upd (· = b) u u' := by
 apply sX
 delta so cnd iI lq
 refine ⟨fun x u1 => ∃ l', CO u1 b c l' /\ l'.length = l.length /\ (∀ j, j < l.length -> cg l' j = if i <= j /\ j < i + x.toNat then .z else cg l j) /\ Upd (· = b) u u1 /\ 0 <= x /\ x <= n, fun x _ => (n - x).toNat,
  ⟨l, h, rfl, fun j _ => by rw [if_neg (by omega)], Upd.refl _, by omega, by omega⟩, fun x u1 ⟨l', h1, h2, h3, h4, h5, h6⟩ => ⟨fun hx => ?_, fun hx => ?_⟩⟩
 ·have hx' : x < n := by simpa using hx
  have hi : i + x.toNat < l'.length := by omega
  have hp := h1.set .z hi (o := 0 + i * 4 + x.toNat * 4) (by omega)
  refine ⟨b, _, rfl, h5, hx', rfl, h1.wr (by omega), by simp only [inK]; omega, ⟨_, hp, by rw [List.length_set, h2], fun j hj => ?_, h4.trans (aI _ _ _) fun _ _ h => h, by omega, by omega⟩, by dsimp only; omega⟩
  rw [nH hi, h3 j hj]
  by_cases e : j = i + x.toNat
  ·rw [if_pos e, if_pos (by omega)]
  ·rw [if_neg e]
   congr 1
   apply propext
   omega
 ·have hx' : ¬ x < n := by simpa using hx
  refine ⟨rfl, ?_, h4⟩
  have : l' = cY i (i + n) l := by
   refine gP (by rw [h2, bO]) fun j hj => ?_
   rw [h3 j (by omega), jf (by omega), show x.toNat = n by omega]
  rw [<- this]
  exact h1
theorem CO.cut {u : World} {b c : Nat} {l : List Cl} (h : CO u b c l) {i k : Nat} (hik : i + k <= l.length) : Gets u (if c = i then some ⟨b, 0, none⟩ else Option.map (fun a => Addr.add a (i * 4)) (some ⟨b, 0, none⟩)) (aE ((l.drop i).take k)) := by
 have hl := h.le
 split
 ·next e =>
  have hk : k = 0 := by omega
  subst hk
  simp only [List.take_zero]
  exact sP u _
 ·rw [j9]; exact (h.cells.sub hik).aH
theorem F5 {w fr to : Nat} (hw : 0 < w) (h : fr < to) {l : List Cl} (hl : to * w <= l.length) :
  cY ((to - 1) * w) ((to - 1) * w + w) (fH l (fr * w) ((l.drop ((fr + 1) * w)).take (to * w - (fr + 1) * w))) = lR w fr to 1 l := by
 have e1 : (fr + 1) * w = fr * w + w := by rw [Nat.add_mul, Nat.one_mul]
 have e2 : (to - 1) * w + w = to * w := by rw [Nat.sub_mul, Nat.one_mul]; have := Nat.mul_le_mul_right w (show 1 <= to by omega); omega
 have e3 : fr * w + w <= to * w := by rw [<- e1]; exact Nat.mul_le_mul_right w h
 have hm : ((l.drop ((fr + 1) * w)).take (to * w - (fr + 1) * w)).length = to * w - (fr + 1) * w := by rw [List.length_take, List.length_drop]; omega
 have hov : fr * w + ((l.drop ((fr + 1) * w)).take (to * w - (fr + 1) * w)).length <= l.length := by rw [hm]; omega
 refine gP (by rw [bO, cP, cw hov]) fun j hj => ?_
 rw [bO, cw hov] at hj
 rw [jf (by rw [cw hov]; exact hj), ja hj, mo hov, hm, e2]
 have d1 : j / w < fr ↔ j < fr * w := BB hw
 have d2 : to <= j / w ↔ to * w <= j := Gv hw
 have d3 : j / w < to - 1 ↔ j < (to - 1) * w := BB hw
 rw [e1]
 by_cases c1 : (to - 1) * w <= j /\ j < to * w
 ·rw [if_pos c1, if_neg (by omega), if_neg (by omega)]
 ·rw [if_neg c1]
  by_cases c2 : fr * w <= j /\ j < fr * w + (to * w - (fr * w + w))
  ·rw [if_pos c2, if_neg (by omega), if_pos (by omega), tu (by omega), tQ]
   congr 1
   omega
  ·rw [if_neg c2, if_pos (by omega)]
theorem Dz {w fr to : Nat} (hw : 0 < w) (h : fr < to) {l : List Cl} (hl : to * w <= l.length) :
  cY (fr * w) (fr * w + w) (fH l ((fr + 1) * w) ((l.drop (fr * w)).take ((to - 1) * w - fr * w))) = lR w fr to (-1) l := by
 have e1 : (fr + 1) * w = fr * w + w := by rw [Nat.add_mul, Nat.one_mul]
 have e2 : (to - 1) * w + w = to * w := by rw [Nat.sub_mul, Nat.one_mul]; have := Nat.mul_le_mul_right w (show 1 <= to by omega); omega
 have e3 : fr * w + w <= to * w := by rw [<- e1]; exact Nat.mul_le_mul_right w h
 have hm : ((l.drop (fr * w)).take ((to - 1) * w - fr * w)).length = (to - 1) * w - fr * w := by rw [List.length_take, List.length_drop]; omega
 have hov : (fr + 1) * w + ((l.drop (fr * w)).take ((to - 1) * w - fr * w)).length <= l.length := by rw [hm]; omega
 refine gP (by rw [bO, cP, cw hov]) fun j hj => ?_
 rw [bO, cw hov] at hj
 rw [jf (by rw [cw hov]; exact hj), ja hj, mo hov, hm, e1]
 have d1 : j / w < fr ↔ j < fr * w := BB hw
 have d2 : to <= j / w ↔ to * w <= j := Gv hw
 have d3 : j / w < fr + 1 ↔ j < (fr + 1) * w := BB hw
 rw [e1] at d3
 by_cases c1 : fr * w <= j /\ j < fr * w + w
 ·rw [if_pos c1, if_neg (by omega), if_neg (by omega)]
 ·rw [if_neg c1]
  by_cases c2 : fr * w + w <= j /\ j < fr * w + w + ((to - 1) * w - fr * w)
  ·rw [if_pos c2, if_neg (by omega), if_pos (by omega), tu (by omega), tQ]
   congr 1
   omega
  ·rw [if_neg c2, if_pos (by omega)]
theorem HK {u : World} {gb : Nat} {g : Gr} {b c : Nat} (h : GB u gb g b c) (hg : ao g) {fr to : Int} (h0 : 0 <= fr) (h1 : fr < to) (h2 : to <= g.high) :
  Spec Tryz.prog wO #[.pointer (some ⟨gb, 0, none⟩), .int .i64 fr, .int .i64 to] u fun e u' => e = .returned (.tuple #[]) /\ GB u' gb (dc g fr to 1) b c /\ Upd (· = b) u u' := by
 apply vR
 delta yc cnd iI lq
 have hu : Ext u (af u) := (Upd.refl u).drew
 have hd := h.ext hu
 have w1 := hg.w1
 have hh2 := hg.h2
 have f0 := aB hg h0 (by omega)
 have f1 := aB hg (r := fr + 1) (by omega) (by omega)
 have f2 := aB hg (r := to) (by omega) h2
 have f3 := aB hg (r := to - 1) (by omega) (by omega)
 have hc := h.own.le
 have hfew := aK hg
 have e1 := bQ fr g.wide
 have e3 := zo to g.wide
 have hle : fr * g.wide + g.wide <= to * g.wide := by
  rw [<- e1]; exact Int.mul_le_mul_of_nonneg_right (by omega) (by omega)
 have hm : min ((to * g.wide).toNat - ((fr + 1) * g.wide).toNat) (((g.cells.length : Nat) : Int).toNat - (fr * g.wide).toNat) = to.toNat * g.wide.toNat - (fr.toNat + 1) * g.wide.toNat := by
  rw [e1] at f1 ⊢
  have : (fr + 1).toNat = fr.toNat + 1 := by omega
  rw [this] at f1
  rw [<- f1.2.2.2, <- f2.2.2.2]
  omega
 have hn : (fr.toNat + 1) * g.wide.toNat = ((fr + 1) * g.wide).toNat := by rw [f1.2.2.2]; congr 1; omega
 have hcut := hd.own.cut (i := ((fr + 1) * g.wide).toNat) (k := to.toNat * g.wide.toNat - (fr.toNat + 1) * g.wide.toNat) (by rw [hn, <- f2.2.2.2]; omega)
 have hlen : ((g.cells.drop ((fr + 1) * g.wide).toNat).take (to.toNat * g.wide.toNat - (fr.toNat + 1) * g.wide.toNat)).length = to.toNat * g.wide.toNat - (fr.toNat + 1) * g.wide.toNat := by
  rw [List.length_take, List.length_drop, hn, <- f2.2.2.2]; omega
 refine ⟨_, _, _, rfl, h.iZ hu, _, rfl, h.bK hu, by simp only [inK]; omega, f0.1, by omega, by omega, _, _, _, rfl, h.iZ hu, by simp only [inK]; omega, _, rfl, h.bK hu, by simp only [inK]; omega, _, rfl, h.bK hu, by simp only [inK]; omega, f1.1, by omega, by omega,
  aE ((g.cells.drop ((fr + 1) * g.wide).toNat).take (to.toNat * g.wide.toNat - (fr.toNat + 1) * g.wide.toNat)), by rw [bq, hlen, hm], hcut, (fQ _ _).2 trivial, ?_, by simp only [inK]; omega, ?_⟩
 ·rw [if_neg (by omega), hm, j9]
  refine ⟨fun _ => rfl, hd.own.wr ?_⟩
  show 0 + (fr * g.wide).toNat * 4 + 0 + _ <= _
  rw [hn, <- f2.2.2.2]
  omega
 ·rw [if_neg (by omega), j9]
  have hp := hd.cells (i := (fr * g.wide).toNat) (m := (g.cells.drop ((fr + 1) * g.wide).toNat).take (to.toNat * g.wide.toNat - (fr.toNat + 1) * g.wide.toNat)) (o := 0 + (fr * g.wide).toNat * 4 + 0) (by rw [hlen, hn, <- f2.2.2.2]; omega) (by omega)
  have hup := aI (u := af u) b (0 + (fr * g.wide).toNat * 4 + 0) (aE ((g.cells.drop ((fr + 1) * g.wide).toNat).take (to.toNat * g.wide.toNat - (fr.toNat + 1) * g.wide.toNat)))
  have hl2 : (fH g.cells (fr * g.wide).toNat ((g.cells.drop ((fr + 1) * g.wide).toNat).take (to.toNat * g.wide.toNat - (fr.toNat + 1) * g.wide.toNat))).length = g.cells.length := cw (by rw [hlen, hn, <- f2.2.2.2]; omega)
  have hg2 : ao { g with cells := fH g.cells (fr * g.wide).toNat ((g.cells.drop ((fr + 1) * g.wide).toNat).take (to.toNat * g.wide.toNat - (fr.toNat + 1) * g.wide.toNat)) } := hg.fP hl2 fun x hx => by
   obtain ⟨j, hj, rfl⟩ := uo hx
   rw [mo (by rw [hlen, hn, <- f2.2.2.2]; omega)]
   split
   ·rcases Nat.lt_or_ge (j - (fr * g.wide).toNat) ((g.cells.drop ((fr + 1) * g.wide).toNat).take (to.toNat * g.wide.toNat - (fr.toNat + 1) * g.wide.toNat)).length with hh | hh
    ·exact hg.all _ (List.mem_of_mem_drop (List.mem_of_mem_take (xT hh)))
    ·rw [yh hh]; rfl
   ·exact cN.cg hg.all _
  refine (tW hp hg2 (r := to - 1) (by omega) (by show to - 1 < g.high; omega)).mono fun e u1 ⟨c', he, hu1⟩ => ⟨_, _, _, he, ?_⟩
  have hp1 := hp.ext hu1
  refine (AI hp1.own (by rw [hl2]; omega) (i := ((to - 1) * g.wide).toNat) (n := g.wide.toNat) (by rw [hl2]; omega)).mono fun e u2 ⟨he, ho, hu2⟩ => ⟨he, rfl, ?_, (((hu.any (S := (· = b))).trans hup fun _ _ h => h).ext hu1).trans hu2 fun _ _ h => h⟩
  have hb := hp1.back hu2 ho (by rw [bO])
  have hcells := F5 (w := g.wide.toNat) (fr := fr.toNat) (to := to.toNat) (l := g.cells) (by omega) (by omega) (by rw [<- f2.2.2.2]; omega)
  have heq : dc g fr to 1 = { g with cells := cY ((to - 1) * g.wide).toNat (((to - 1) * g.wide).toNat + g.wide.toNat) (fH g.cells (fr * g.wide).toNat ((g.cells.drop ((fr + 1) * g.wide).toNat).take (to.toNat * g.wide.toNat - (fr.toNat + 1) * g.wide.toNat))) } := by
   unfold dc
   rw [<- hcells, f3.2.2.2, f0.2.2.2, hn, show (to - 1).toNat = to.toNat - 1 by omega]
  rw [heq]
  exact hb
theorem Hj {u : World} {gb : Nat} {g : Gr} {b c : Nat} (h : GB u gb g b c) (hg : ao g) {fr to : Int} (h0 : 0 <= fr) (h1 : fr < to) (h2 : to <= g.high) :
  Spec Tryz.prog tO #[.pointer (some ⟨gb, 0, none⟩), .int .i64 fr, .int .i64 to] u fun e u' => e = .returned (.tuple #[]) /\ GB u' gb (dc g fr to (-1)) b c /\ Upd (· = b) u u' := by
 apply tx
 delta sN cnd iI lq
 have hu : Ext u (af u) := (Upd.refl u).drew
 have hd := h.ext hu
 have w1 := hg.w1
 have hh2 := hg.h2
 have f0 := aB hg h0 (by omega)
 have f1 := aB hg (r := fr + 1) (by omega) (by omega)
 have f2 := aB hg (r := to) (by omega) h2
 have f3 := aB hg (r := to - 1) (by omega) (by omega)
 have hc := h.own.le
 have hfew := aK hg
 have e1 := bQ fr g.wide
 have e3 := zo to g.wide
 have hle : fr * g.wide + g.wide <= to * g.wide := by
  rw [<- e1]; exact Int.mul_le_mul_of_nonneg_right (by omega) (by omega)
 have hn1 : (fr.toNat + 1) * g.wide.toNat = ((fr + 1) * g.wide).toNat := by rw [f1.2.2.2]; congr 1; omega
 have hn3 : (to.toNat - 1) * g.wide.toNat = ((to - 1) * g.wide).toNat := by rw [f3.2.2.2]; congr 1; omega
 have hm : min (((to - 1) * g.wide).toNat - (fr * g.wide).toNat) ((to * g.wide).toNat - ((fr + 1) * g.wide).toNat) = ((to - 1) * g.wide).toNat - (fr * g.wide).toNat := by omega
 have hik : (fr * g.wide).toNat + (((to - 1) * g.wide).toNat - (fr * g.wide).toNat) <= g.cells.length := by omega
 have hcut := hd.own.cut hik
 have hlen : ((g.cells.drop (fr * g.wide).toNat).take (((to - 1) * g.wide).toNat - (fr * g.wide).toNat)).length = ((to - 1) * g.wide).toNat - (fr * g.wide).toNat := by
  rw [List.length_take, List.length_drop]; omega
 have hov : ((fr + 1) * g.wide).toNat + ((g.cells.drop (fr * g.wide).toNat).take (((to - 1) * g.wide).toNat - (fr * g.wide).toNat)).length <= g.cells.length := by rw [hlen]; omega
 have hl2 := cw hov
 have hg2 : ao { g with cells := fH g.cells ((fr + 1) * g.wide).toNat ((g.cells.drop (fr * g.wide).toNat).take (((to - 1) * g.wide).toNat - (fr * g.wide).toNat)) } := hg.fP hl2 fun x hx => by
  obtain ⟨j, hj, rfl⟩ := uo hx
  rw [mo hov]
  split
  ·rcases Nat.lt_or_ge (j - ((fr + 1) * g.wide).toNat) ((g.cells.drop (fr * g.wide).toNat).take (((to - 1) * g.wide).toNat - (fr * g.wide).toNat)).length with hh | hh
   ·exact hg.all _ (List.mem_of_mem_drop (List.mem_of_mem_take (xT hh)))
   ·rw [yh hh]; rfl
  ·exact cN.cg hg.all _
 have rest : ∀ v : World, GB v gb { g with cells := fH g.cells ((fr + 1) * g.wide).toNat ((g.cells.drop (fr * g.wide).toNat).take (((to - 1) * g.wide).toNat - (fr * g.wide).toNat)) } b c -> Upd (· = b) u v ->
   Spec Tryz.prog lL #[.pointer (some ⟨gb, 0, none⟩), .int .i64 fr] v (fun e u1 => ∃ (x45_p : Option Addr) (x45_n x45_c : Nat), e = .returned (.slice x45_p x45_n x45_c) /\
   Spec Tryz.prog ks #[.slice x45_p x45_n x45_c] u1 (fun e u11 => e = .returned (.tuple #[]) /\ (Ending.returned (.tuple #[]) = .returned (.tuple #[]) /\ GB u11 gb (dc g fr to (-1)) b c /\ Upd (· = b) u u11))) := fun v hp hv => by
  refine (tW hp hg2 (r := fr) (by omega) (by show fr < g.high; omega)).mono fun e u1 ⟨c', he, hu1⟩ => ⟨_, _, _, he, ?_⟩
  have hp1 := hp.ext hu1
  refine (AI hp1.own (by rw [hl2]; omega) (i := (fr * g.wide).toNat) (n := g.wide.toNat) (by rw [hl2]; omega)).mono fun e u2 ⟨he, ho, hu2⟩ => ⟨he, rfl, ?_, (hv.ext hu1).trans hu2 fun _ _ h => h⟩
  have hb := hp1.back hu2 ho (by rw [bO])
  have hcells := Dz (w := g.wide.toNat) (fr := fr.toNat) (to := to.toNat) (l := g.cells) (by omega) (by omega) (by rw [<- f2.2.2.2]; omega)
  have heq : dc g fr to (-1) = { g with cells := cY (fr * g.wide).toNat ((fr * g.wide).toNat + g.wide.toNat) (fH g.cells ((fr + 1) * g.wide).toNat ((g.cells.drop (fr * g.wide).toNat).take (((to - 1) * g.wide).toNat - (fr * g.wide).toNat))) } := by
   unfold dc
   rw [<- hcells, <- hn1, <- hn3, f0.2.2.2]
  rw [heq]
  exact hb
 refine ⟨_, _, _, rfl, h.iZ hu, by simp only [inK]; omega, _, rfl, h.bK hu, by simp only [inK]; omega, _, rfl, h.bK hu, by simp only [inK]; omega, f1.1, by omega, by omega, _, _, _, rfl, h.iZ hu, _, rfl, h.bK hu, by simp only [inK]; omega, by simp only [inK]; omega, _, rfl, h.bK hu, by simp only [inK]; omega, f0.1, by omega, by omega,
  aE ((g.cells.drop (fr * g.wide).toNat).take (((to - 1) * g.wide).toNat - (fr * g.wide).toNat)), by rw [bq, hlen, hm], hcut, (fQ _ _).2 trivial, ?_, ?_⟩
 ·rw [hm]
  split
  ·next e =>
   have : ((to - 1) * g.wide).toNat - (fr * g.wide).toNat = 0 := by omega
   rw [this]
   exact ⟨fun h => absurd rfl h, fun j hj => by omega⟩
  ·rw [j9]
   refine ⟨fun _ => rfl, hd.own.wr ?_⟩
   show 0 + ((fr + 1) * g.wide).toNat * 4 + 0 + _ <= _
   omega
 ·split
  ·next e =>
   have hz : ((to - 1) * g.wide).toNat - (fr * g.wide).toNat = 0 := by omega
   refine rest _ ?_ ?_
   ·rw [hz, List.take_zero]
    show GB (af u) gb _ b c
    have : fH g.cells ((fr + 1) * g.wide).toNat [] = g.cells := by simp [fH]
    rw [this]
    exact hd
   ·rw [hz, List.take_zero]
    exact hu.any
  ·rw [j9]
   exact rest _ (hd.cells (o := 0 + ((fr + 1) * g.wide).toNat * 4 + 0) hov (by omega)) ((hu.any (S := (· = b))).trans (aI _ _ _) fun _ _ h => h)
def UB (gb b : Nat) (k : Nat) : Prop := k = gb \/ k = b
theorem UB.cells {gb b : Nat} {u u' : World} (h : Upd (· = b) u u') : Upd (UB gb b) u u' := h.mono fun _ _ h => .inr h
theorem UB.self {gb b : Nat} {u u' : World} (h : Upd (· = gb) u u') : Upd (UB gb b) u u' := h.mono fun _ _ h => .inl h
theorem UB.trans {gb b : Nat} {u v w : World} (h : Upd (UB gb b) u v) (k : Upd (UB gb b) v w) : Upd (UB gb b) u w := Upd.trans h k fun _ _ h => h
theorem UB.dy {gb b : Nat} {u v : World} (h : Upd (UB gb b) u v) (o : Nat) (ys : List Value) : Upd (UB gb b) u (ae v gb o ys) := h.trans (UB.self (aI gb o ys)) fun _ _ h => h
theorem UB.Hf {gb b : Nat} {u v : World} (h : Upd (UB gb b) u v) (o : Nat) (ys : List Value) : Upd (UB gb b) u (ae v b o ys) := h.trans (UB.cells (aI b o ys)) fun _ _ h => h
structure qJ (u : World) (gb b c : Nat) (g : Gr) (e : Ending) (u' : World) : Prop where
 e : e = .returned (.tuple #[])
 scr : GB u' gb g b c
 upd : Upd (UB gb b) u u'
theorem BW {u : World} {gb : Nat} {g : Gr} {b c : Nat} (h : GB u gb g b c) (hg : ao g) :
  Spec Tryz.prog sf #[.pointer (some ⟨gb, 0, none⟩)] u (qJ u gb b c (ba g)) := by
 apply tt
 delta sT cnd iI lq
 simp only [decide_eq_true_eq, decide_eq_false_iff_not]
 have hu : Ext u (af u) := (Upd.refl u).drew
 have hu2 : Ext u (af (af u)) := hu.drew
 have h2 := h.ext hu2
 have := hg.b2
 have := hg.h2
 have := hg.t1
 have := hg.t2
 have := hg.r1
 have := hg.r2
 refine ⟨_, rfl, h.fV hu, _, rfl, h.pg hu, by simp only [inK]; omega, fun hx => ⟨_, rfl, h.HI hu2, _, rfl, h.pg hu2, ?_⟩, fun hx => ⟨_, rfl, h.fV hu2, _, rfl, h.rG hu2, by simp only [inK]; omega, fun hy => ⟨_, rfl, h.fV hu2, by simp only [inK]; omega, rfl, h2.wr (by omega), rfl, ?_, ?_⟩, fun hy => ⟨rfl, ?_, hu2.any⟩⟩⟩
 ·refine (HK h2 hg hg.t1 hg.t2 hg.b2).mono fun e u1 ⟨he, hb, hu1⟩ => ⟨he, rfl, ?_, hu2.any.trans (UB.cells hu1) fun _ _ h => h⟩
  unfold ba
  rw [if_pos hx]
  exact hb
 ·unfold ba
  rw [if_neg hx, if_pos hy]
  exact h2.put (g' := { g with row := g.row + 1 }) rfl rfl
 ·exact UB.dy hu2.any _ _
 ·unfold ba
  rw [if_neg hx, if_neg hy]
  exact h2
theorem FH {u : World} {gb : Nat} {g : Gr} {b c : Nat} (h : GB u gb g b c) (hg : ao g) {ch : Int} :
  Spec Tryz.prog tP #[.pointer (some ⟨gb, 0, none⟩), .int .i64 ch] u (qJ u gb b c (jR g ch)) := by
 apply sq
 delta r6 Bi cnd iI lq
 simp only [decide_eq_true_eq, decide_eq_false_iff_not]
 have hu : Ext u (af u) := (Upd.refl u).drew
 have hd := h.ext hu
 have hw1 := hg.w1
 have hc2 := hg.c2
 refine ⟨_, rfl, h.jN hu, _, rfl, h.bK hu, fun hx => ⟨rfl, hd.wr (by omega), ?_⟩, fun hx => ?_⟩
 ·have hp := hd.put (g' := { g with col := 0 }) (o := 0 + 4) (ys := [.int .i64 0]) rfl rfl
  have hg0 := hg.col (c := 0) (by omega)
  refine (BW hp hg0).mono fun e u1 ⟨he, X, hu1⟩ => ⟨he, ?_⟩
  have f := mZ hg0
  simp only at f
  have hv : Upd (UB gb b) u u1 := UB.trans (UB.dy hu.any _ _) hu1
  have heq : jR g ch = { ba { g with col := 0 } with cells := (ba { g with col := 0 }).cells.set ((ba { g with col := 0 }).row * (ba { g with col := 0 }).wide + (ba { g with col := 0 }).col).toNat ⟨ch, (ba { g with col := 0 }).ink, 0, (ba { g with col := 0 }).bold⟩, col := (ba { g with col := 0 }).col + 1 } := by
   unfold jR
   rw [if_pos hx]
  have hcw : (ba { g with col := 0 }).col < (ba { g with col := 0 }).wide := by rw [f.2.2.2.1, f.2.1]; omega
  rw [heq]
  have Xg := f.1
  generalize ba { g with col := 0 } = x at X Xg hcw
  clear f heq hp
  have hd : Ext u1 (af u1) := (Upd.refl u1).drew
  have r1 := aB Xg Xg.r1 (by have := Xg.r2; omega)
  have r2 := aB Xg (r := x.row + 1) (by have := Xg.r1; omega) (by have := Xg.r2; omega)
  rw [bQ] at r2
  have xc := Xg.c1
  have xw := Xg.w2
  refine ⟨_, rfl, X.fV hd, _, rfl, X.jN hd, _, rfl, X.EB hd, _, rfl, X.Bd hd, ?_⟩
  refine (tW (X.ext hd) Xg Xg.r1 Xg.r2).mono fun e u2 ⟨c', he, hu2⟩ => ⟨_, _, _, he, X.Bd (hd.ext hu2), X.EB (hd.ext hu2), X.jN (hd.ext hu2), b, _, rfl, xc, by omega, rfl, ?_, ?_⟩
  ·exact (X.ext (hd.ext hu2)).own.wr (by omega)
  ·have Y := (X.ext (hd.ext hu2)).cell ⟨ch, x.ink, 0, x.bold⟩ (i := (x.row * x.wide + x.col).toNat) (o := 0 + (x.row * x.wide).toNat * 4 + x.col.toNat * 4) (by omega) (by omega)
   have hY : Upd (UB gb b) u _ := UB.Hf (UB.trans hv (hd.ext hu2).any) (0 + (x.row * x.wide).toNat * 4 + x.col.toNat * 4) (clV ⟨ch, x.ink, 0, x.bold⟩)
   exact ⟨_, rfl, Y.jN (Upd.refl _), by simp only [inK]; omega, rfl, Y.wr (by omega), rfl, Y.put (g' := { x with cells := x.cells.set (x.row * x.wide + x.col).toNat ⟨ch, x.ink, 0, x.bold⟩, col := x.col + 1 }) rfl rfl, UB.dy hY _ _⟩
 ·have heq : jR g ch = { g with cells := g.cells.set (g.row * g.wide + g.col).toNat ⟨ch, g.ink, 0, g.bold⟩, col := g.col + 1 } := by
   unfold jR
   rw [if_neg hx]
  rw [heq]
  have hcw : g.col < g.wide := by omega
  have hd : Ext u (af (af u)) := hu.drew
  have r1 := aB hg hg.r1 (by have := hg.r2; omega)
  have r2 := aB hg (r := g.row + 1) (by have := hg.r1; omega) (by have := hg.r2; omega)
  rw [bQ] at r2
  have xc := hg.c1
  have xw := hg.w2
  refine ⟨_, rfl, h.fV hd, _, rfl, h.jN hd, _, rfl, h.EB hd, _, rfl, h.Bd hd, ?_⟩
  refine (tW (h.ext hd) hg hg.r1 hg.r2).mono fun e u2 ⟨c', he, hu2⟩ => ⟨_, _, _, he, h.Bd (hd.ext hu2), h.EB (hd.ext hu2), h.jN (hd.ext hu2), b, _, rfl, xc, by omega, rfl, ?_, ?_⟩
  ·exact (h.ext (hd.ext hu2)).own.wr (by omega)
  ·have Y := (h.ext (hd.ext hu2)).cell ⟨ch, g.ink, 0, g.bold⟩ (i := (g.row * g.wide + g.col).toNat) (o := 0 + (g.row * g.wide).toNat * 4 + g.col.toNat * 4) (by omega) (by omega)
   have hY : Upd (UB gb b) u _ := UB.Hf ((hd.ext hu2).any) (0 + (g.row * g.wide).toNat * 4 + g.col.toNat * 4) (clV ⟨ch, g.ink, 0, g.bold⟩)
   exact ⟨_, rfl, Y.jN (Upd.refl _), by simp only [inK]; omega, rfl, Y.wr (by omega), rfl, Y.put (g' := { g with cells := g.cells.set (g.row * g.wide + g.col).toNat ⟨ch, g.ink, 0, g.bold⟩, col := g.col + 1 }) rfl rfl, UB.dy hY _ _⟩
theorem DC {u : World} {gb : Nat} {g : Gr} {b c : Nat} (h : GB u gb g b c) (hg : ao g) {ch : Int} :
  Spec Tryz.prog oB #[.pointer (some ⟨gb, 0, none⟩), .int .i64 ch] u (qJ u gb b c (bZ g ch)) := by
 apply pj
 delta oh we cnd iI lq
 simp only [decide_eq_true_eq, decide_eq_false_iff_not]
 have hu : Ext u (af u) := (Upd.refl u).drew
 have hd := h.ext hu
 have hw1 := hg.w1
 have hw2 := hg.w2
 have hc1 := hg.c1
 have hc2 := hg.c2
 unfold bZ
 refine ⟨fun h8 => ?_, fun h8 => ⟨fun h9 => ?_, fun h9 => ⟨fun h10 => ?_, fun h10 => ⟨fun h13 => ?_, fun h13 => ?_⟩⟩⟩⟩
 ·rw [if_pos h8]
  exact ⟨_, rfl, h.jN hu, _, rfl, h.bK hu, by simp only [inK]; omega, by simp only [inK]; omega, rfl, hd.wr (by omega), rfl, hd.put (g' := { g with col := max 0 (min g.col (g.wide - 1) - 1) }) rfl rfl, UB.dy hu.any _ _⟩
 ·rw [if_neg h8, if_pos h9]
  exact ⟨_, rfl, h.bK hu, by simp only [inK]; omega, _, rfl, h.jN hu, hc1, by omega, by simp only [inK]; omega, by simp only [inK]; omega, by simp only [inK]; omega, rfl, hd.wr (by omega), rfl, hd.put (g' := { g with col := min (g.wide - 1) (g.col / 8 * 8 + 8) }) rfl rfl, UB.dy hu.any _ _⟩
 ·rw [if_neg h8, if_neg h9, if_pos h10]
  exact (BW h hg).mono fun e u1 ⟨he, hb, hu1⟩ => ⟨he, rfl, hb, hu1⟩
 ·rw [if_neg h8, if_neg h9, if_neg h10, if_pos h13]
  exact ⟨rfl, h.wr (by omega), rfl, h.put (g' := { g with col := 0 }) rfl rfl, UB.dy (Upd.refl u) _ _⟩
 ·rw [if_neg h8, if_neg h9, if_neg h10, if_neg h13]
  exact ⟨rfl, h, Upd.refl u⟩
theorem mL {u : World} {p : Option Addr} {n c : Nat} {l : List Int} (h : bY u p n l) {k : Int} (hk : 0 <= k) (least : Int) :
  Spec Tryz.prog py #[.slice p n c, .int .i64 k, .int .i64 least] u fun e u' => e = .returned (.int .i64 (aQ l k.toNat least)) /\ Ext u u' := by
 apply qy
 delta pw cnd iI lq
 simp only [decide_eq_true_eq, decide_eq_false_iff_not]
 have hl := h.2
 refine ⟨fun hlt => ?_, fun hlt => ?_⟩
 ·obtain ⟨b, o, hp, hr⟩ := h.at (i := k.toNat) (by omega)
  exact ⟨b, o, hp, hk, hlt, _, rfl, hr, rfl, Upd.refl u⟩
 ·refine ⟨?_, Upd.refl u⟩
  unfold aQ
  rw [show l.getD k.toNat 0 = 0 by rw [List.getD_eq_getElem?_getD, List.getElem?_eq_none (by omega)]; rfl]
theorem HC {c b o k : Nat} (h : c ≠ k) : (if c = k then some (Addr.mk b o none) else Option.map (fun a => Addr.add a (k * 4)) (some ⟨b, o, none⟩)) = some ⟨b, o + k * 4, none⟩ := by rw [if_neg h, j9]
theorem BQ {u : World} {gb : Nat} {g : Gr} {b c : Nat} (h : GB u gb g b c) (hg : ao g) {how a fr to : Int} (h0 : 0 <= fr) (h1 : fr <= a) (h2 : a < to) (h3 : to <= (g.cells.length : Nat)) :
  Spec Tryz.prog qI #[.pointer (some ⟨gb, 0, none⟩), .int .i64 how, .int .i64 a, .int .i64 fr, .int .i64 to] u (qJ u gb b c (m8 g how a fr to)) := by
 apply rN
 delta rh AD cnd iI lq
 simp only [decide_eq_true_eq, decide_eq_false_iff_not]
 have hc := h.own.le
 have hfew := aK hg
 have wipe : ∀ i j : Int, 0 <= i -> i < j -> j <= (g.cells.length : Nat) -> Spec Tryz.prog ks #[.slice (if c = i.toNat then some (Addr.mk b 0 none) else Option.map (fun a => Addr.add a (i.toNat * 4)) (some ⟨b, 0, none⟩)) (j.toNat - i.toNat) (c - i.toNat)] u
   (fun e u' => e = .returned (.tuple #[]) /\ qJ u gb b c { g with cells := cY i.toNat j.toNat g.cells } (.returned (.tuple #[])) u') := fun i j hi hj hl => by
  rw [HC (by omega)]
  refine (AI h.own (by omega) (i := i.toNat) (n := j.toNat - i.toNat) (by omega)).mono fun e u1 ⟨he, ho, hu1⟩ => ⟨he, rfl, ?_, UB.cells hu1⟩
  rw [show i.toNat + (j.toNat - i.toNat) = j.toNat by omega] at ho
  exact h.back hu1 ho (bO _ _ _)
 unfold m8
 refine ⟨fun e0 => ⟨_, _, _, rfl, h.iZ (Upd.refl u), by omega, by omega, by omega, ?_⟩, fun e0 => ⟨fun e1 => ⟨_, _, _, rfl, h.iZ (Upd.refl u), by simp only [inK]; omega, h0, by omega, by omega, ?_⟩, fun e1 => ⟨fun e2 => ⟨_, _, _, rfl, h.iZ (Upd.refl u), h0, by omega, by omega, ?_⟩, fun e2 => ?_⟩⟩⟩
 ·rw [if_pos e0]
  exact wipe a to (by omega) h2 h3
 ·rw [if_neg e0, if_pos e1]
  exact wipe fr (a + 1) h0 (by omega) (by omega)
 ·rw [if_neg e0, if_neg e1, if_pos e2]
  exact wipe fr to h0 (by omega) h3
 ·rw [if_neg e0, if_neg e1, if_neg e2]
  exact ⟨rfl, h, Upd.refl u⟩
theorem He {u : World} {gb : Nat} {g : Gr} {b c : Nat} (h : GB u gb g b c) {n : Int} :
  Spec Tryz.prog vn #[.pointer (some ⟨gb, 0, none⟩), .int .i64 n] u (qJ u gb b c (cj g n)) := by
 apply uc
 delta vq wh wm cnd iI lq
 simp only [decide_eq_true_eq, decide_eq_false_iff_not]
 have r := Upd.refl (S := UB gb b) u
 unfold cj
 refine ⟨fun e0 => ?_, fun e0 => ⟨fun e1 => ?_, fun e1 => ⟨fun e2 => ?_, fun e2 => ⟨fun e3 => ⟨fun e4 => ?_, fun e4 => ⟨fun e5 => ?_, fun e5 => ?_⟩⟩, fun e3 => ⟨fun e5 => ?_, fun e5 => ?_⟩⟩⟩⟩⟩
 ·rw [if_pos e0]
  have hp := h.put (g' := { g with ink := 0 }) (o := 0 + 5) (ys := [.int .i64 0]) rfl rfl
  exact ⟨rfl, h.wr (by omega), rfl, hp.wr (by omega), rfl, hp.put (g' := { g with ink := 0, bold := false }) rfl rfl, UB.dy (UB.dy r _ _) _ _⟩
 ·rw [if_neg e0, if_pos e1]
  exact ⟨rfl, h.wr (by omega), rfl, h.put (g' := { g with bold := true }) rfl rfl, UB.dy r _ _⟩
 ·rw [if_neg e0, if_neg e1, if_pos e2]
  exact ⟨rfl, h.wr (by omega), rfl, h.put (g' := { g with bold := false }) rfl rfl, UB.dy r _ _⟩
 ·rw [if_neg e0, if_neg e1, if_neg e2, if_pos ⟨e3, e4⟩]
  exact ⟨by simp only [inK]; omega, rfl, h.wr (by omega), rfl, h.put (g' := { g with ink := n - 29 }) rfl rfl, UB.dy r _ _⟩
 ·rw [if_neg e0, if_neg e1, if_neg e2, if_neg (by omega), if_pos e5]
  exact ⟨rfl, h.wr (by omega), rfl, h.put (g' := { g with ink := 0 }) rfl rfl, UB.dy r _ _⟩
 ·rw [if_neg e0, if_neg e1, if_neg e2, if_neg (by omega), if_neg e5]
  exact ⟨rfl, h, r⟩
 ·rw [if_neg e0, if_neg e1, if_neg e2, if_neg (by omega), if_pos e5]
  exact ⟨rfl, h.wr (by omega), rfl, h.put (g' := { g with ink := 0 }) rfl rfl, UB.dy r _ _⟩
 ·rw [if_neg e0, if_neg e1, if_neg e2, if_neg (by omega), if_neg e5]
  exact ⟨rfl, h, r⟩
theorem uJ {c : Cl} : cG c = true ↔ (0 <= c.pic /\ c.pic <= 8 /\ 0 <= c.ink /\ c.ink <= 8) /\ ((c.pic = 0 /\ ((c.ch = 0 /\ c.ink = 0 /\ c.bold = false) \/ (32 <= c.ch /\ c.ch < 127))) \/ (c.pic ≠ 0 /\ c.ch = 0 /\ c.ink = 0 /\ c.bold = false)) := by
 unfold cG
 rw [Bool.and_eq_true, decide_eq_true_eq]
 by_cases h : c.pic = 0
 ·rw [if_pos h, decide_eq_true_eq]
  simp only [h, true_and, ne_eq, not_true, false_and, or_false]
 ·rw [if_neg h, decide_eq_true_eq]
  simp only [h, false_and, ne_eq, not_false_iff, true_and, false_or]
theorem BR (k : Cl) {u : World} : Spec Tryz.prog mR #[ClV k] u (Told u (cG k)) := by
 apply oS
 delta mT wa cnd iI lq
 have hu : Ext u (ab u hole) := (Upd.refl u).alloc _
 have leaf : ∀ x : Bool, (x = true ↔ cG k = true) -> Told u (cG k) (.returned (.bool x)) (ab u hole) := fun x h => ⟨by rw [Bool.eq_iff_iff.2 h], hu⟩
 simp only [uJ] at leaf
 obtain ⟨ch, ink, pic, bold⟩ := k
 simp only [decide_eq_true_eq, decide_eq_false_iff_not, Bool.not_eq_true', Bool.not_eq_false'] at leaf ⊢
 cases bold
 ·simp only [and_true, true_implies, Bool.false_eq_true, false_implies, Bool.true_eq_false, Bool.not_false, Bool.not_true] at leaf ⊢
  repeat' (refine And.intro (fun _ => ?_) (fun _ => ?_))
  all_goals first
   | exact leaf _ (by simp only [Bool.false_eq_true, decide_eq_true_eq, false_iff, true_iff]; omega)
   | skip
  all_goals (refine leaf _ ?_; simp only [Bool.false_eq_true, decide_eq_true_eq, false_iff, true_iff, iff_true, iff_false]; omega)
 ·simp only [and_false, true_implies, Bool.false_eq_true, false_implies, Bool.true_eq_false, Bool.not_false, Bool.not_true, false_or, or_false, true_and] at leaf ⊢
  repeat' (refine And.intro (fun _ => ?_) (fun _ => ?_))
  all_goals (refine leaf _ ?_; simp only [Bool.false_eq_true, decide_eq_true_eq, false_iff, true_iff, iff_true, iff_false]; omega)
theorem Dm (k : Cl) {u : World} : Spec Tryz.prog fx #[ClV k] u (Told u (!cG k)) := by
 apply pE
 delta ox cnd iI lq
 have hu : Ext u (ab u hole) := (Upd.refl u).alloc _
 exact (BR k).mono fun e u1 ⟨he, hu1⟩ => ⟨_, he, rfl, hu.ext hu1⟩
theorem zV {u : World} {p : Option Addr} {l : List Cl} (h : Cells u p l) (c : Nat) (hl : l.length <= 100000000000000) :
  Spec Tryz.prog cu #[.slice p l.length c, .func (.func fx) #[] #[]] u fun e u' => ∃ x : Int, e = .returned (.int .i64 x) /\ (0 <= x ↔ ¬ cN l) /\ Ext u u' := by
 apply dm
 delta cv cnd iI lq
 simp only [decide_eq_true_eq, decide_eq_false_iff_not]
 refine ⟨fun x u1 => Ext u u1 /\ 0 <= x /\ x <= l.length /\ ∀ i : Nat, i < x.toNat -> cG (cg l i) = true, fun x _ => (l.length - x).toNat, ⟨Upd.refl _, by omega, by omega, by omega⟩, fun x u1 ⟨hu, h0, h1, hi⟩ => ⟨fun hx => ?_, fun hx => ?_⟩⟩
 ·obtain ⟨b, o, hp, hr⟩ := (h.ext hu).at (i := x.toNat) (by omega)
  refine ⟨b, o, hp, h0, hx, _, _, _, _, rfl, hr, ?_⟩
  refine (Dm (cg l x.toNat)).mono fun e u2 ⟨he, hu2⟩ => ⟨_, he, fun hb => ⟨x, rfl, ?_, hu.ext hu2⟩, fun hb => ⟨by simp only [inK]; omega, ⟨hu.ext hu2, by omega, by omega, fun i hi' => ?_⟩, by dsimp only; omega⟩⟩
  ·simp only [h0, true_iff]
   intro hall
   rw [hall _ (xT (by omega))] at hb
   cases hb
  ·rcases (by omega : i < x.toNat \/ i = x.toNat) with h | rfl
   ·exact hi i h
   ·simpa using hb
 ·refine ⟨-1, rfl, ?_, hu⟩
  constructor
  ·intro h; omega
  ·intro h
   exact (h fun k hk => by
    obtain ⟨i, hi', rfl⟩ := uo hk
    exact hi i (by omega)).elim
theorem vP {u : World} {p : Option Addr} {l : List Cl} (h : Cells u p l) (c : Nat) (hl : l.length <= 100000000000000) :
  Spec Tryz.prog bW #[.slice p l.length c, .func (.func fx) #[] #[]] u (Told u (!l.all cG)) := by
 apply cV
 delta bX cnd iI lq
 refine (zV h c hl).mono fun e u1 ⟨x, he, hx, hu⟩ => ⟨x, he, ?_, hu⟩
 congr 2
 rw [Bool.eq_iff_iff, decide_eq_true_eq, hx, Bool.not_eq_true', <- Bool.not_eq_true, List.all_eq_true]
theorem o9 {u : World} {g : Gr} {p : Option Addr} (h : Cells u p g.cells) (c : Nat) (hl : g.cells.length <= 100000000000000) :
  Spec Tryz.prog tB #[GrV g p g.cells.length c] u (Told u (o8 g)) := by
 apply r9
 delta tj s6 cnd iI lq
 simp only [decide_eq_true_eq, decide_eq_false_iff_not, Bool.not_eq_true', Bool.not_eq_false']
 have hu : Ext u (ab u hole) := (Upd.refl u).alloc _
 have no : ¬ (1 <= g.wide /\ g.wide <= 24 /\ 1 <= g.high /\ g.high <= 10 /\ (g.cells.length : Int) = g.wide * g.high /\ 0 <= g.row /\ g.row < g.high /\ 0 <= g.col /\ g.col <= g.wide /\ 0 <= g.ink /\ g.ink <= 8 /\ 0 <= g.top /\ g.top < g.aA /\ g.aA <= g.high) -> Told u (o8 g) (.returned (.bool false)) (ab u hole) := fun hn => ⟨by
  congr 2
  symm
  unfold o8
  rw [decide_eq_false hn]
  rfl, hu⟩
 refine ⟨fun _ => no (by omega), fun h1 => ⟨fun _ => no (by omega), fun h2 => ⟨fun _ => no (by omega), fun h3 => ⟨fun _ => no (by omega), fun h4 => ⟨?_, fun _ => no (by omega), fun h5 => ?_⟩⟩⟩⟩⟩
 ·have a : 0 <= g.wide * g.high := Int.mul_nonneg (by omega) (by omega)
  have b : g.wide * g.high <= 24 * g.high := Int.mul_le_mul_of_nonneg_right (by omega) (by omega)
  simp only [inK]; omega
 refine ⟨fun _ => no (by omega), fun h6 => ⟨fun _ => no (by omega), fun h7 => ⟨fun _ => no (by omega), fun h8 => ⟨fun _ => no (by omega), fun h9 => ⟨fun _ => no (by omega), fun h10 => ⟨fun _ => no (by omega), fun h11 => ⟨fun _ => no (by omega), fun h12 => ⟨fun _ => no (by omega), fun h13 => ⟨fun _ => no (by omega), fun h14 => ?_⟩⟩⟩⟩⟩⟩⟩⟩⟩
 refine (vP (h.ext hu) c hl).mono fun e u1 ⟨he, hu1⟩ => ⟨_, he, ?_, hu.ext hu1⟩
 congr 2
 unfold o8
 rw [decide_eq_true (by omega)]
 simp
theorem yw (n : Nat) : aS n [.int .i64 0, .int .i64 0, .int .i64 0, .bool false] = aE (List.replicate n .z) := by rw [Cw]; rfl
structure rU (u : World) (g : Gr) (e : Ending) (u' : World) : Prop where
 ex : ∃ b, e = .returned (GrV g (some ⟨b, 0, none⟩) g.cells.length g.cells.length) /\ CO u' b g.cells.length g.cells /\ u.heap.size <= b
 ext : Ext u u'
theorem lP (w h : Int) {u : World} : Spec Tryz.prog uW #[.int .i64 w, .int .i64 h] u (rU u (aO w h)) := by
 apply tS
 delta uN cnd iI lq
 have hu : Ext u (ab u hole) := (Upd.refl u).alloc _
 have a : 0 <= max (1 : Int) (min w 24) * max (1 : Int) (min h 10) := Int.mul_nonneg (by omega) (by omega)
 have b : max (1 : Int) (min w 24) * max (1 : Int) (min h 10) <= 24 * max (1 : Int) (min h 10) := Int.mul_le_mul_of_nonneg_right (by omega) (by omega)
 have hlen : (aO w h).cells.length = (max (1 : Int) (min w 24) * max (1 : Int) (min h 10)).toNat := by simp [aO]
 refine ⟨by simp only [inK]; omega, a, Int.le_refl _, by omega, by omega, ⟨(ab u hole).heap.size, ?_, ?_, hu.size⟩, hu.alloc _⟩
 ·rw [hlen]; rfl
 ·rw [yw]
  have := CO.fresh (ab u hole) (List.replicate (max (1 : Int) (min w 24) * max (1 : Int) (min h 10)).toNat .z) dj
  rw [List.length_replicate] at this
  rw [hlen]
  exact this
theorem ET {u : World} {p : Option Addr} {l : List Cl} (h : Cells u p l) (c : Nat) (hl : l.length <= 100000000) (h0 : 0 < l.length) :
  Spec Tryz.prog cM #[.slice p l.length c] u fun e u' => ∃ b c', e = .returned (.slice (some ⟨b, 0, none⟩) l.length c') /\ CO u' b c' l /\ Ext u u' /\ u.heap.size <= b := by
 apply dM
 delta cL cnd iI lq
 refine ⟨fun hp => ?_, fun hp => ?_⟩
 ·obtain ⟨b, o, hp', _⟩ := h.at h0
  rw [hp'] at hp
  cases hp
 ·have hu : Ext u (ab u (.cells #[] dj)) := (Upd.refl u).alloc _
  have h' := h.ext hu
  have hf : Own (ab u (.cells #[] dj)) 4 (some ⟨u.heap.size, 0, none⟩) 0 0 [] := Own.fresh u (cs := []) rfl
  refine ⟨[], aE l, rfl, hf.aH, bq l, h'.aH, by decide, by omega, (fQ _ _).2 trivial, fun hc => hf.wrs (by omega), fun p cap u1 hr => ?_⟩
  obtain ⟨h1, h2, h3⟩ := hf.app hr rfl hf.aH (bq l) rfl
  simp only [Nat.zero_add, List.nil_append] at h1 ⊢
  rcases h3 with ⟨rfl, hn⟩ | ⟨rfl, hx⟩
  ·omega
  ·exact ⟨_, cap, rfl, h1, hu.ext hx, hu.size⟩
theorem D0 {u : World} {g : Gr} {p : Option Addr} (h : Cells u p g.cells) (c : Nat) (r cl : Int) (hl : g.cells.length <= 100000000) :
  Spec Tryz.prog xm #[GrV g p g.cells.length c, .int .i64 r, .int .i64 cl] u fun e u' => e = .returned (ClV (atG g r cl)) /\ Ext u u' := by
 apply vI
 delta xi lU cnd iI lq
 simp only [decide_eq_true_eq, decide_eq_false_iff_not]
 have hu : Ext u (ab (ab u hole) hole) := ((Upd.refl u).alloc _).alloc _
 have no : ¬ (g.wide <= 24 /\ g.high <= 10 /\ 0 <= r /\ r < g.high /\ 0 <= cl /\ cl < g.wide /\ r * g.wide + cl < (g.cells.length : Nat)) -> Ending.returned (.agg #[.int .i64 0, .int .i64 0, .int .i64 0, .bool false]) = .returned (ClV (atG g r cl)) /\ Ext u (ab (ab u hole) hole) := fun hn => ⟨by
  have : atG g r cl = .z := by
   unfold atG
   split
   ·next hc =>
    have hm : 0 <= r * g.wide := Int.mul_nonneg hc.2.2.1 (by omega)
    exact yh (by omega)
   ·rfl
  rw [this], hu⟩
 have hmul : 0 <= r -> r < g.high -> g.high <= 10 -> 0 <= g.wide -> g.wide <= 24 -> 0 <= r * g.wide /\ r * g.wide <= 240 := fun a b c d e => by
  have x : 0 <= r * g.wide := Int.mul_nonneg a d
  have y : r * g.wide <= 10 * g.wide := Int.mul_le_mul_of_nonneg_right (by omega) d
  omega
 refine ⟨fun _ => no (by omega), fun h1 => ⟨fun _ => no (by omega), fun h2 => ⟨fun _ => no (by omega), fun h3 => ⟨fun _ => no (by omega), fun h4 => ⟨fun _ => no (by omega), fun h5 => ⟨fun _ => no (by omega), fun h6 => ?_⟩⟩⟩⟩⟩⟩
 have hm := hmul (by omega) (by omega) (by omega) (by omega) (by omega)
 refine ⟨by simp only [inK]; omega, by simp only [inK]; omega, fun h7 => no (by omega), fun h7 => ⟨by simp only [inK]; omega, by simp only [inK]; omega, ?_⟩⟩
 obtain ⟨b, o, hp, hr⟩ := (h.ext hu).at (i := (r * g.wide + cl).toNat) (by omega)
 refine ⟨b, o, hp, by omega, by omega, _, _, _, _, rfl, hr, ?_, hu⟩
 unfold atG
 rw [if_pos (by omega)]
theorem zr (g : Gr) {l : List Int} {i : Nat} (h : i < l.length) : (l.take (i + 1)).foldl cj g = cj ((l.take i).foldl cj g) (l.getD i 0) := by
 have e : l.take (i + 1) = l.take i ++ [l.getD i 0] := by
  rw [List.take_succ, List.getElem?_eq_getElem h]
  simp [List.getD_eq_getElem?_getD, List.getElem?_eq_getElem h]
 rw [e, List.foldl_append]
 rfl
theorem xq {g : Gr} (hg : ao g) {fr to m n : Int} (h0 : 0 <= to) (h1 : to <= g.high) (h : (0 <= m /\ 0 <= n) \/ (m <= 0 /\ n <= 0)) : dc (dc g fr to n) fr to m = dc g fr to (m + n) := by
 have f := aB hg h0 h1
 unfold dc
 dsimp only
 rw [Ft (by have := hg.w1; omega) (by rw [<- f.2.2.2]; omega) h]
theorem Db (g : Gr) (fr to : Int) : dc g fr to 0 = g := by
 unfold dc
 rw [Fq]
theorem CL {u : World} {gb : Nat} {g : Gr} {b c : Nat} (h : GB u gb g b c) (hg : ao g) {ch : Int} {p : Option Addr} {n cc : Nat} {l : List Int} (hl : bY u p n l) (hp : n ≠ 0 -> ∀ k, At p k -> ¬ UB gb b k) (hn : n <= 100000000) :
  Spec Tryz.prog ow #[.pointer (some ⟨gb, 0, none⟩), .int .i64 ch, .slice p n cc] u (qJ u gb b c (aP g ch l)) := by
 apply pV
 delta oC D9 DZ D5 Dr w8 BA cnd iI lq
 simp only [decide_eq_true_eq, decide_eq_false_iff_not]
 refine (mL (c := cc) hl (k := 0) (by decide) 1).mono fun e u1 ⟨he, hu1⟩ => ⟨_, he, ?_⟩
 have hw1 := hg.w1
 have hw2 := hg.w2
 have hh1 := hg.h1
 have hh2 := hg.h2
 have hr1 := hg.r1
 have hr2 := hg.r2
 have hc1 := hg.c1
 have hc2 := hg.c2
 have ht1 := hg.t1
 have ht2 := hg.t2
 have hb2 := hg.b2
 have X := h.ext hu1
 have hl1 := hl.ext hu1
 have hd : Ext u1 (af u1) := (Upd.refl u1).drew
 have hud := hu1.ext hd
 have Y := X.ext hd
 have R : Upd (UB gb b) u u1 := hu1.any
 have Rd' : Upd (UB gb b) u (af u1) := hud.any
 have hnum : 1 <= aQ l 0 1 /\ aQ l 0 1 <= 999 := by unfold aQ; omega
 have r0 := aB hg hr1 (by omega)
 have r1 := aB hg (r := g.row + 1) (by omega) (by omega)
 have e1 := bQ g.row g.wide
 have hfew := aK hg
 have hN : ∀ k : Int, 0 <= k -> ∀ least, aQ l k.toNat least = aQ l k.toNat least := fun _ _ _ => rfl
 unfold aP
 dsimp only
 show _ /\ _
 rw [show (0 : Int).toNat = 0 from rfl]
 generalize hN0 : aQ l 0 1 = N at hnum
 refine ⟨fun hc => ?_, fun hc => ?_⟩
 ·rw [if_pos hc]
  exact ⟨_, rfl, h.fV hu1, by simp only [inK]; omega, rfl, X.wr (by omega), rfl, X.put (g' := { g with row := max 0 (g.row - N) }) rfl rfl, UB.dy R _ _⟩
 rw [if_neg hc]
 clear hc
 refine ⟨fun hc => ?_, fun hc => ?_⟩
 ·rw [if_pos hc]
  exact ⟨_, rfl, h.rG hud, by simp only [inK]; omega, _, rfl, h.fV hud, by simp only [inK]; omega, rfl, Y.wr (by omega), rfl, Y.put (g' := { g with row := min (g.high - 1) (g.row + N) }) rfl rfl, UB.dy Rd' _ _⟩
 rw [if_neg hc]
 clear hc
 refine ⟨fun hc => ?_, fun hc => ?_⟩
 ·rw [if_pos hc]
  exact ⟨_, rfl, h.bK hud, by simp only [inK]; omega, _, rfl, h.jN hud, by simp only [inK]; omega, rfl, Y.wr (by omega), rfl, Y.put (g' := { g with col := min (g.wide - 1) (g.col + N) }) rfl rfl, UB.dy Rd' _ _⟩
 rw [if_neg hc]
 clear hc
 refine ⟨fun hc => ?_, fun hc => ?_⟩
 ·rw [if_pos hc]
  exact ⟨_, rfl, h.jN hud, _, rfl, h.bK hud, by simp only [inK]; omega, by simp only [inK]; omega, rfl, Y.wr (by omega), rfl, Y.put (g' := { g with col := max 0 (min g.col (g.wide - 1) - N) }) rfl rfl, UB.dy Rd' _ _⟩
 rw [if_neg hc]
 clear hc
 refine ⟨fun hc => ?_, fun hc => ?_⟩
 ·rw [if_pos hc]
  refine ⟨_, rfl, h.rG hud, by simp only [inK]; omega, _, rfl, h.bK hud, ?_⟩
  refine (mL (c := cc) (hl1.ext hd) (k := 1) (by decide) 1).mono fun e u2 ⟨he, hu2⟩ => ⟨_, he, h.bK (hud.ext hu2), h.rG (hud.ext hu2), ?_⟩
  rw [show (1 : Int).toNat = 1 from rfl]
  have hm : 1 <= aQ l 1 1 := by unfold aQ; omega
  generalize aQ l 1 1 = M at hm
  have Z := Y.ext hu2
  have Z1 := Z.put (g' := { g with row := min g.high N - 1 }) (o := 0 + 3) (ys := [.int .i64 (min g.high N - 1)]) rfl rfl
  exact ⟨by simp only [inK]; omega, rfl, Z.wr (by omega), rfl, Z1.wr (by omega), rfl, Z1.put (g' := { g with row := min g.high N - 1, col := min g.wide M - 1 }) rfl rfl, UB.dy (UB.dy (Rd'.ext hu2) _ _) _ _⟩
 rw [if_neg hc]
 clear hc
 refine ⟨fun hc => ?_, fun hc => ?_⟩
 ·rw [if_pos hc]
  refine ⟨_, rfl, h.fV hud, _, rfl, h.bK hud, by simp only [inK]; omega, _, rfl, h.jN hud, _, rfl, h.bK hud, by simp only [inK]; omega, by simp only [inK]; omega, _, _, _, rfl, h.iZ hud, ?_⟩
  refine (mL (c := cc) (hl1.ext hd) (k := 0) (by decide) 0).mono fun e u2 ⟨he, hu2⟩ => ⟨_, he, h.iZ (hud.ext hu2), h.bK (hud.ext hu2), h.jN (hud.ext hu2), h.bK (hud.ext hu2), h.fV (hud.ext hu2), ?_⟩
  rw [show (0 : Int).toNat = 0 from rfl]
  exact (BQ (Y.ext hu2) hg (Int.le_refl 0) (by omega) (by omega) (Int.le_refl _)).mono fun e u3 ⟨he, Z, hu3⟩ => ⟨he, rfl, Z, UB.trans (Rd'.ext hu2) hu3⟩
 rw [if_neg hc]
 clear hc
 refine ⟨fun hc => ?_, fun hc => ?_⟩
 ·rw [if_pos hc]
  refine ⟨_, rfl, h.fV hud, _, rfl, h.bK hud, by simp only [inK]; omega, _, rfl, h.jN hud, _, rfl, h.bK hud, by simp only [inK]; omega, by simp only [inK]; omega, _, rfl, h.fV hud, _, rfl, h.bK hud, by simp only [inK]; omega, _, rfl, h.fV hud, by simp only [inK]; omega, _, rfl, h.bK hud, by simp only [inK]; omega, ?_⟩
  refine (mL (c := cc) (hl1.ext hd) (k := 0) (by decide) 0).mono fun e u2 ⟨he, hu2⟩ => ⟨_, he, h.bK (hud.ext hu2), h.fV (hud.ext hu2), h.bK (hud.ext hu2), h.fV (hud.ext hu2), h.bK (hud.ext hu2), h.jN (hud.ext hu2), h.bK (hud.ext hu2), h.fV (hud.ext hu2), ?_⟩
  rw [show (0 : Int).toNat = 0 from rfl]
  exact (BQ (Y.ext hu2) hg (by omega) (by omega) (by omega) (by omega)).mono fun e u3 ⟨he, Z, hu3⟩ => ⟨he, rfl, Z, UB.trans (Rd'.ext hu2) hu3⟩
 rw [if_neg hc]
 clear hc
 refine ⟨fun h76 => ⟨fun _ => ?_, fun h => (h h76).elim⟩, fun h76 => ⟨fun h77 => ?_, fun h77 => ?_⟩⟩
 rotate_left 2
 ·rw [if_neg (by omega)]
  refine ⟨fun hc => ?_, fun hc => ?_⟩
  ·rw [if_pos hc]
   refine ⟨fun x u2 => GB u2 gb ((l.take x.toNat).foldl cj g) b c /\ Upd (UB gb b) u1 u2 /\ 0 <= x /\ x <= n, fun x _ => (n - x).toNat, ⟨X, Upd.refl _, by omega, by omega⟩, fun x u2 ⟨Z, hu2, h0, h1⟩ => ⟨fun hx => ?_, fun hx => ⟨rfl, ?_, UB.trans R hu2⟩⟩⟩
   ·have hln := hl.2
    obtain ⟨b', o', hp', hr'⟩ := (hl1.upd hu2 (hp (by omega))).at (i := x.toNat) (by omega)
    refine ⟨b', o', hp', h0, hx, _, rfl, hr', ?_⟩
    refine (He Z).mono fun e u3 ⟨he, Z3, hu3⟩ => ⟨he, by simp only [inK]; omega, ⟨?_, UB.trans hu2 hu3, by omega, by omega⟩, by dsimp only; omega⟩
    rw [show (x + 1).toNat = x.toNat + 1 by omega, zr g (by omega)]
    exact Z3
   ·rw [List.take_of_length_le (by have := hl.2; omega)] at Z
    exact Z
  rw [if_neg hc]
  clear hc
  refine ⟨fun hc => ?_, fun hc => ?_⟩
  ·rw [if_pos hc]
   refine ⟨by simp only [inK]; omega, ?_⟩
   refine (mL (c := cc) hl1 (k := 1) (by decide) 0).mono fun e u2 ⟨he, hu2⟩ => ⟨_, he, ?_⟩
   rw [show (1 : Int).toNat = 1 from rfl]
   have hm : 0 <= aQ l 1 0 /\ aQ l 1 0 <= 999 := by unfold aQ; omega
   generalize aQ l 1 0 = M at hm
   have Z := X.ext hu2
   have RZ : Upd (UB gb b) u u2 := R.ext hu2
   have hset : ∀ bot : Int, bot = (if M = 0 \/ g.high < M then g.high else M) -> (N - 1 < bot -> 1 = ([.int .i64 (N - 1)] : List Value).length /\ Wr u2 gb (0 + 7) 1 /\ 1 = ([.int .i64 bot] : List Value).length /\
     Wr (ae u2 gb (0 + 7) ([.int .i64 (N - 1)])) gb (0 + 8) 1 /\ 1 = ([.int .i64 0] : List Value).length /\ Wr (ae (ae u2 gb (0 + 7) ([.int .i64 (N - 1)])) gb (0 + 8) ([.int .i64 bot])) gb (0 + 3) 1 /\
     1 = ([.int .i64 0] : List Value).length /\ Wr (ae (ae (ae u2 gb (0 + 7) ([.int .i64 (N - 1)])) gb (0 + 8) ([.int .i64 bot])) gb (0 + 3) ([.int .i64 0])) gb (0 + 4) 1 /\
     qJ u gb b c (j4 g (N - 1) M) (.returned (.tuple #[])) (ae (ae (ae (ae u2 gb (0 + 7) ([.int .i64 (N - 1)])) gb (0 + 8) ([.int .i64 bot])) gb (0 + 3) ([.int .i64 0])) gb (0 + 4) ([.int .i64 0]))) /\
     (¬ N - 1 < bot -> qJ u gb b c (j4 g (N - 1) M) (.returned (.tuple #[])) u2) := fun bot hbot => by
    have hreg : j4 g (N - 1) M = if N - 1 < bot then { g with top := N - 1, aA := bot, row := 0, col := 0 } else g := by
     unfold j4
     rw [hbot]
    rw [hreg]
    refine ⟨fun hlt => ?_, fun hlt => ?_⟩
    ·rw [if_pos hlt]
     have Z1 := Z.put (g' := { g with top := N - 1 }) (o := 0 + 7) (ys := [.int .i64 (N - 1)]) rfl rfl
     have Z2 := Z1.put (g' := { g with top := N - 1, aA := bot }) (o := 0 + 8) (ys := [.int .i64 bot]) rfl rfl
     have Z3 := Z2.put (g' := { g with top := N - 1, aA := bot, row := 0 }) (o := 0 + 3) (ys := [.int .i64 0]) rfl rfl
     exact ⟨rfl, Z.wr (by omega), rfl, Z1.wr (by omega), rfl, Z2.wr (by omega), rfl, Z3.wr (by omega), rfl, Z3.put (g' := { g with top := N - 1, aA := bot, row := 0, col := 0 }) rfl rfl, UB.dy (UB.dy (UB.dy (UB.dy RZ _ _) _ _) _ _) _ _⟩
    ·rw [if_neg hlt]
     exact ⟨rfl, Z, RZ⟩
   refine ⟨fun x u3 => u3 = u2 /\ (x = true ↔ M = 0 \/ g.high < M), ⟨fun hM => ⟨rfl, by simp [hM]⟩, fun hM => ⟨_, rfl, h.rG (hu1.ext hu2), rfl, by simp [hM]⟩⟩, fun x u3 ⟨hx3, hx⟩ => ?_⟩
   subst hx3
   refine ⟨fun hxt => ⟨_, rfl, h.rG (hu1.ext hu2), ?_⟩, fun hxf => ?_⟩
   ·exact hset g.high (by rw [if_pos (hx.1 hxt)])
   ·exact hset M (by rw [if_neg (fun hh => by rw [hx.2 hh] at hxf; cases hxf)])
  ·rw [if_neg hc]
   exact ⟨rfl, X, R⟩
 all_goals
  rw [if_pos (by omega)]
  refine ⟨_, rfl, h.fV hud, _, rfl, h.HI hud, fun ha => ⟨?_, ?_, Rd'⟩, fun ha => ⟨_, rfl, h.fV hud, _, rfl, h.pg hud, fun hb => ⟨?_, ?_, Rd'⟩, fun hb => ?_⟩⟩
  ·rfl
  ·rw [if_pos (.inl ha)]; exact Y
  ·rfl
  ·rw [if_pos (.inr hb)]; exact Y
  rw [if_neg (by omega)]
  refine ⟨fun x u2 => GB u2 gb (dc g g.row g.aA (if ch = 76 then -x else x)) b c /\ Upd (UB gb b) u u2 /\ 0 <= x /\ x <= min N 10, fun x _ => (min N 10 - x).toNat, ⟨?_, Rd', by omega, by omega⟩, fun x u2 ⟨Z, hu2, h0, h1⟩ => ⟨fun hx => ⟨fun hch => ?_, fun hch => ?_⟩, fun hx => ⟨rfl, Z.wr (by omega), rfl, ?_, UB.dy hu2 _ _⟩⟩⟩
  ·have : dc g g.row g.aA (if ch = 76 then -0 else 0) = g := by split <;> exact Db _ _ _
   rw [this]
   exact Y
  ·have hd2 : Ext u2 (af u2) := (Upd.refl u2).drew
   rw [if_pos hch] at Z
   have Zg := hg.EP g.row g.aA (-x)
   refine ⟨_, rfl, Z.fV hd2, _, rfl, Z.pg hd2, ?_⟩
   refine (Hj (Z.ext hd2) Zg (fr := g.row) (to := g.aA) hr1 (by omega) hb2).mono fun e u3 ⟨he, Z3, hu3⟩ => ⟨he, by simp only [inK]; omega, ⟨?_, UB.trans (hu2.ext hd2) (UB.cells hu3), by omega, by omega⟩, by dsimp only; omega⟩
   rw [if_pos hch]
   rw [xq hg (by omega) hb2 (by omega), show -1 + -x = -(x + 1) by omega] at Z3
   exact Z3
  ·have hd2 : Ext u2 (af u2) := (Upd.refl u2).drew
   rw [if_neg hch] at Z
   have Zg := hg.EP g.row g.aA x
   refine ⟨_, rfl, Z.fV hd2, _, rfl, Z.pg hd2, ?_⟩
   refine (HK (Z.ext hd2) Zg (fr := g.row) (to := g.aA) hr1 (by omega) hb2).mono fun e u3 ⟨he, Z3, hu3⟩ => ⟨he, by simp only [inK]; omega, ⟨?_, UB.trans (hu2.ext hd2) (UB.cells hu3), by omega, by omega⟩, by dsimp only; omega⟩
   rw [if_neg hch]
   rw [xq hg (by omega) hb2 (by omega), show 1 + x = x + 1 by omega] at Z3
   exact Z3
  ·have hx' : x = min N 10 := by omega
   rw [hx'] at Z
   have hN' : (if ch = 76 then -min N 10 else min N 10) = (if ch = 76 then - min N 10 else min N 10) := rfl
   exact Z.put (g' := { dc g g.row g.aA (if ch = 76 then - min N 10 else min N 10) with col := 0 }) rfl rfl
theorem Ei {l : List UInt8} {i : Nat} {b : UInt8} (h : l[i]? = some b) : l.drop i = b :: l.drop (i + 1) := by
 obtain ⟨hi, rfl⟩ := List.getElem?_eq_some_iff.1 h
 exact List.drop_eq_getElem_cons hi
theorem wW (s : ByteArray) : s.data.toList.length = s.size := by rw [Array.length_toList]; rfl
theorem zA (w h left : Int) (b : UInt8) (bs : List UInt8) (r c : Int) (l : List Cl) : picC w h left (b :: bs) r c l =
  if b.toNat = 45 then picC w h left bs (r + 1) left l
  else if 97 <= b.toNat /\ b.toNat < 105 /\ r < h /\ c < w then picC w h left bs r (c + 1) (l.set (r * w + c).toNat ⟨0, 0, (b.toNat : Int) - 96, false⟩)
  else picC w h left bs r (c + 1) l := rfl
structure Im (u : World) (gb : Nat) (g : Gr) (b c : Nat) (s : List UInt8) (r cl x : Int) (l : List Cl) (u1 : World) : Prop where
 scr : GB u1 gb { g with cells := l } b c
 uv : ao { g with cells := l }
 upd : Upd (UB gb b) u u1
 x0 : 0 <= x
 x1 : x <= s.length
 r0 : 0 <= r
 r1 : r <= 10 + x
 c0 : 0 <= cl
 c1 : cl <= 24 + x
 eq : picC g.wide g.high (min g.col (g.wide - 1)) s g.row (min g.col (g.wide - 1)) g.cells = picC g.wide g.high (min g.col (g.wide - 1)) (s.drop x.toNat) r cl l
theorem Ci {u : World} {gb : Nat} {g : Gr} {b c : Nat} (h : GB u gb g b c) (hg : ao g) (s : ByteArray) (hs : s.size <= 100000000) :
  Spec Tryz.prog nW #[.pointer (some ⟨gb, 0, none⟩), .string s] u (qJ u gb b c (dz g s.data.toList)) := by
 apply pN
 delta om sS cnd iI lq
 simp only [decide_eq_true_eq, decide_eq_false_iff_not]
 have hu : Ext u (af u) := (Upd.refl u).drew
 have hw1 := hg.w1
 have hw2 := hg.w2
 have hh2 := hg.h2
 have hr1 := hg.r1
 have hr2 := hg.r2
 have hc1 := hg.c1
 have hlen := wW s
 refine ⟨_, rfl, h.fV hu, _, rfl, h.jN hu, _, rfl, h.bK hu, by simp only [inK]; omega, fun r cl x u1 => ∃ l, Im u gb g b c s.data.toList r cl x l u1, fun _ _ x _ => (s.size - x).toNat, ⟨g.cells, h.ext hu, hg, hu.any, Int.le_refl _, by omega, hr1, by omega, by omega, by omega, by simp⟩, fun r cl x u1 ⟨l, I⟩ => ⟨fun hx => ?_, fun hx => ?_⟩⟩
 ·obtain ⟨i1, i2, i3, i4, i5, i6, i7, i8, i9, i10⟩ := I
  have hb : s.data.toList[x.toNat]? = some (s.data.toList[x.toNat]'(by omega)) := List.getElem?_eq_getElem _
  generalize s.data.toList[x.toNat]'(by omega) = ch at hb
  have hch : ch.toNat < 256 := ch.toNat_lt
  have hx1 : (x + 1).toNat = x.toNat + 1 := by omega
  rw [Ei hb] at i10
  rw [zA] at i10
  have skip : ¬ ch.toNat = 45 -> ¬ (97 <= ch.toNat /\ ch.toNat < 105 /\ r < g.high /\ cl < g.wide) -> inK .i64 (cl + 1) /\ inK .i64 (x + 1) /\ (∃ l, Im u gb g b c s.data.toList r (cl + 1) (x + 1) l u1) /\ (s.size - (x + 1)).toNat < (s.size - x).toNat := fun h1 h2 => by
   rw [if_neg h1, if_neg h2, <- hx1] at i10
   exact ⟨by simp only [inK]; omega, by simp only [inK]; omega, ⟨l, i1, i2, i3, by omega, by omega, i6, by omega, by omega, by omega, i10⟩, by omega⟩
  refine ⟨i4, ch, hb, by simp only [inK]; omega, fun h45 => ?_, fun h45 => ⟨fun h97 => ⟨fun h105 => ⟨_, rfl, i1.rG (Upd.refl _), fun hrh => ⟨_, rfl, i1.bK (Upd.refl _), fun hcw => ?_, fun hcw => ?_⟩, fun hrh => ?_⟩, fun h105 => ?_⟩, fun h97 => ?_⟩⟩
  ·rw [if_pos (by omega), <- hx1] at i10
   exact ⟨by simp only [inK]; omega, by simp only [inK]; omega, ⟨l, i1, i2, i3, by omega, by omega, by omega, by omega, by omega, by omega, i10⟩, by dsimp only; omega⟩
  ·refine (tW i1 i2 i6 hrh).mono fun e u2 ⟨c', he, hu2⟩ => ⟨_, _, _, he, by simp only [inK]; omega, by simp only [inK]; omega, b, _, rfl, i8, ?_, rfl, ?_, by simp only [inK]; omega, by simp only [inK]; omega, ?_, by dsimp only; omega⟩
   ·show cl < ((g.wide.toNat : Nat) : Int)
    have : cl < g.wide := hcw
    omega
   all_goals
    have hcw' : cl < g.wide := hcw
    have q0 := aB i2 i6 (by show r <= g.high; have : r < g.high := hrh; omega)
    have q1 := aB i2 (r := r + 1) (by omega) (by show r + 1 <= g.high; have : r < g.high := hrh; omega)
    rw [bQ] at q1
    dsimp only at q0 q1
   ·exact (i1.ext hu2).own.wr (by show 0 + (r * g.wide).toNat * 4 + cl.toNat * 4 + 4 <= l.length * 4; omega)
   ·have Y := (i1.ext hu2).cell ⟨0, 0, ((ch.toNat : Nat) : Int) - 97 + 1, false⟩ (i := (r * g.wide + cl).toNat) (o := 0 + (r * g.wide).toNat * 4 + cl.toNat * 4) (by show (r * g.wide + cl).toNat < l.length; omega) (by omega)
    rw [if_neg (by omega), if_pos ⟨by omega, by omega, hrh, hcw⟩, <- hx1, show ((ch.toNat : Nat) : Int) - 96 = (ch.toNat : Nat) - 97 + 1 by omega] at i10
    refine ⟨_, Y, ?_, UB.Hf (i3.ext hu2) _ _, by omega, by omega, i6, by omega, by omega, by omega, i10⟩
    refine hg.fP ?_ (cN.set i2.all ?_ _)
    ·rw [List.length_set]
     have a : (l.length : Int) = g.wide * g.high := i2.len
     have b := hg.len
     show l.length = g.cells.length
     omega
    ·rw [uJ]
     dsimp only
     refine ⟨by omega, .inr ⟨by omega, rfl, rfl, rfl⟩⟩
  ·exact skip (by omega) (fun h => hcw h.2.2.2)
  ·exact skip (by omega) (fun h => hrh h.2.2.1)
  ·exact skip (by omega) (by omega)
  ·exact skip (by omega) (by omega)
 ·obtain ⟨i1, i2, i3, i4, i5, i6, i7, i8, i9, i10⟩ := I
  rw [List.drop_eq_nil_of_le (by omega)] at i10
  refine ⟨rfl, ?_, i3⟩
  unfold dz
  rw [i10]
  exact i1
structure mq (u : World) (p : Option Addr) (c : Nat) (r : Gr × Int) (e : Ending) (u' : World) : Prop where
 ex : ∃ p' c', e = .returned (.tuple #[GrV r.1 p' r.1.cells.length c', .int .i64 r.2]) /\ Cells u' p' r.1.cells /\ (∀ k, At p' k -> At p k \/ u.heap.size <= k) /\ (r.2 ≠ 0 -> p' = p /\ c' = c) /\ (r.2 = 0 -> r.1.cells.length <= c')
 ext : Ext u u'
theorem mq.same {u u' : World} {g : Gr} {p : Option Addr} {c : Nat} {n : Int} (hn : n ≠ 0) (h : Cells u p g.cells) (hu : Ext u u') : mq u p c (g, n) (.returned (.tuple #[GrV g p g.cells.length c, .int .i64 n])) u' :=
 ⟨⟨p, c, rfl, h.ext hu, fun _ h => .inl h, fun _ => ⟨rfl, rfl⟩, fun h => (hn h).elim⟩, hu⟩
theorem mq.own {u u' : World} {g : Gr} {p : Option Addr} {c gb b c' : Nat} {v : World} (hv : Ext u v) (h : GB u' gb g b c') (hu : Upd (UB gb b) v u') (h1 : u.heap.size <= gb) (h2 : u.heap.size <= b) : mq u p c (g, 0) (.returned (.tuple #[GrV g (some ⟨b, 0, none⟩) g.cells.length c', .int .i64 0])) u' :=
 ⟨⟨_, c', rfl, h.own.cells, fun k hk => .inr (by obtain ⟨a, ha, rfl⟩ := hk; cases ha; exact h2), fun h => (h rfl).elim, fun _ => h.own.le⟩, hv.trans hu fun k hk h => by rcases h with rfl | rfl <;> omega⟩
theorem HY {u : World} {g : Gr} {p : Option Addr} (h : Cells u p g.cells) (c : Nat) (hl : g.cells.length <= 100000000) (e : Ev) {ep : Option Addr} {en ec : Nat} (he : bY u ep en e.ps) (hen : en <= 100000000) (hpl : e.pl.size <= 100000000) :
  Spec Tryz.prog xA #[GrV g p g.cells.length c, EvV e ep en ec] u (mq u p c (doG g e)) := by
 apply vO
 delta yk tD cnd iI lq
 simp only [decide_eq_true_eq, decide_eq_false_iff_not, Bool.not_eq_true', Bool.not_eq_false']
 have hu : Ext u (ab (ab (ab u hole) hole) hole) := (((Upd.refl u).alloc _).alloc _).alloc _
 refine (o9 (h.ext hu) c (by omega)).mono fun r u1 ⟨hr, hu1⟩ => ⟨_, hr, fun hb => ?_, fun hb => ?_⟩
 ·have hd : doG g e = (g, 1) := by unfold doG; rw [if_pos hb]
  rw [hd]
  exact mq.same (by decide) h (hu.ext hu1)
 have hg := bH.1 hb
 have x1 := hu.ext hu1
 have hdo := fun e => uY hg e
 have hla : Ext u1 (ab u1 (.cells ([.int .i64 0, .int .i64 0, .slice none 0 0, .int .i64 0, .int .i64 0, .int .i64 0, .bool false, .int .i64 0, .int .i64 0] : List Value).toArray bU)) := (Upd.refl u1).alloc _
 have B0 := Blk.fresh u1 [.int .i64 0, .int .i64 0, .slice none 0 0, .int .i64 0, .int .i64 0, .int .i64 0, .bool false, .int .i64 0, .int .i64 0] bU
 have B1 := B0.putAt (o := 0) (ys := grV g p g.cells.length c) (r := grV g p g.cells.length c) rfl
 have hlp : Ext u1 (ae (ab u1 (.cells ([.int .i64 0, .int .i64 0, .slice none 0 0, .int .i64 0, .int .i64 0, .int .i64 0, .bool false, .int .i64 0, .int .i64 0] : List Value).toArray bU)) u1.heap.size 0 (grV g p g.cells.length c)) := hla.put (fun h => by omega) _ _
 refine ⟨rfl, B0.wr (by simp), ?_⟩
 have hpos : 0 < g.cells.length := by
  have a := hg.len
  have b := Int.mul_pos (show (0 : Int) < g.wide by have := hg.w1; omega) (show (0 : Int) < g.high by have := hg.h1; omega)
  omega
 refine (ET (h.ext (x1.ext hlp)) c hl hpos).mono fun r u2 ⟨b, c', hr, ho, hu2, hbn⟩ => ⟨_, _, _, hr, rfl, ?_⟩
 have B2 := B1.ext hu2
 have hsz : u1.heap.size < b := by
  rw [fb, size_alloc] at hbn
  omega
 have S : GB (ae u2 u1.heap.size (0 + 2) [.slice (some ⟨b, 0, none⟩) g.cells.length c']) u1.heap.size g b c' := ⟨B2.putAt rfl, ho.upd (aI _ _ _) (by omega), by omega⟩
 have hv : Ext u (ae u2 u1.heap.size (0 + 2) [.slice (some ⟨b, 0, none⟩) g.cells.length c']) := ((x1.ext hlp).ext hu2).put (fun h => by have := x1.size; omega) _ _
 have hs1 := x1.size
 have hev := he.ext hv
 have hav : en ≠ 0 -> ∀ k, At ep k -> ¬ UB u1.heap.size b k := fun h0 k hk hb => by
  have hlt : k < u.heap.size := by
   obtain ⟨a, ha, rfl⟩ := hk
   obtain ⟨b', o', hp', hr'⟩ := he.at (i := 0) (by omega)
   rw [ha] at hp'
   cases hp'
   exact uL hr'
  rcases hb with rfl | rfl <;> omega
 refine ⟨B2.wr (by simp), ?_⟩
 generalize ae u2 u1.heap.size (0 + 2) [.slice (some ⟨b, 0, none⟩) g.cells.length c'] = v at S hv hev
 rw [hdo]
 refine ⟨fun k1 => ?_, fun k1 => ?_⟩
 ·rw [if_pos k1]
  refine ⟨fun hlt => ?_, fun hlt => ⟨fun hgt => ?_, fun hgt => ?_⟩⟩
  ·rw [if_pos (.inl hlt)]; exact mq.same (by decide) h hv
  ·rw [if_pos (.inr hgt)]; exact mq.same (by decide) h hv
  ·rw [if_neg (by omega)]
   exact (FH S hg).mono fun r u3 ⟨hr, S3, hu3⟩ => ⟨hr, _, _, _, _, _, _, _, _, _, _, _, rfl, S3.EA (Upd.refl _), mq.own hv S3 hu3 hs1 (by omega)⟩
 rw [if_neg k1]
 refine ⟨fun k2 => ?_, fun k2 => ?_⟩
 ·rw [if_pos k2]
  exact (DC S hg).mono fun r u3 ⟨hr, S3, hu3⟩ => ⟨hr, _, _, _, _, _, _, _, _, _, _, _, rfl, S3.EA (Upd.refl _), mq.own hv S3 hu3 hs1 (by omega)⟩
 rw [if_neg k2]
 refine ⟨fun k3 => ?_, fun k3 => ?_⟩
 ·rw [if_pos k3]
  exact (CL S hg hev hav hen).mono fun r u3 ⟨hr, S3, hu3⟩ => ⟨hr, _, _, _, _, _, _, _, _, _, _, _, rfl, S3.EA (Upd.refl _), mq.own hv S3 hu3 hs1 (by omega)⟩
 rw [if_neg k3]
 refine ⟨fun k4 => ?_, fun k4 => ?_⟩
 ·rw [if_pos k4]
  exact (Ci S hg e.pl hpl).mono fun r u3 ⟨hr, S3, hu3⟩ => ⟨hr, _, _, _, _, _, _, _, _, _, _, _, rfl, S3.EA (Upd.refl _), mq.own hv S3 hu3 hs1 (by omega)⟩
 rw [if_neg k4]
 refine ⟨fun k5 => ?_, fun k5 => ?_⟩
 ·rw [if_pos k5]
  refine (lP g.wide g.high).mono fun r u3 ⟨⟨nb, hr, hco, hnb⟩, hu3⟩ => ⟨_, _, _, _, _, _, _, _, _, _, _, hr, ⟨_, _, rfl, hco.cells, fun k hk => .inr ?_, fun h => (h rfl).elim, fun _ => Nat.le_refl _⟩, hv.ext hu3⟩
  obtain ⟨a, ha, rfl⟩ := hk
  cases ha
  have := hv.size
  show u.heap.size <= nb
  omega
 ·rw [if_neg k5]
  exact mq.same (by decide) h hv
end Go.Proofs.YtkmmphkjmamckacGreatDoor
