/-
  A screen, plainly: it stays good, and what each event does to its cells.
-/
import Derived.Test.YtkmmphkjmamckaaGSpec
namespace Go.Proofs.Ytkmmphkjmamckaa
open Go
set_option linter.all false

abbrev AllG (l : List Cl) : Prop := ∀ c ∈ l, goodC c = true

theorem good_z : goodC .z = true := rfl

theorem AllG.cg {l : List Cl} (h : AllG l) (i : Nat) : goodC (cg l i) = true := by
  rcases Nat.lt_or_ge i l.length with hi | hi
  · exact h _ (cg_mem hi)
  · rw [cg_out hi]; rfl

theorem AllG.tab {n : Nat} {f : Nat → Cl} (h : ∀ i, i < n → goodC (f i) = true) : AllG (tabC n f) := fun c hc => by
  obtain ⟨i, hi, rfl⟩ := mem_cg hc
  rw [tab_len] at hi
  rw [tab_cg hi]
  exact h i hi

theorem AllG.roll {l : List Cl} (h : AllG l) (w fr to : Nat) (n : Int) : AllG (rollC w fr to n l) := AllG.tab fun i _ => by
  split
  · exact h.cg _
  · split
    · exact h.cg _
    · rfl

theorem AllG.erase {l : List Cl} (h : AllG l) (lo hi : Nat) : AllG (eraseC lo hi l) := AllG.tab fun i _ => by
  split
  · rfl
  · exact h.cg _

theorem AllG.set {l : List Cl} (h : AllG l) {c : Cl} (hc : goodC c = true) (i : Nat) : AllG (l.set i c) := fun x hx => by
  rcases List.mem_or_eq_of_mem_set hx with hx | hx
  · exact h x hx
  · rw [hx]; exact hc

theorem AllG.pic {w h left : Int} : ∀ (s : List UInt8) (r c : Int) (l : List Cl), AllG l → AllG (picC w h left s r c l)
  | [], _, _, _, hl => hl
  | b :: s, r, c, l, hl => by
    unfold picC
    split
    · exact AllG.pic s _ _ _ hl
    · split
      · next hb =>
        refine AllG.pic s _ _ _ (hl.set ?_ _)
        have : (97 : Int) ≤ b.toNat := by omega
        have : (b.toNat : Int) < 105 := by omega
        unfold goodC
        simp only [Bool.and_eq_true, decide_eq_true_eq]
        refine ⟨by omega, ?_⟩
        rw [if_neg (by omega)]
        rfl
      · exact AllG.pic s _ _ _ hl

theorem AllG.repl (n : Nat) : AllG (List.replicate n .z) := fun c hc => by
  rw [(List.mem_replicate.1 hc).2]; rfl

/-- A screen with others of its parts. -/
theorem GoodG.with {g : Gr} (h : GoodG g) {l : List Cl} {r c i t b : Int} {bo : Bool} (hl : l.length = g.cells.length) (hg : AllG l) (hr : 0 ≤ r ∧ r < g.high) (hc : 0 ≤ c ∧ c ≤ g.wide) (hi : 0 ≤ i ∧ i ≤ 8) (ht : 0 ≤ t ∧ t < b ∧ b ≤ g.high) : GoodG ⟨g.wide, g.high, l, r, c, i, bo, t, b⟩ :=
  ⟨h.w1, h.w2, h.h1, h.h2, by show (l.length : Int) = _; rw [hl]; exact h.len, hr.1, hr.2, hc.1, hc.2, hi.1, hi.2, ht.1, ht.2.1, ht.2.2, hg⟩

structure Sides (g x : Gr) : Prop where
  wide : x.wide = g.wide
  high : x.high = g.high

theorem GoodG.cellsWith {g : Gr} (h : GoodG g) {l : List Cl} (hl : l.length = g.cells.length) (hg : AllG l) : GoodG { g with cells := l } :=
  h.with hl hg ⟨h.r1, h.r2⟩ ⟨h.c1, h.c2⟩ ⟨h.i1, h.i2⟩ ⟨h.t1, h.t2, h.b2⟩

theorem GoodG.roll {g : Gr} (h : GoodG g) (a b n : Int) : GoodG (rollG g a b n) := h.cellsWith (rollC_len _ _ _ _ _) (AllG.roll h.all _ _ _ _)

theorem feed_ok' {g : Gr} (h : GoodG g) : GoodG (feedG g) ∧ (feedG g).wide = g.wide ∧ (feedG g).high = g.high ∧ (feedG g).col = g.col ∧ (feedG g).ink = g.ink ∧ (feedG g).bold = g.bold ∧ (feedG g).top = g.top ∧ (feedG g).bottom = g.bottom := by
  unfold feedG
  have := h.r1
  have := h.r2
  split
  · exact ⟨h.roll _ _ _, rfl, rfl, rfl, rfl, rfl, rfl, rfl⟩
  · split
    · exact ⟨h.with rfl h.all (by omega) ⟨h.c1, h.c2⟩ ⟨h.i1, h.i2⟩ ⟨h.t1, h.t2, h.b2⟩, rfl, rfl, rfl, rfl, rfl, rfl, rfl⟩
    · exact ⟨h, rfl, rfl, rfl, rfl, rfl, rfl, rfl⟩

theorem GoodG.col {g : Gr} (h : GoodG g) {c : Int} (hc : 0 ≤ c ∧ c ≤ g.wide) : GoodG { g with col := c } :=
  h.with rfl h.all ⟨h.r1, h.r2⟩ hc ⟨h.i1, h.i2⟩ ⟨h.t1, h.t2, h.b2⟩

theorem show_ok' {g : Gr} (h : GoodG g) {ch : Int} (h0 : 32 ≤ ch) (h1 : ch ≤ 126) : GoodG (showG g ch) ∧ Sides g (showG g ch) := by
  have key : ∀ x : Gr, GoodG x → x.col < x.wide → GoodG { x with cells := x.cells.set (x.row * x.wide + x.col).toNat ⟨ch, x.ink, 0, x.bold⟩, col := x.col + 1 } := fun x hx hc => by
    refine hx.with (List.length_set ..) (AllG.set hx.all ?_ _) ⟨hx.r1, hx.r2⟩ ⟨by have := hx.c1; omega, by omega⟩ ⟨hx.i1, hx.i2⟩ ⟨hx.t1, hx.t2, hx.b2⟩
    unfold goodC
    have := hx.i1
    have := hx.i2
    simp only [Bool.and_eq_true, decide_eq_true_eq, if_true]
    exact ⟨by omega, .inr (by omega)⟩
  unfold showG
  have := h.w1
  split
  · next hc =>
    have f := feed_ok' (h.col (c := 0) (by omega))
    simp only at f
    refine ⟨key _ f.1 (by rw [f.2.2.2.1, f.2.1]; show (0 : Int) < g.wide; omega), f.2.1, f.2.2.1⟩
  · next hc => exact ⟨key g h (by have := h.c2; omega), rfl, rfl⟩

theorem control_ok' {g : Gr} (h : GoodG g) (c : Int) : GoodG (controlG g c) ∧ Sides g (controlG g c) := by
  have := h.w1
  have := h.c1
  have := h.c2
  unfold controlG
  split
  · exact ⟨h.col (by omega), rfl, rfl⟩
  · split
    · exact ⟨h.col (by omega), rfl, rfl⟩
    · split
      · exact ⟨(feed_ok' h).1, (feed_ok' h).2.1, (feed_ok' h).2.2.1⟩
      · split
        · exact ⟨h.col (by omega), rfl, rfl⟩
        · exact ⟨h, rfl, rfl⟩

theorem ink_ok' {g : Gr} (h : GoodG g) (x : Int) : GoodG (inkG g x) ∧ Sides g (inkG g x) := by
  have key : ∀ i b, 0 ≤ i ∧ i ≤ 8 → GoodG { g with ink := i, bold := b } := fun i b hi => h.with rfl h.all ⟨h.r1, h.r2⟩ ⟨h.c1, h.c2⟩ hi ⟨h.t1, h.t2, h.b2⟩
  have := h.i1
  have := h.i2
  unfold inkG
  repeat' split
  all_goals first
    | exact ⟨h, rfl, rfl⟩
    | exact ⟨key _ _ (by omega), rfl, rfl⟩

theorem inks_ok' : ∀ (l : List Int) {g : Gr}, GoodG g → GoodG (l.foldl inkG g) ∧ Sides g (l.foldl inkG g)
  | [], g, h => ⟨h, rfl, rfl⟩
  | x :: l, g, h => by
    have h1 := ink_ok' h x
    have h2 := inks_ok' l h1.1
    exact ⟨h2.1, h2.2.wide.trans h1.2.wide, h2.2.high.trans h1.2.high⟩

theorem erase_ok' {g : Gr} (h : GoodG g) (how a b c : Int) : GoodG (eraseG g how a b c) ∧ Sides g (eraseG g how a b c) := by
  unfold eraseG
  repeat' split
  all_goals first
    | exact ⟨h, rfl, rfl⟩
    | exact ⟨h.cellsWith (eraseC_len _ _ _) (AllG.erase h.all _ _), rfl, rfl⟩

theorem command_ok' {g : Gr} (h : GoodG g) (c : Int) (l : List Int) : GoodG (commandG g c l) ∧ Sides g (commandG g c l) := by
  have hw1 := h.w1
  have hh1 := h.h1
  have hr1 := h.r1
  have hr2 := h.r2
  have hc1 := h.c1
  have hc2 := h.c2
  have hrow : ∀ r : Int, 0 ≤ r ∧ r < g.high → GoodG { g with row := r } := fun r hr => h.with rfl h.all hr ⟨h.c1, h.c2⟩ ⟨h.i1, h.i2⟩ ⟨h.t1, h.t2, h.b2⟩
  have hn : ∀ k, 1 ≤ numP l k 1 := fun k => by unfold numP; omega
  have hn0 := hn 0
  have hn1 := hn 1
  have h01 : 0 ≤ numP l 1 0 := by unfold numP; omega
  unfold commandG
  generalize numP l 0 1 = n at hn0 ⊢
  generalize numP l 1 1 = m at hn1 ⊢
  generalize numP l 1 0 = b at h01 ⊢
  generalize numP l 0 0 = a
  clear hn
  have s : ∀ {x : Gr}, GoodG x → x.wide = g.wide → x.high = g.high → GoodG x ∧ Sides g x := fun h a b => ⟨h, a, b⟩
  dsimp only
  by_cases e1 : c = 65
  · rw [if_pos e1]; exact s (hrow _ (by omega)) rfl rfl
  rw [if_neg e1]
  by_cases e1 : c = 66
  · rw [if_pos e1]; exact s (hrow _ (by omega)) rfl rfl
  rw [if_neg e1]
  by_cases e1 : c = 67
  · rw [if_pos e1]; exact s (h.col (by omega)) rfl rfl
  rw [if_neg e1]
  by_cases e1 : c = 68
  · rw [if_pos e1]; exact s (h.col (by omega)) rfl rfl
  rw [if_neg e1]
  by_cases e1 : c = 72
  · rw [if_pos e1]; exact s (h.with rfl h.all (by omega) (by omega) ⟨h.i1, h.i2⟩ ⟨h.t1, h.t2, h.b2⟩) rfl rfl
  rw [if_neg e1]
  by_cases e1 : c = 74
  · rw [if_pos e1]; exact erase_ok' h _ _ _ _
  rw [if_neg e1]
  by_cases e1 : c = 75
  · rw [if_pos e1]; exact erase_ok' h _ _ _ _
  rw [if_neg e1]
  by_cases e1 : c = 76 ∨ c = 77
  · rw [if_pos e1]
    by_cases e2 : g.row < g.top ∨ g.bottom ≤ g.row
    · rw [if_pos e2]; exact s h rfl rfl
    · rw [if_neg e2]
      exact s ((h.roll _ _ _).col (c := 0) (by show (0:Int) ≤ 0 ∧ (0 : Int) ≤ g.wide; omega)) rfl rfl
  rw [if_neg e1]
  by_cases e1 : c = 109
  · rw [if_pos e1]; exact inks_ok' l h
  rw [if_neg e1]
  by_cases e1 : c = 114
  · rw [if_pos e1]
    unfold regionG
    dsimp only
    have hb : 0 < (if b = 0 ∨ g.high < b then g.high else b) ∧ (if b = 0 ∨ g.high < b then g.high else b) ≤ g.high := by split <;> omega
    generalize (if b = 0 ∨ g.high < b then g.high else b) = b' at hb ⊢
    by_cases e2 : n - 1 < b'
    · rw [if_pos e2]
      exact s (h.with rfl h.all (by omega) (by omega) ⟨h.i1, h.i2⟩ (by omega)) rfl rfl
    · rw [if_neg e2]; exact s h rfl rfl
  rw [if_neg e1]
  exact s h rfl rfl

theorem picture_ok' {g : Gr} (h : GoodG g) (s : List UInt8) : GoodG (pictureG g s) ∧ Sides g (pictureG g s) :=
  ⟨h.cellsWith (picC_len _ _ _ _ _ _ _) (AllG.pic s _ _ _ h.all), rfl, rfl⟩

theorem new_ok' (w h : Int) : GoodG (newG w h) := by
  refine ⟨by show (1 : Int) ≤ max 1 (min w 24); omega, by show max 1 (min w 24) ≤ (24 : Int); omega, by show (1 : Int) ≤ max 1 (min h 10); omega, by show max 1 (min h 10) ≤ (10 : Int); omega, ?_, Int.le_refl _, by show (0 : Int) < max 1 (min h 10); omega, Int.le_refl _, by show (0 : Int) ≤ max 1 (min w 24); omega, Int.le_refl _, by show (0 : Int) ≤ 8; decide, Int.le_refl _, by show (0 : Int) < max 1 (min h 10); omega, Int.le_refl _, AllG.repl _⟩
  show ((List.replicate _ _).length : Int) = _
  rw [List.length_replicate]
  exact Int.toNat_of_nonneg (Int.mul_nonneg (by omega) (by omega))

theorem new_sides {g : Gr} (h : GoodG g) : Sides g (newG g.wide g.high) := by
  have := h.w1
  have := h.w2
  have := h.h1
  have := h.h2
  exact ⟨by show max 1 (min g.wide 24) = g.wide; omega, by show max 1 (min g.high 10) = g.high; omega⟩

theorem do_ok' {g : Gr} (h : GoodG g) (e : Ev) : GoodG (doG g e).1 ∧ Sides g (doG g e).1 := by
  unfold doG
  split
  · exact ⟨h, rfl, rfl⟩
  split
  · split
    · exact ⟨h, rfl, rfl⟩
    · exact show_ok' h (by omega) (by omega)
  split
  · exact control_ok' h _
  split
  · exact command_ok' h _ _
  split
  · exact picture_ok' h _
  split
  · exact ⟨new_ok' _ _, new_sides h⟩
  · exact ⟨h, rfl, rfl⟩

theorem do_err {g : Gr} {e : Ev} (h : (doG g e).2 ≠ 0) : (doG g e).1 = g := by
  unfold doG at h ⊢
  repeat' (split at h)
  all_goals first
    | (exfalso; exact h rfl)
    | (simp only [*, if_true, if_false, Bool.false_eq_true, Bool.true_eq_false])

theorem do_bad {g : Gr} {e : Ev} (h : ¬ GoodG g) : doG g e = (g, 1) := by
  unfold doG
  rw [if_pos (by rw [← Bool.not_eq_true, goodG_iff]; exact h)]

theorem do_good_eq' {g : Gr} (h : GoodG g) (e : Ev) : doG g e = if e.kind = 1 then if e.b < 32 ∨ 126 < e.b then (g, 6) else (showG g e.b, 0)
  else if e.kind = 2 then (controlG g e.b, 0)
  else if e.kind = 3 then (commandG g e.b e.ps, 0)
  else if e.kind = 4 then (pictureG g e.pl.data.toList, 0)
  else if e.kind = 5 then (newG g.wide g.high, 0)
  else (g, 2) := by
  unfold doG
  rw [if_neg (by rw [goodG_iff.2 h]; simp)]

theorem do_zero {g : Gr} {e : Ev} (h : (doG g e).2 = 0) : GoodG g := by
  rw [← goodG_iff]
  cases hg : goodG g with
  | true => rfl
  | false =>
    unfold doG at h
    rw [if_pos hg] at h
    cases h

end Go.Proofs.Ytkmmphkjmamckaa
