/-
  Bytes that turn one screen into another, plainly: they do, and they are not too many.
-/
import Derived.Test.YtkmmphkjmamckacDoorDSpec
namespace Go.Proofs.YtkmmphkjmamckacDoor
open Go
set_option linter.all false

theorem goodC_cases {k : Cl} (h : goodC k = true) : (0 < k.pic ∧ k.pic ≤ 8 ∧ k = ⟨0, 0, k.pic, false⟩) ∨ (k.pic = 0 ∧ k.ch = 0 ∧ k = .z) ∨ (k.pic = 0 ∧ k.ch ≠ 0 ∧ 32 ≤ k.ch ∧ k.ch ≤ 126 ∧ 0 ≤ k.ink ∧ k.ink ≤ 8 ∧ k = ⟨k.ch, k.ink, 0, k.bold⟩) := by
  unfold goodC at h
  rw [Bool.and_eq_true, decide_eq_true_eq] at h
  obtain ⟨h1, h2⟩ := h
  obtain ⟨ch, ink, pic, bold⟩ := k
  simp only at h1 h2 ⊢
  by_cases hp : pic = 0
  · rw [if_pos hp, decide_eq_true_eq] at h2
    subst hp
    rcases h2 with ⟨rfl, rfl, rfl⟩ | h2
    · exact .inr (.inl ⟨rfl, rfl, rfl⟩)
    · exact .inr (.inr ⟨rfl, by omega, by omega, by omega, h1.2.2.1, h1.2.2.2, rfl⟩)
  · rw [if_neg hp, decide_eq_true_eq] at h2
    obtain ⟨rfl, rfl, rfl⟩ := h2
    exact .inl ⟨by omega, h1.2.1, rfl⟩

/-- What drawing one cell does. -/
structure CellPost (g : Gr) (out : Bs) (r c : Nat) (k : Cl) (x : Gr × Bs) : Prop where
  good : GoodG x.1
  wide : x.1.wide = g.wide
  high : x.1.high = g.high
  bytes : ∃ s, x.2 = out ++ s ∧ Runs g s x.1 ∧ (g.row = r → g.col = c → s.length ≤ 10) ∧ (s.length ≤ 13 ∨ (s.length ≤ 18 ∧ x.1.row = r ∧ x.1.col = c + 1))
  here : cg x.1.cells (r * g.wide.toNat + c) = k
  left : ∀ j, j < r * g.wide.toNat + c → cg x.1.cells j = cg g.cells j

theorem cells_len {g : Gr} (h : GoodG g) : g.cells.length = g.high.toNat * g.wide.toNat := by
  have hl := h.len
  have := h.w1
  have := h.h1
  obtain ⟨w, hw⟩ : ∃ w : Nat, g.wide = w := ⟨g.wide.toNat, by omega⟩
  obtain ⟨k, hk⟩ : ∃ k : Nat, g.high = k := ⟨g.high.toNat, by omega⟩
  rw [hw, hk] at hl ⊢
  simp only [Int.toNat_natCast]
  rw [Nat.mul_comm]
  exact_mod_cast hl

theorem place_nat {g : Gr} (h : GoodG g) (r c : Nat) : ((r : Int) * g.wide + c).toNat = r * g.wide.toNat + c := by
  have := h.w1
  obtain ⟨w, hw⟩ : ∃ w : Nat, g.wide = w := ⟨g.wide.toNat, by omega⟩
  rw [hw]
  simp only [Int.toNat_natCast]
  have e : (r : Int) * w + c = ((r * w + c : Nat) : Int) := by simp
  rw [e, Int.toNat_natCast]

theorem cell_law {g : Gr} {out : Bs} (hg : GoodG g) {r c : Nat} (hr : (r : Int) < g.high) (hc : (c : Int) < g.wide) {k : Cl} (hk : goodC k = true) : CellPost g out r c k (cellD (g, out) r c k) := by
  obtain ⟨s, he, hrun, hs, hs0⟩ := moveD_eq (out := out) hg (r := r) (c := c) ⟨by omega, hr⟩ ⟨by omega, hc⟩
  have hg1 : GoodG { g with row := (r : Int), col := (c : Int) } := hg.with rfl hg.all ⟨by omega, hr⟩ ⟨by omega, by omega⟩ ⟨hg.i1, hg.i2⟩ ⟨hg.t1, hg.t2, hg.b2⟩
  have hp := place_nat hg r c
  have hlen := cells_len hg
  have hin : r * g.wide.toNat + c < g.cells.length := by
    rw [hlen]
    exact row_lt (by omega) (by omega)
  have hmv : (g.row = r ∧ g.col = c ∧ s.length = 0) ∨ s.length ≤ 8 := .inr hs
  have hmv2 : g.row = r → g.col = c → s.length = 0 := fun h1 h2 => by rw [hs0 h1 h2]; rfl
  unfold cellD
  simp only [he]
  rcases goodC_cases hk with ⟨h1, h2, h3⟩ | ⟨h1, h2, h3⟩ | ⟨h1, h2, h3, h4, h5, h6, h7⟩
  · rw [if_pos h1]
    have hrun2 := pic_runs hg1 hc h1 h2
    simp only [hp] at hrun2
    rw [wrD_eq hrun2]
    refine ⟨?_, rfl, rfl, ⟨s ++ picBytes k, by simp, hrun.append hrun2, fun h1 h2 => by have := hmv2 h1 h2; simp [picBytes]; omega, .inl (by simp [picBytes]; omega)⟩, ?_, ?_⟩
    · refine hg1.cellsWith (List.length_set ..) (AllG.set hg1.all ?_ _)
      rw [← h3]; exact hk
    · show cg (g.cells.set _ _) _ = k
      rw [cg_set hin, if_pos rfl, ← h3]
    · intro j hj
      show cg (g.cells.set _ _) _ = _
      rw [cg_set hin, if_neg (by omega)]
  · rw [if_neg (by omega), if_pos h2]
    have hrun2 := blank_runs hg1 hc
    simp only [hp] at hrun2
    have hp2 : (((r : Int) + 1) * g.wide).toNat = (r + 1) * g.wide.toNat := by
      have := place_nat hg (r + 1) 0
      simp only [Nat.add_zero] at this
      rw [← this]
      congr 1
      push_cast
      omega
    rw [hp2] at hrun2
    rw [wrD_eq hrun2]
    refine ⟨?_, rfl, rfl, ⟨s ++ [27, 91, 75], by simp, hrun.append hrun2, fun h1 h2 => by have := hmv2 h1 h2; simp; omega, .inl (by simp; omega)⟩, ?_, ?_⟩
    · exact hg1.cellsWith (eraseC_len _ _ _) (AllG.erase hg1.all _ _)
    · show cg (eraseC _ _ g.cells) _ = k
      rw [erase_cg hin, if_pos ⟨Nat.le_refl _, by rw [Nat.add_mul]; omega⟩, h3]
    · intro j hj
      show cg (eraseC _ _ g.cells) _ = _
      rw [erase_cg (by omega), if_neg (by omega)]
  · rw [if_neg (by omega), if_neg h2]
    obtain ⟨s2, he2, hrun2, hs2⟩ := inkD_eq (out := out ++ s) hg1 h5 h6
    rw [he2]
    have hg2 : GoodG { g with row := (r : Int), col := (c : Int), ink := k.ink, bold := k.bold } := hg.with rfl hg.all ⟨by omega, hr⟩ ⟨by omega, by omega⟩ ⟨h5, h6⟩ ⟨hg.t1, hg.t2, hg.b2⟩
    have hrun3 := show_runs hg2 hc h3 h4
    simp only [hp] at hrun3
    rw [wrD_eq hrun3]
    refine ⟨?_, rfl, rfl, ⟨s ++ s2 ++ [byteN k.ch], by simp, (hrun.append hrun2).append hrun3, ?_⟩, ?_, ?_⟩
    · refine hg2.with (List.length_set ..) (AllG.set hg2.all ?_ _) ⟨by show (0 : Int) ≤ r; omega, hr⟩ ⟨by show (0 : Int) ≤ c + 1; omega, by show (c : Int) + 1 ≤ g.wide; omega⟩ ⟨h5, h6⟩ ⟨hg.t1, hg.t2, hg.b2⟩
      rw [← h7]; exact hk
    · simp only [List.length_append, List.length_cons, List.length_nil]
      exact ⟨fun h1 h2 => by have := hmv2 h1 h2; omega, .inr ⟨by omega, by first | trivial | rfl, by first | trivial | rfl⟩⟩
    · show cg (g.cells.set _ _) _ = k
      rw [cg_set hin, if_pos rfl, ← h7]
    · intro j hj
      show cg (g.cells.set _ _) _ = _
      rw [cg_set hin, if_neg (by omega)]

/-- The bytes so far, twice: per row, and per cell of the row that is drawn. -/
def boundD (w r c : Nat) (g : Gr) : Nat := r * (31 * w + 5) + 31 * c + if 0 < c ∧ g.row = r ∧ g.col = c then 5 else 0

structure TurnI (frm to : Gr) (w r c : Nat) (x : Gr × Bs) : Prop where
  good : GoodG x.1
  wide : x.1.wide = frm.wide
  high : x.1.high = frm.high
  runs : Runs frm x.2 x.1
  done : ∀ j, j < r * w + c → cg x.1.cells j = cg to.cells j
  few : 2 * x.2.length ≤ boundD w r c x.1

theorem turn_step {frm to : Gr} (h : mayTurn frm to) {r c : Nat} {x : Gr × Bs} (hr : (r : Int) < to.high) (hc : (c : Int) < to.wide) (hx : TurnI frm to to.wide.toNat r c x) :
    if c + 1 < to.wide.toNat then TurnI frm to to.wide.toNat r (c + 1) (turnCell to x (r * to.wide.toNat + c)) else TurnI frm to to.wide.toNat (r + 1) 0 (turnCell to x (r * to.wide.toNat + c)) := by
  obtain ⟨hgf, hgt, hw, hh, hcol⟩ := h
  obtain ⟨g, out⟩ := x
  have hcw : c < to.wide.toNat := by omega
  have hgw : g.wide = to.wide := hx.wide.trans hw
  have hgh : g.high = to.high := hx.high.trans hh
  have hlen := cells_len hgt
  have hin : r * to.wide.toNat + c < to.cells.length := by
    rw [hlen]
    exact row_lt hcw (by omega)
  -- what holds behind the cell, whichever way
  have key : ∃ y, turnCell to (g, out) (r * to.wide.toNat + c) = y ∧ GoodG y.1 ∧ y.1.wide = frm.wide ∧ y.1.high = frm.high ∧ Runs frm y.2 y.1 ∧ (∀ j, j < r * to.wide.toNat + (c + 1) → cg y.1.cells j = cg to.cells j) ∧
      (2 * y.2.length ≤ r * (31 * to.wide.toNat + 5) + 31 * (c + 1) ∨ (2 * y.2.length ≤ r * (31 * to.wide.toNat + 5) + 31 * (c + 1) + 5 ∧ y.1.row = r ∧ y.1.col = (c + 1 : Nat))) := by
    have hfew := hx.few
    unfold boundD at hfew
    simp only at hfew
    unfold turnCell
    split
    · next he =>
      refine ⟨_, rfl, hx.good, hx.wide, hx.high, hx.runs, fun j hj => ?_, .inl ?_⟩
      · rcases (by omega : j < r * to.wide.toNat + c ∨ j = r * to.wide.toNat + c) with h | rfl
        · exact hx.done j h
        · exact he
      · simp only
        split at hfew <;> omega
    · rw [row_div hcw, row_mod hcw]
      have hp := cell_law (out := out) hx.good (r := r) (c := c) (by rw [hgh]; exact hr) (by rw [hgw]; exact hc) (AllG.cg hgt.all (r * to.wide.toNat + c))
      generalize cellD (g, out) (r : Int) (c : Int) (cg to.cells (r * to.wide.toNat + c)) = y at hp
      obtain ⟨p1, p2, p3, ⟨s, p4, p5, p6, p6'⟩, p7, p8⟩ := hp
      rw [hgw] at p7 p8
      refine ⟨_, rfl, p1, p2.trans hx.wide, p3.trans hx.high, by rw [p4]; exact hx.runs.append p5, fun j hj => ?_, ?_⟩
      · rcases (by omega : j < r * to.wide.toNat + c ∨ j = r * to.wide.toNat + c) with h | rfl
        · rw [p8 j h]; exact hx.done j h
        · exact p7
      · rw [p4, List.length_append]
        by_cases hat : g.row = r ∧ g.col = c
        · have := p6 hat.1 hat.2
          left; split at hfew <;> omega
        · rw [if_neg (by omega)] at hfew
          rcases p6' with h | ⟨h, h1, h2⟩
          · left; omega
          · right; exact ⟨by omega, h1, by rw [h2]; omega⟩
  obtain ⟨y, hy, k1, k2, k3, k4, k5, k6⟩ := key
  rw [hy]
  split
  · refine ⟨k1, k2, k3, k4, k5, ?_⟩
    unfold boundD
    rcases k6 with h | ⟨h, h1, h2⟩
    · split <;> omega
    · rw [if_pos ⟨by omega, h1, h2⟩]; exact h
  · refine ⟨k1, k2, k3, k4, fun j hj => k5 j ?_, ?_⟩
    · rw [Nat.add_mul] at hj; omega
    · unfold boundD
      rw [if_neg (by omega), Nat.add_mul]
      have : c + 1 = to.wide.toNat := by omega
      rw [this] at k6
      rcases k6 with h | ⟨h, _⟩ <;> omega

theorem turn_rows {frm to : Gr} (h : mayTurn frm to) : ∀ n r c : Nat, n = r * to.wide.toNat + c → c < to.wide.toNat → n ≤ to.wide.toNat * to.high.toNat → TurnI frm to to.wide.toNat r c (turnCells to (frm, []) n)
  | 0, r, c, hn, hc, _ => by
    have hw : 0 < to.wide.toNat := by omega
    have hr : r = 0 := by
      rcases Nat.eq_zero_or_pos r with h | h
      · exact h
      · have := Nat.mul_pos h hw; omega
    subst hr
    have hc0 : c = 0 := by omega
    subst hc0
    exact ⟨h.1, rfl, rfl, Runs.nil _, fun j hj => by omega, by simp [turnCells]⟩
  | n + 1, r, c, hn, hc, hle => by
    have hw : 0 < to.wide.toNat := by omega
    have hmul : ∀ q s, n = q * to.wide.toNat + s → s < to.wide.toNat → (q : Int) < to.high := fun q s e hs => by
      have h1 : q * to.wide.toNat < to.high.toNat * to.wide.toNat := by rw [Nat.mul_comm to.high.toNat]; omega
      have := Nat.lt_of_mul_lt_mul_right h1
      omega
    rcases Nat.eq_zero_or_pos c with h0 | h0
    · subst h0
      cases r with
      | zero => omega
      | succ r =>
        rw [Nat.add_mul] at hn
        have ih := turn_rows h n r (to.wide.toNat - 1) (by omega) (by omega) (by omega)
        have st := turn_step h (r := r) (c := to.wide.toNat - 1) (hmul r (to.wide.toNat - 1) (by omega) (by omega)) (by omega) ih
        rw [if_neg (by omega)] at st
        rw [turnCells, show n = r * to.wide.toNat + (to.wide.toNat - 1) by omega]
        rwa [show n = r * to.wide.toNat + (to.wide.toNat - 1) by omega] at st
    · have ih := turn_rows h n r (c - 1) (by omega) (by omega) (by omega)
      have st := turn_step h (r := r) (c := c - 1) (hmul r (c - 1) (by omega) (by omega)) (by omega) ih
      rw [if_pos (by omega), show c - 1 + 1 = c by omega] at st
      rw [turnCells]
      have e : n = r * to.wide.toNat + (c - 1) := by omega
      rwa [← e] at st

structure TurnPost (frm to : Gr) (x : Gr × Bs) : Prop where
  good : GoodG x.1
  wide : x.1.wide = to.wide
  high : x.1.high = to.high
  runs : Runs frm x.2 x.1
  cells : x.1.cells = to.cells
  row : x.1.row = to.row
  col : x.1.col = to.col
  few : x.2.length ≤ 3900

/-- The bytes make the screen that is wanted. -/
theorem turn_law {frm to : Gr} (h : mayTurn frm to) : TurnPost frm to (turnD frm to) := by
  have hw1 := h.2.1.w1
  have hw2 := h.2.1.w2
  have hh1 := h.2.1.h1
  have hh2 := h.2.1.h2
  have hI := turn_rows h (to.wide.toNat * to.high.toNat) to.high.toNat 0 (by rw [Nat.mul_comm]; omega) (by omega) (Nat.le_refl _)
  unfold turnD
  generalize turnCells to (frm, []) (to.wide.toNat * to.high.toNat) = x at hI
  obtain ⟨g, out⟩ := x
  obtain ⟨i1, i2, i3, i4, i5, i6⟩ := hI
  simp only at i1 i2 i3 i4 i5 i6
  have hgw : g.wide = to.wide := i2.trans h.2.2.1
  have hgh : g.high = to.high := i3.trans h.2.2.2.1
  have hr := h.2.1.r1
  have hr2 := h.2.1.r2
  have hc := h.2.1.c1
  have hc2 := h.2.2.2.2
  obtain ⟨s, e1, e2, e3, _⟩ := moveD_eq (out := out) i1 (r := to.row) (c := to.col) ⟨hr, by omega⟩ ⟨hc, by omega⟩
  rw [e1]
  have hl1 := cells_len i1
  have hl2 := cells_len h.2.1
  refine ⟨i1.with rfl i1.all ⟨hr, by omega⟩ ⟨hc, by omega⟩ ⟨i1.i1, i1.i2⟩ ⟨i1.t1, i1.t2, i1.b2⟩, hgw, hgh, i4.append e2, ?_, rfl, rfl, ?_⟩
  · refine cg_ext (by show g.cells.length = _; rw [hl1, hl2, hgw, hgh]) fun j hj => i5 j ?_
    have : g.cells.length = to.high.toNat * to.wide.toNat := by rw [hl1, hgw, hgh]
    show j < _
    have hj' : j < g.cells.length := hj
    omega
  · rw [List.length_append]
    unfold boundD at i6
    simp only [Nat.lt_irrefl, false_and, if_false] at i6
    have := Nat.mul_le_mul (show to.high.toNat ≤ 10 by omega) (show 31 * to.wide.toNat + 5 ≤ 749 by omega)
    omega

/-- Nothing is to be done where nothing is other. -/
theorem turn_same {g : Gr} (hw : 0 < g.wide) : turnD g g = (g, []) := by
  have : ∀ n, turnCells g (g, []) n = (g, []) := fun n => by
    induction n with
    | zero => rfl
    | succ n ih => rw [turnCells, ih]; unfold turnCell; rw [if_pos rfl]
  unfold turnD
  rw [this]
  unfold moveD
  rw [if_neg (by simp)]

/-- Anew: whatever was shown. -/
theorem anew_law {frm to : Gr} (hf : GoodG frm) (h : GoodG to) (hc : to.col < to.wide) (hw : frm.wide = to.wide) (hh : frm.high = to.high) :
    Runs frm ([27, 99] ++ (turnD (newG to.wide to.high) to).2) (turnD (newG to.wide to.high) to).1 ∧ TurnPost (newG to.wide to.high) to (turnD (newG to.wide to.high) to) := by
  have hs := new_sides h
  have hm : mayTurn (newG to.wide to.high) to := ⟨new_ok' _ _, h, hs.wide, hs.high, hc⟩
  have hp := turn_law hm
  refine ⟨Runs.append ?_ hp.runs, hp⟩
  have hd : doG frm ⟨5, 0, [], noBytes⟩ = (newG to.wide to.high, 0) := by
    rw [do_good_eq hf]
    dsimp only
    rw [if_neg (by omega), if_neg (by omega), if_neg (by omega), if_neg (by omega), if_pos rfl, hw, hh]
  have := Runs.one (s := [27, 99]) hf (e := ⟨5, 0, [], noBytes⟩) (by rfl) (by rw [hd])
  rwa [hd] at this

end Go.Proofs.YtkmmphkjmamckacDoor
