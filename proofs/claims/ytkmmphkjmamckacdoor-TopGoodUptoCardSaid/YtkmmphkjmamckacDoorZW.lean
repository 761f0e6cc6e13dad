/-
  Texts that belong together, joined: TopSame, TopView.
-/
import Derived.Test.YtkmmphkjmamckacDoorZM
import Derived.Test.YtkmmphkjmamckacDoorZG
import Derived.Test.YtkmmphkjmamckacDoorZP
import Derived.Test.YtkmmphkjmamckacDoorZVf
/-
  Whether two screens, two views are alike, as the statements of the whole ask.
-/
namespace Go.Proofs.YtkmmphkjmamckacDoor
open Go
set_option linter.all false

theorem sameNumbersT_ok (a_p : Option Addr) (a_n a_c : Nat) (b_p : Option Addr) (b_n b_c : Nat) {u : World} {l m : List Int} (hl : Nums u a_p a_n l) (hm : Nums u b_p b_n m) (hb : a_n ≤ 100000000) :
    Spec Tryd.prog fn_fenestratop_sameNumbers #[.slice a_p a_n a_c, .slice b_p b_n b_c] u fun e u' => e = .returned (.bool (decide (l = m))) ∧ Ext u u' := by
  apply vc_fenestratop_sameNumbers_spec
  unfold vc_fenestratop_sameNumbers
  simp only [Bool.not_eq_true', decide_eq_false_iff_not, Bool.not_eq_false', decide_eq_true_eq]
  refine ⟨fun hne => ⟨by congr; rw [eq_comm, decide_eq_false_iff_not]; rintro rfl; have := hl.2; have := hm.2; omega, Upd.refl _⟩, fun he => ?_⟩
  have hlm : l.length = m.length := by have := hl.2; have := hm.2; omega
  refine ⟨fun x u1 => Ext u u1 ∧ 0 ≤ x ∧ x ≤ a_n ∧ ∀ i : Nat, i < x.toNat → l.getD i 0 = m.getD i 0, fun x _ => (a_n - x).toNat, ⟨Upd.refl _, by omega, by omega, by omega⟩, fun x u1 ⟨hu, h0, h1, hi⟩ => ⟨fun hx => ?_, fun hx => ?_⟩⟩
  · have hu2 : Ext u (drewW u1) := hu.drew
    obtain ⟨b, o, hp, hr⟩ := (hl.ext hu2).at (i := x.toNat) (by omega)
    obtain ⟨b1, o1, hp1, hr1⟩ := (hm.ext hu2).at (i := x.toNat) (by omega)
    refine ⟨b, o, hp, h0, hx, _, rfl, hr, b1, o1, hp1, h0, by omega, _, rfl, hr1, fun hne => ⟨?_, hu2⟩, fun heq => ⟨by simp only [inK]; omega, ⟨hu2, by omega, by omega, fun i hi' => ?_⟩, by first | omega | (dsimp only; omega)⟩⟩
    · congr
      rw [eq_comm, decide_eq_false_iff_not]
      rintro rfl
      exact hne rfl
    · rcases (by omega : i < x.toNat ∨ i = x.toNat) with h | rfl
      · exact hi i h
      · exact heq
  · refine ⟨?_, hu⟩
    congr
    rw [eq_comm, decide_eq_true_eq, nums_eq_iff hlm]
    intro i hi'
    exact hi i (by have := hl.2; omega)

theorem clEq_t (a b : Cl) : (decide (a.ch = b.ch) && (decide (a.ink = b.ink) && (decide (a.pic = b.pic) && (a.bold == b.bold)))) = decide (a = b) := by
  rw [Bool.eq_iff_iff, decide_eq_true_eq, Cl.ext_iff']
  simp only [Bool.and_eq_true, decide_eq_true_eq, beq_iff_eq]

def sameC_t (a b : Gr) : Bool := decide (a.wide = b.wide ∧ a.high = b.high ∧ a.cells = b.cells)

theorem sameCellsT_ok {u : World} {a b : Gr} {p q : Option Addr} (ha : Cells u p a.cells) (hb : Cells u q b.cells) (c d : Nat) (hl : a.cells.length ≤ 100000000) :
    Spec Tryd.prog fn_fenestratop_sameCells #[GrV a p a.cells.length c, GrV b q b.cells.length d] u (Told u (sameC_t a b)) := by
  apply vc_fenestratop_sameCells_spec
  unfold vc_fenestratop_sameCells
  simp only [decide_eq_true_eq, decide_eq_false_iff_not, Bool.not_eq_true', Bool.not_eq_false', true_and]
  have hu : Ext u (allocW (allocW u hole) hole) := ((Upd.refl u).alloc _).alloc _
  have no : ∀ {v : World}, Ext u v → ¬ (a.wide = b.wide ∧ a.high = b.high ∧ a.cells = b.cells) → Told u (sameC_t a b) (.returned (.bool false)) v := fun hv hn => ⟨by unfold sameC_t; rw [decide_eq_false hn], hv⟩
  refine ⟨fun h => no hu fun hh => h hh.1, fun h1 => ⟨fun h => no hu fun hh => h hh.2.1, fun h2 => ⟨fun h => no hu fun hh => h (by rw [hh.2.2]), fun h3 => ?_⟩⟩⟩
  refine ⟨fun x u1 => Ext u u1 ∧ 0 ≤ x ∧ x ≤ a.cells.length ∧ ∀ i : Nat, i < x.toNat → cg a.cells i = cg b.cells i, fun x _ => (a.cells.length - x).toNat, ⟨hu, by omega, by omega, by omega⟩, fun x u1 ⟨hv, h0, hx1, hi⟩ => ⟨fun hx => ?_, fun hx => ?_⟩⟩
  · have hv2 : Ext u (drewW u1) := hv.drew
    obtain ⟨b1, o1, hp1, hr1⟩ := (ha.ext hv2).at (i := x.toNat) (by omega)
    obtain ⟨b2, o2, hp2, hr2⟩ := (hb.ext hv2).at (i := x.toNat) (by omega)
    refine ⟨b1, o1, hp1, h0, hx, _, _, _, _, rfl, hr1, b2, o2, hp2, h0, by omega, _, _, _, _, rfl, hr2, ?_⟩
    rw [clEq_t]
    simp only [decide_eq_true_eq, decide_eq_false_iff_not]
    refine ⟨fun hne => no hv2 fun hh => hne (by rw [hh.2.2]), fun heq => ⟨by simp only [inK]; omega, ⟨hv2, by omega, by omega, fun i hi' => ?_⟩, by first | omega | (dsimp only; omega)⟩⟩
    rcases (by omega : i < x.toNat ∨ i = x.toNat) with h | rfl
    · exact hi i h
    · exact heq
  · refine ⟨?_, hv⟩
    unfold sameC_t
    rw [decide_eq_true]
    exact ⟨h1, h2, cg_ext (by omega) fun i hi' => hi i (by omega)⟩

def sameGt (a b : Gr) : Bool := decide (a.wide = b.wide ∧ a.high = b.high ∧ a.cells = b.cells ∧ a.row = b.row ∧ a.col = b.col ∧ a.ink = b.ink ∧ a.bold = b.bold ∧ a.top = b.top ∧ a.bottom = b.bottom)

theorem sameGt_iff {a b : Gr} : sameGt a b = true ↔ a = b := by
  unfold sameGt
  rw [decide_eq_true_eq]
  cases a; cases b
  simp only [Gr.mk.injEq]

theorem sameGridT_ok {u : World} {a b : Gr} {p q : Option Addr} (ha : Cells u p a.cells) (hb : Cells u q b.cells) (c d : Nat) (hl : a.cells.length ≤ 100000000) :
    Spec Tryd.prog fn_fenestratop_sameGrid #[GrV a p a.cells.length c, GrV b q b.cells.length d] u (Told u (sameGt a b)) := by
  apply vc_fenestratop_sameGrid_spec
  unfold vc_fenestratop_sameGrid
  simp only [decide_eq_true_eq, decide_eq_false_iff_not, beq_iff_eq, beq_eq_false_iff_ne, ne_eq]
  have hu : Ext u (allocW (allocW u hole) hole) := ((Upd.refl u).alloc _).alloc _
  refine (sameCellsT_ok (ha.ext hu) (hb.ext hu) c d hl).mono fun e u1 ⟨he, hu1⟩ => ⟨_, he, ?_⟩
  have x := hu.ext hu1
  have no : ¬ (a.wide = b.wide ∧ a.high = b.high ∧ a.cells = b.cells ∧ a.row = b.row ∧ a.col = b.col ∧ a.ink = b.ink ∧ a.bold = b.bold ∧ a.top = b.top ∧ a.bottom = b.bottom) → Told u (sameGt a b) (.returned (.bool false)) u1 := fun hn => ⟨by unfold sameGt; rw [decide_eq_false hn], x⟩
  refine ⟨fun hs => ⟨fun h1 => ⟨fun h2 => ⟨fun h3 => ⟨fun h4 => ⟨fun h5 => ?_, fun hn => no fun h => hn h.2.2.2.2.2.2.2.1⟩, fun hn => no fun h => hn h.2.2.2.2.2.2.1⟩, fun hn => no fun h => hn h.2.2.2.2.2.1⟩, fun hn => no fun h => hn h.2.2.2.2.1⟩, fun hn => no fun h => hn h.2.2.2.1⟩, fun hn => no fun h => ?_⟩
  · unfold sameC_t at hs
    rw [decide_eq_true_eq] at hs
    refine ⟨?_, x⟩
    congr 2
    unfold sameGt
    exact decide_eq_decide.2 ⟨fun h => ⟨hs.1, hs.2.1, hs.2.2, h1, h2, h3, h4, h5, h⟩, fun h => h.2.2.2.2.2.2.2.2⟩
  · unfold sameC_t at hn
    rw [decide_eq_false_iff_not] at hn
    exact hn ⟨h.1, h.2.1, h.2.2.1⟩

end Go.Proofs.YtkmmphkjmamckacDoor

/-
  Whether two views are alike, as the statements of the whole ask: alike ones are.
-/
namespace Go.Proofs.YtkmmphkjmamckacDoor
open Go
set_option linter.all false

theorem sameViewT_ok {u : World} {a b : List Value} {v w : Vw} (ha : VwM u a v) (hb : VwM u b w) (h1 : v.cols = w.cols) (h2 : v.wide = w.wide) (h3 : v.high = w.high) (h4 : v.focus = w.focus) (h5 : ∀ i : Nat, i < 6 → v.grids.getD i .zero = w.grids.getD i .zero) :
    Spec Tryd.prog fn_fenestratop_sameView #[.agg a.toArray, .agg b.toArray] u (Told u true) := by
  apply vc_fenestratop_sameView_spec
  unfold vc_fenestratop_sameView
  simp only [decide_eq_true_eq, decide_eq_false_iff_not, true_and, Bool.not_eq_true', Bool.not_eq_false']
  have hu : Ext u (allocW (allocW u hole) hole) := ((Upd.refl u).alloc _).alloc _
  obtain ⟨pa, ca, a0, aT⟩ := ha.cols
  obtain ⟨pb, cb, b0, bT⟩ := hb.cols
  rw [← h1] at b0 bT
  have few := ha.few
  have hn := few.n
  refine ⟨pa, _, ca, a0, pb, _, cb, b0, fun hne => (hne rfl).elim, fun _ => ⟨_, ha.wide, _, hb.wide, fun hne => (hne h2).elim, fun _ => ⟨_, ha.high, _, hb.high, fun hne => (hne h3).elim, fun _ => ⟨_, ha.focus, _, hb.focus, fun hne => (hne h4).elim, fun _ => ⟨pa, _, ca, a0, ?_⟩⟩⟩⟩⟩
  refine ⟨fun x z => Ext u z ∧ 0 ≤ x ∧ x ≤ v.cols.length, fun x _ => (v.cols.length - x).toNat, ⟨hu, Int.le_refl _, by omega⟩, ?_⟩
  rintro x z ⟨hz, x0, x1⟩
  refine ⟨fun hx => ?_, fun hx => ?_⟩
  · have hd : Ext u (drewW z) := hz.drew
    obtain ⟨b1, o1, q1, c1, hp1, hr1, hn1⟩ := (aT.ext hd).at (i := x.toNat) (by omega)
    obtain ⟨b2, o2, q2, c2, hp2, hr2, hn2⟩ := (bT.ext hd).at (i := x.toNat) (by omega)
    have hcl := few.getD x.toNat
    refine ⟨pa, _, ca, a0, b1, o1, hp1, x0, hx, _, _, _, rfl, hr1, pb, _, cb, b0, b2, o2, hp2, x0, hx, _, _, _, rfl, hr2, ?_⟩
    refine (sameNumbersT_ok q1 _ c1 q2 _ c2 hn1 hn2 (by omega)).mono fun e w1 ⟨he, hw1⟩ => ⟨_, he, fun hf => (by simp at hf), fun _ => ⟨by simp only [inK]; omega, ⟨hd.ext hw1, by omega, by omega⟩, by first | omega | (dsimp only; omega)⟩⟩
  · refine ⟨fun y z2 => Ext u z2 ∧ 0 ≤ y ∧ y ≤ 6, fun y _ => (6 - y).toNat, ⟨hz, by omega, by omega⟩, ?_⟩
    rintro y z2 ⟨hz2, y0, y6⟩
    refine ⟨fun hy => ?_, fun hy => ⟨rfl, hz2⟩⟩
    have hd : Ext u (drewW z2) := hz2.drew
    obtain ⟨ga, gca, g1, g2, g3, _⟩ := ha.grid y.toNat (by omega)
    obtain ⟨gb, gcb, k1, k2, k3, _⟩ := hb.grid y.toNat (by omega)
    rw [← h5 y.toNat (by omega)] at k1 k2
    refine ⟨y0, hy, _, _, _, _, _, _, _, _, _, _, _, g1, y0, hy, _, _, _, _, _, _, _, _, _, _, _, k1, ?_⟩
    refine (sameGridT_ok (g2.ext hd) (k2.ext hd) gca gcb (by omega)).mono fun e w1 ⟨he, hw1⟩ => ⟨_, he, fun hf => (by rw [sameGt_iff.2 rfl] at hf; cases hf), fun _ => ⟨by simp only [inK]; omega, ⟨hd.ext hw1, by omega, by omega⟩, by first | omega | (dsimp only; omega)⟩⟩

end Go.Proofs.YtkmmphkjmamckacDoor

