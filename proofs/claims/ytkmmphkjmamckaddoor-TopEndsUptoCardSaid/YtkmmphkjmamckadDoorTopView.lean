/-
  Whether two views are alike, as the statements of the whole ask: alike ones are.
-/
import Derived.Test.YtkmmphkjmamckadDoorTopSame
import Derived.Test.YtkmmphkjmamckadDoorZM
namespace Go.Proofs.YtkmmphkjmamckadDoor
open Go
set_option linter.all false

theorem sameViewT_ok {u : World} {a b : List Value} {v w : Vw} (ha : VwM u a v) (hb : VwM u b w) (h1 : v.cols = w.cols) (h2 : v.wide = w.wide) (h3 : v.high = w.high) (h4 : v.focus = w.focus) (h5 : ∀ i : Nat, i < 6 → v.grids.getD i .zero = w.grids.getD i .zero) :
    Spec Tryd.prog fn_fenestratop_sameView #[.agg a.toArray, .agg b.toArray] u (Told u true) := by
  apply vc_fenestratop_sameView_spec
  unfold vc_fenestratop_sameView
  simp only [decide_eq_true_eq, decide_eq_false_iff_not, true_and, Bool.not_eq_true', Bool.not_eq_false']
  have hu : Ext u (allocW (allocW u hole) hole) := ((Upd.refl u).alloc _).alloc _
  obtain ⟨pa, ca, a0, aT⟩ := ha.cols
  obtain ⟨pb, cb, b0, bT⟩ := hb.cols
  rw [← h1] at b0 bT
  have few := ha.few
  have hn := few.n
  refine ⟨pa, _, ca, a0, pb, _, cb, b0, fun hne => (hne rfl).elim, fun _ => ⟨_, ha.wide, _, hb.wide, fun hne => (hne h2).elim, fun _ => ⟨_, ha.high, _, hb.high, fun hne => (hne h3).elim, fun _ => ⟨_, ha.focus, _, hb.focus, fun hne => (hne h4).elim, fun _ => ⟨pa, _, ca, a0, ?_⟩⟩⟩⟩⟩
  refine ⟨fun x z => Ext u z ∧ 0 ≤ x ∧ x ≤ v.cols.length, fun x _ => (v.cols.length - x).toNat, ⟨hu, Int.le_refl _, by omega⟩, ?_⟩
  rintro x z ⟨hz, x0, x1⟩
  refine ⟨fun hx => ?_, fun hx => ?_⟩
  · have hd : Ext u (drewW z) := hz.drew
    obtain ⟨b1, o1, q1, c1, hp1, hr1, hn1⟩ := (aT.ext hd).at (i := x.toNat) (by omega)
    obtain ⟨b2, o2, q2, c2, hp2, hr2, hn2⟩ := (bT.ext hd).at (i := x.toNat) (by omega)
    have hcl := few.getD x.toNat
    refine ⟨pa, _, ca, a0, b1, o1, hp1, x0, hx, _, _, _, rfl, hr1, pb, _, cb, b0, b2, o2, hp2, x0, hx, _, _, _, rfl, hr2, ?_⟩
    refine (sameNumbersT_ok q1 _ c1 q2 _ c2 hn1 hn2 (by omega)).mono fun e w1 ⟨he, hw1⟩ => ⟨_, he, fun hf => (by simp at hf), fun _ => ⟨by simp only [inK]; omega, ⟨hd.ext hw1, by omega, by omega⟩, by first | omega | (dsimp only; omega)⟩⟩
  · refine ⟨fun y z2 => Ext u z2 ∧ 0 ≤ y ∧ y ≤ 6, fun y _ => (6 - y).toNat, ⟨hz, by omega, by omega⟩, ?_⟩
    rintro y z2 ⟨hz2, y0, y6⟩
    refine ⟨fun hy => ?_, fun hy => ⟨rfl, hz2⟩⟩
    have hd : Ext u (drewW z2) := hz2.drew
    obtain ⟨ga, gca, g1, g2, g3, _⟩ := ha.grid y.toNat (by omega)
    obtain ⟨gb, gcb, k1, k2, k3, _⟩ := hb.grid y.toNat (by omega)
    rw [← h5 y.toNat (by omega)] at k1 k2
    refine ⟨y0, hy, _, _, _, _, _, _, _, _, _, _, _, g1, y0, hy, _, _, _, _, _, _, _, _, _, _, _, k1, ?_⟩
    refine (sameGridT_ok (g2.ext hd) (k2.ext hd) gca gcb (by omega)).mono fun e w1 ⟨he, hw1⟩ => ⟨_, he, fun hf => (by rw [sameGt_iff.2 rfl] at hf; cases hf), fun _ => ⟨by simp only [inK]; omega, ⟨hd.ext hw1, by omega, by omega⟩, by first | omega | (dsimp only; omega)⟩⟩

end Go.Proofs.YtkmmphkjmamckadDoor
