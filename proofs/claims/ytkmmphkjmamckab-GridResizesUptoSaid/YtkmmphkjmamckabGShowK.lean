/-
  Whether a screen answers at all; whether two show the same.
-/
import Derived.Test.YtkmmphkjmamckabGWalk5
import Derived.Test.YtkmmphkjmamckabZP
import Derived.Test.YtkmmphkjmamckabVKeepG
namespace Go.Proofs.Ytkmmphkjmamckab
open Go
set_option linter.all false

theorem clEq_k (a b : Cl) : (decide (a.ch = b.ch) && (decide (a.ink = b.ink) && (decide (a.pic = b.pic) && (a.bold == b.bold)))) = decide (a = b) := by
  rw [Bool.eq_iff_iff, decide_eq_true_eq, Cl.ext_iff']
  simp only [Bool.and_eq_true, decide_eq_true_eq, beq_iff_eq]

theorem shows_ok_k {u : World} : Spec Try.prog fn_fenestrakeep_shows #[] u (Told u true) := by
  apply vc_fenestrakeep_shows_spec
  unfold vc_fenestrakeep_shows
  refine (gnew_ok 3 2).mono fun e u1 ⟨⟨b, he, hco, hb⟩, hu1⟩ => ⟨_, _, _, _, _, _, _, _, _, _, _, he, ?_⟩
  have hev : Nums u1 none 0 (⟨1, 120, [], noBytes⟩ : Ev).ps := ⟨rfl, rfl⟩
  refine (gdo_ok (g := newG 3 2) hco.cells _ (by show 6 ≤ _; decide) ⟨1, 120, [], noBytes⟩ (ec := 0) hev (by decide) (by decide)).mono fun e u2 ⟨⟨p', c', he, hc, _, _⟩, hu2⟩ => ?_
  have hd : doG (newG 3 2) ⟨1, 120, [], noBytes⟩ = (⟨3, 2, [⟨120, 0, 0, false⟩, .z, .z, .z, .z, .z], 0, 1, 0, false, 0, 2⟩, 0) := by rfl
  rw [hd] at he hc
  have hh : Ext u2 (allocW u2 hole) := (Upd.refl _).alloc _
  have hx : Ext u (allocW u2 hole) := (hu1.ext hu2).ext hh
  obtain ⟨b', o', hp, hr⟩ := (hc.ext hh).at (i := 0) (by decide)
  refine ⟨_, _, _, _, _, _, _, _, _, _, _, _, he, fun _ => ⟨fun _ => ⟨b', o', hp, by decide, by decide, _, _, _, _, rfl, hr, fun _ => ⟨rfl, hx⟩, fun h => by simp [cg] at h⟩, fun h => by simp at h⟩, fun h => by simp at h⟩

def sameC_k (a b : Gr) : Bool := decide (a.wide = b.wide ∧ a.high = b.high ∧ a.cells = b.cells)

theorem sameCells_ok_k {u : World} {a b : Gr} {p q : Option Addr} (ha : Cells u p a.cells) (hb : Cells u q b.cells) (c d : Nat) (hl : a.cells.length ≤ 100000000) :
    Spec Try.prog fn_fenestrakeep_sameCells #[GrV a p a.cells.length c, GrV b q b.cells.length d] u (Told u (sameC_k a b)) := by
  apply vc_fenestrakeep_sameCells_spec
  unfold vc_fenestrakeep_sameCells
  simp only [decide_eq_true_eq, decide_eq_false_iff_not, Bool.not_eq_true', Bool.not_eq_false', true_and]
  have hu : Ext u (allocW (allocW u hole) hole) := ((Upd.refl u).alloc _).alloc _
  have no : ∀ {v : World}, Ext u v → ¬ (a.wide = b.wide ∧ a.high = b.high ∧ a.cells = b.cells) → Told u (sameC_k a b) (.returned (.bool false)) v := fun hv hn => ⟨by unfold sameC_k; rw [decide_eq_false hn], hv⟩
  refine ⟨fun h => no hu fun hh => h hh.1, fun h1 => ⟨fun h => no hu fun hh => h hh.2.1, fun h2 => ⟨fun h => no hu fun hh => h (by rw [hh.2.2]), fun h3 => ?_⟩⟩⟩
  refine ⟨fun x u1 => Ext u u1 ∧ 0 ≤ x ∧ x ≤ a.cells.length ∧ ∀ i : Nat, i < x.toNat → cg a.cells i = cg b.cells i, fun x _ => (a.cells.length - x).toNat, ⟨hu, by omega, by omega, by omega⟩, fun x u1 ⟨hv, h0, hx1, hi⟩ => ⟨fun hx => ?_, fun hx => ?_⟩⟩
  · have hv2 : Ext u (drewW u1) := hv.drew
    obtain ⟨b1, o1, hp1, hr1⟩ := (ha.ext hv2).at (i := x.toNat) (by omega)
    obtain ⟨b2, o2, hp2, hr2⟩ := (hb.ext hv2).at (i := x.toNat) (by omega)
    refine ⟨b1, o1, hp1, h0, hx, _, _, _, _, rfl, hr1, b2, o2, hp2, h0, by omega, _, _, _, _, rfl, hr2, ?_⟩
    rw [clEq_k]
    simp only [decide_eq_true_eq, decide_eq_false_iff_not]
    refine ⟨fun hne => no hv2 fun hh => hne (by rw [hh.2.2]), fun heq => ⟨by simp only [inK]; omega, ⟨hv2, by omega, by omega, fun i hi' => ?_⟩, by first | omega | (dsimp only; omega)⟩⟩
    rcases (by omega : i < x.toNat ∨ i = x.toNat) with h | rfl
    · exact hi i h
    · exact heq
  · refine ⟨?_, hv⟩
    unfold sameC_k
    rw [decide_eq_true]
    exact ⟨h1, h2, cg_ext (by omega) fun i hi' => hi i (by omega)⟩

end Go.Proofs.Ytkmmphkjmamckab
