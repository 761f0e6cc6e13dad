/-
  Whether a screen answers at all.
-/
import Derived.Test.YtkmmphkjmamckabGWalk5
import Derived.Test.YtkmmphkjmamckabVLawG
namespace Go.Proofs.Ytkmmphkjmamckab
open Go
set_option linter.all false

theorem shows_ok_l {u : World} : Spec Try.prog fn_fenestralaw_shows #[] u (Told u true) := by
  apply vc_fenestralaw_shows_spec
  unfold vc_fenestralaw_shows
  refine (gnew_ok 3 2).mono fun e u1 ⟨⟨b, he, hco, hb⟩, hu1⟩ => ⟨_, _, _, _, _, _, _, _, _, _, _, he, ?_⟩
  have hev : Nums u1 none 0 (⟨1, 120, [], noBytes⟩ : Ev).ps := ⟨rfl, rfl⟩
  refine (gdo_ok (g := newG 3 2) hco.cells _ (by show 6 ≤ _; decide) ⟨1, 120, [], noBytes⟩ (ec := 0) hev (by decide) (by decide)).mono fun e u2 ⟨⟨p', c', he, hc, _, _⟩, hu2⟩ => ?_
  have hd : doG (newG 3 2) ⟨1, 120, [], noBytes⟩ = (⟨3, 2, [⟨120, 0, 0, false⟩, .z, .z, .z, .z, .z], 0, 1, 0, false, 0, 2⟩, 0) := by rfl
  rw [hd] at he hc
  have hh : Ext u2 (allocW u2 hole) := (Upd.refl _).alloc _
  have hx : Ext u (allocW u2 hole) := (hu1.ext hu2).ext hh
  obtain ⟨b', o', hp, hr⟩ := (hc.ext hh).at (i := 0) (by decide)
  refine ⟨_, _, _, _, _, _, _, _, _, _, _, _, he, fun _ => ⟨fun _ => ⟨b', o', hp, by decide, by decide, _, _, _, _, rfl, hr, fun _ => ⟨rfl, hx⟩, fun h => by simp [cg] at h⟩, fun h => by simp at h⟩, fun h => by simp at h⟩

end Go.Proofs.Ytkmmphkjmamckab
