/-
  What the keeping statement of other sides answers: true.
-/
import Derived.Test.YtkmmphkjmamckabGShowK
import Derived.Test.YtkmmphkjmamckabGWalk6
namespace Go.Proofs.Ytkmmphkjmamckab
open Go
set_option linter.all false

theorem gridResizes_ok {u : World} {g : Gr} {p : Option Addr} (h : Cells u p g.cells) {c : Nat} (hcap : g.cells.length ≤ c) (hl : g.cells.length ≤ 10000000) (wide high : Int) :
    Spec Try.prog fn_fenestrakeep_GridResizes #[GrV g p g.cells.length c, .int .i64 wide, .int .i64 high] u (Told u true) := by
  apply vc_fenestrakeep_GridResizes_spec
  unfold vc_fenestrakeep_GridResizes
  simp only [decide_eq_true_eq, decide_eq_false_iff_not, Bool.not_eq_true', Bool.not_eq_false', true_and]
  have hu : Ext u (allocW u hole) := (Upd.refl u).alloc _
  refine (gresize_ok (h.ext hu) hcap (by omega) wide high).mono fun r u1 ⟨⟨p', c', hr, hc, hfew⟩, hu1⟩ => ⟨_, _, _, _, _, _, _, _, _, _, _, _, hr, ?_⟩
  have x1 := hu.ext hu1
  have hh : Ext u1 (allocW u1 hole) := (Upd.refl _).alloc _
  have x2 := x1.ext hh
  have hsh : ∀ {v : World}, Ext u v → Spec Try.prog fn_fenestrakeep_shows #[] v fun e u11 => ∃ x30 : Bool, e = .returned (.bool x30) ∧ Told u true (.returned (.bool x30)) u11 := fun hv => shows_ok_k.mono fun r u3 ⟨hr, hu3⟩ => ⟨_, hr, rfl, hv.ext hu3⟩
  refine ⟨fun _ => hsh x2, fun hz => ?_⟩
  refine shows_ok_k.mono fun r u2 ⟨hr2, hu2⟩ => ⟨_, hr2, fun hn => by simp at hn, fun _ => ?_⟩
  have hg : GoodG g := by
    apply Classical.byContradiction
    intro hn
    have : resizeG g wide high = (g, 1) := by unfold resizeG; rw [if_pos (by rw [← Bool.not_eq_true, goodG_iff]; exact hn)]
    rw [this] at hz
    cases hz
  obtain ⟨_, l1, l2, l3, l4⟩ := resize_law hg wide high
  have hfew' := hfew hz
  generalize resizeG g wide high = d at hc l1 l2 l3 l4 hfew' ⊢
  have x3 := x2.ext hu2
  have y3 := hh.ext hu2
  have hw2 := l1.w2
  have hh2 := l1.h2
  refine ⟨fun i v => Ext u v ∧ Ext u1 v ∧ 0 ≤ i, fun i _ => (d.1.high - i).toNat, ⟨x3, y3, Int.le_refl _⟩, fun i v ⟨hv, hv1, hi⟩ => ⟨fun hlt => ?_, fun hlt => ?_⟩⟩
  · refine ⟨fun j w => Ext u w ∧ Ext u1 w ∧ 0 ≤ j, fun j _ => (d.1.wide - j).toNat, ⟨hv, hv1, Int.le_refl _⟩, fun j w ⟨hw, hw1, hj⟩ => ⟨fun hjt => ?_, fun hjt => ⟨by simp only [inK]; omega, ⟨hw, hw1, by omega⟩, by first | omega | (dsimp only; omega)⟩⟩⟩
    have hd : Ext w (drewW w) := (Upd.refl _).drew
    refine (gat_ok (hc.ext (hw1.ext hd)) c' i j (by omega)).mono fun r w2 ⟨hr, hw2'⟩ => ⟨_, _, _, _, hr, ?_⟩
    refine (gat_ok (h.ext ((hw.ext hd).ext hw2')) c i j (by omega)).mono fun r w3 ⟨hr, hw3'⟩ => ⟨_, _, _, _, hr, ?_⟩
    have l := l4 i.toNat j.toNat (by omega) (by omega)
    rw [show ((i.toNat : Nat) : Int) = i by omega, show ((j.toNat : Nat) : Int) = j by omega] at l
    rw [l, clEq_k]
    exact ⟨fun hn => by simp at hn, fun _ => ⟨by simp only [inK]; omega, ⟨((hw.ext hd).ext hw2').ext hw3', ((hw1.ext hd).ext hw2').ext hw3', by omega⟩, by first | omega | (dsimp only; omega)⟩⟩
  · refine (ggood_ok (hc.ext hv1) c' (by omega)).mono fun r u3 ⟨hr, hu3⟩ => ⟨_, hr, fun _ => ⟨fun _ => ⟨by rw [decide_eq_true l3], hv.ext hu3⟩, fun hn => (hn l2).elim⟩, fun hn => ?_⟩
    rw [goodG_iff.2 l1] at hn; cases hn

end Go.Proofs.Ytkmmphkjmamckab
