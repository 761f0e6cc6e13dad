/-
  Whether two screens have the same cells, as the statements of the whole ask.
-/
import Derived.Test.YtkmmphkjmamckabDoorZM
import Derived.Test.YtkmmphkjmamckabDoorZG
import Derived.Test.YtkmmphkjmamckabDoorZP
import Derived.Test.YtkmmphkjmamckabDoorZVf
namespace Go.Proofs.YtkmmphkjmamckabDoor
open Go
set_option linter.all false

theorem clEq_t (a b : Cl) : (decide (a.ch = b.ch) && (decide (a.ink = b.ink) && (decide (a.pic = b.pic) && (a.bold == b.bold)))) = decide (a = b) := by
  rw [Bool.eq_iff_iff, decide_eq_true_eq, Cl.ext_iff']
  simp only [Bool.and_eq_true, decide_eq_true_eq, beq_iff_eq]

def sameC_t (a b : Gr) : Bool := decide (a.wide = b.wide ∧ a.high = b.high ∧ a.cells = b.cells)

theorem sameCellsT_ok {u : World} {a b : Gr} {p q : Option Addr} (ha : Cells u p a.cells) (hb : Cells u q b.cells) (c d : Nat) (hl : a.cells.length ≤ 100000000) :
    Spec Tryd.prog fn_fenestratop_sameCells #[GrV a p a.cells.length c, GrV b q b.cells.length d] u (Told u (sameC_t a b)) := by
  apply vc_fenestratop_sameCells_spec
  unfold vc_fenestratop_sameCells
  simp only [decide_eq_true_eq, decide_eq_false_iff_not, Bool.not_eq_true', Bool.not_eq_false', true_and]
  have hu : Ext u (allocW (allocW u hole) hole) := ((Upd.refl u).alloc _).alloc _
  have no : ∀ {v : World}, Ext u v → ¬ (a.wide = b.wide ∧ a.high = b.high ∧ a.cells = b.cells) → Told u (sameC_t a b) (.returned (.bool false)) v := fun hv hn => ⟨by unfold sameC_t; rw [decide_eq_false hn], hv⟩
  refine ⟨fun h => no hu fun hh => h hh.1, fun h1 => ⟨fun h => no hu fun hh => h hh.2.1, fun h2 => ⟨fun h => no hu fun hh => h (by rw [hh.2.2]), fun h3 => ?_⟩⟩⟩
  refine ⟨fun x u1 => Ext u u1 ∧ 0 ≤ x ∧ x ≤ a.cells.length ∧ ∀ i : Nat, i < x.toNat → cg a.cells i = cg b.cells i, fun x _ => (a.cells.length - x).toNat, ⟨hu, by omega, by omega, by omega⟩, fun x u1 ⟨hv, h0, hx1, hi⟩ => ⟨fun hx => ?_, fun hx => ?_⟩⟩
  · have hv2 : Ext u (drewW u1) := hv.drew
    obtain ⟨b1, o1, hp1, hr1⟩ := (ha.ext hv2).at (i := x.toNat) (by omega)
    obtain ⟨b2, o2, hp2, hr2⟩ := (hb.ext hv2).at (i := x.toNat) (by omega)
    refine ⟨b1, o1, hp1, h0, hx, _, _, _, _, rfl, hr1, b2, o2, hp2, h0, by omega, _, _, _, _, rfl, hr2, ?_⟩
    rw [clEq_t]
    simp only [decide_eq_true_eq, decide_eq_false_iff_not]
    refine ⟨fun hne => no hv2 fun hh => hne (by rw [hh.2.2]), fun heq => ⟨by simp only [inK]; omega, ⟨hv2, by omega, by omega, fun i hi' => ?_⟩, by first | omega | (dsimp only; omega)⟩⟩
    rcases (by omega : i < x.toNat ∨ i = x.toNat) with h | rfl
    · exact hi i h
    · exact heq
  · refine ⟨?_, hv⟩
    unfold sameC_t
    rw [decide_eq_true]
    exact ⟨h1, h2, cg_ext (by omega) fun i hi' => hi i (by omega)⟩

theorem smallFew {t : Cols} (h : GoodT t) : FewT 1000 t := ⟨by have := h.few'.n; omega, fun c hc => by have := h.few'.each c hc; omega⟩

end Go.Proofs.YtkmmphkjmamckabDoor
