/-
  Whether two screens are alike.
-/
import Derived.Test.YtkmmphkjmamckacDoorGSameR
import Derived.Test.YtkmmphkjmamckacDoorZP
namespace Go.Proofs.YtkmmphkjmamckacDoor
open Go
set_option linter.all false

def sameGb (a b : Gr) : Bool := decide (a.wide = b.wide ∧ a.high = b.high ∧ a.cells = b.cells ∧ a.row = b.row ∧ a.col = b.col ∧ a.ink = b.ink ∧ a.bold = b.bold ∧ a.top = b.top ∧ a.bottom = b.bottom)

theorem sameGb_iff {a b : Gr} : sameGb a b = true ↔ a = b := by
  unfold sameGb
  rw [decide_eq_true_eq]
  cases a; cases b
  simp only [Gr.mk.injEq]

theorem sameGrid_ok {u : World} {a b : Gr} {p q : Option Addr} (ha : Cells u p a.cells) (hb : Cells u q b.cells) (c d : Nat) (hl : a.cells.length ≤ 100000000) :
    Spec Tryd.prog fn_fenestraref_SameGrid #[GrV a p a.cells.length c, GrV b q b.cells.length d] u (Told u (sameGb a b)) := by
  apply vc_fenestraref_SameGrid_spec
  unfold vc_fenestraref_SameGrid
  simp only [decide_eq_true_eq, decide_eq_false_iff_not, beq_iff_eq, beq_eq_false_iff_ne, ne_eq]
  have hu : Ext u (allocW (allocW u hole) hole) := ((Upd.refl u).alloc _).alloc _
  refine (sameCells_ok_r (ha.ext hu) (hb.ext hu) c d hl).mono fun e u1 ⟨he, hu1⟩ => ⟨_, he, ?_⟩
  have x := hu.ext hu1
  have no : ¬ (a.wide = b.wide ∧ a.high = b.high ∧ a.cells = b.cells ∧ a.row = b.row ∧ a.col = b.col ∧ a.ink = b.ink ∧ a.bold = b.bold ∧ a.top = b.top ∧ a.bottom = b.bottom) → Told u (sameGb a b) (.returned (.bool false)) u1 := fun hn => ⟨by unfold sameGb; rw [decide_eq_false hn], x⟩
  refine ⟨fun hs => ⟨fun h1 => ⟨fun h2 => ⟨fun h3 => ⟨fun h4 => ⟨fun h5 => ?_, fun hn => no fun h => hn h.2.2.2.2.2.2.2.1⟩, fun hn => no fun h => hn h.2.2.2.2.2.2.1⟩, fun hn => no fun h => hn h.2.2.2.2.2.1⟩, fun hn => no fun h => hn h.2.2.2.2.1⟩, fun hn => no fun h => hn h.2.2.2.1⟩, fun hn => no fun h => ?_⟩
  · unfold sameC_r at hs
    rw [decide_eq_true_eq] at hs
    refine ⟨?_, x⟩
    congr 2
    unfold sameGb
    exact decide_eq_decide.2 ⟨fun h => ⟨hs.1, hs.2.1, hs.2.2, h1, h2, h3, h4, h5, h⟩, fun h => h.2.2.2.2.2.2.2.2⟩
  · unfold sameC_r at hn
    rw [decide_eq_false_iff_not] at hn
    exact hn ⟨h.1, h.2.1, h.2.2.1⟩

end Go.Proofs.YtkmmphkjmamckacDoor
