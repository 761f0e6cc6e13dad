/-
  A cell of a screen, and a screen of other sides, as the document has them.
-/
import Derived.Test.YtkmmphkjmamckabGRef
import Derived.Test.YtkmmphkjmamckabZP
import Derived.Test.YtkmmphkjmamckabVRefG2
namespace Go.Proofs.Ytkmmphkjmamckab
open Go
set_option linter.all false

theorem cellAt_ok {u : World} {g : Gr} {p : Option Addr} (h : Cells u p g.cells) (c : Nat) (row col : Int) (hl : g.cells.length ≤ 100000000) :
    Spec Try.prog fn_fenestraref_CellAt #[GrV g p g.cells.length c, .int .i64 row, .int .i64 col] u fun e u' => e = .returned (ClV (atG g row col)) ∧ Ext u u' := by
  apply vc_fenestraref_CellAt_spec
  unfold vc_fenestraref_CellAt
  simp only [decide_eq_true_eq, decide_eq_false_iff_not, true_and]
  have hu : Ext u (allocW (allocW u hole) hole) := ((Upd.refl u).alloc _).alloc _
  have no : ¬ (g.wide ≤ 24 ∧ g.high ≤ 10 ∧ 0 ≤ row ∧ row < g.high ∧ 0 ≤ col ∧ col < g.wide) → Ending.returned (.agg #[.int .i64 0, .int .i64 0, .int .i64 0, .bool false]) = .returned (ClV (atG g row col)) ∧ Ext u (allocW (allocW u hole) hole) := fun hn => ⟨by
    unfold atG
    rw [if_neg hn], hu⟩
  refine ⟨fun a1 => ⟨fun a2 => ⟨fun a3 => ⟨fun a4 => ⟨fun a5 => ⟨fun a6 => ?_, fun _ => no (by omega)⟩, fun _ => no (by omega)⟩, fun _ => no (by omega)⟩, fun _ => no (by omega)⟩, fun _ => no (by omega)⟩, fun _ => no (by omega)⟩
  have hat : atG g row col = cg g.cells (row * g.wide + col).toNat := by
    unfold atG
    rw [if_pos ⟨a1, a2, a3, a4, a5, a6⟩]
  have hm : 0 ≤ row * g.wide := Int.mul_nonneg a3 (by omega)
  rw [hat]
  refine ⟨fun x a b c d w => Ext u w ∧ 0 ≤ x ∧ x ≤ g.cells.length ∧ (row * g.wide + col < g.cells.length → x ≤ row * g.wide + col), fun x _ _ _ _ _ => (g.cells.length - x).toNat, ⟨hu, Int.le_refl _, by omega, by omega⟩, ?_⟩
  rintro x b1 b2 b3 b4 w ⟨hw, h0, h1, hx⟩
  refine ⟨fun hlt => ?_, fun hlt => ⟨?_, hw⟩⟩
  · obtain ⟨b, o, hp, hr⟩ := (h.ext hw).at (i := x.toNat) (by omega)
    have ha : Ext w (allocW w hole) := (Upd.refl w).alloc _
    have hdm := Int.mul_ediv_add_emod x g.wide
    have next : ¬ (x / g.wide = row ∧ x % g.wide = col) → inK .i64 (x + 1) ∧ (Ext u (allocW w hole) ∧ 0 ≤ x + 1 ∧ x + 1 ≤ g.cells.length ∧ (row * g.wide + col < g.cells.length → x + 1 ≤ row * g.wide + col)) ∧ ((g.cells.length : Int) - (x + 1)).toNat < ((g.cells.length : Int) - x).toNat := fun hn => by
      refine ⟨by simp only [inK]; omega, ⟨hw.ext ha, by omega, by omega, fun hl => ?_⟩, by omega⟩
      have := hx hl
      rcases (by omega : x + 1 ≤ row * g.wide + col ∨ x = row * g.wide + col) with h | h
      · exact h
      · exfalso
        apply hn
        have e1 : (row * g.wide + col) / g.wide = row := by
          rw [Int.add_comm, Int.add_mul_ediv_right _ _ (by omega), Int.ediv_eq_zero_of_lt a5 a6, Int.zero_add]
        have e2 : (row * g.wide + col) % g.wide = col := by
          rw [Int.add_comm, Int.add_mul_emod_self_right, Int.emod_eq_of_lt a5 a6]
        rw [h]
        exact ⟨e1, e2⟩
    refine ⟨b, o, hp, h0, hlt, _, _, _, _, rfl, hr, h0, by omega, by simp only [inK]; omega, fun c1 => ⟨h0, by omega, fun c2 => ⟨?_, hw.ext ha⟩, fun c2 => next fun hh => c2 hh.2⟩, fun c1 => next fun hh => c1 hh.1⟩
    rw [show row * g.wide + col = x by rw [← c1, ← c2, Int.mul_comm]; exact hdm]
  · rw [cg_out]
    have := hx
    omega

end Go.Proofs.Ytkmmphkjmamckab
