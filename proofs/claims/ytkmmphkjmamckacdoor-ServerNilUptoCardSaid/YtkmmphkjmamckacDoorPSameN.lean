/-
  Whether two lists of numbers are alike.
-/
import Derived.Test.YtkmmphkjmamckacDoorZM
import Derived.Test.YtkmmphkjmamckacDoorVRefN
namespace Go.Proofs.YtkmmphkjmamckacDoor
open Go
set_option linter.all false

theorem sameNumbers_ok (a_p : Option Addr) (a_n a_c : Nat) (b_p : Option Addr) (b_n b_c : Nat) {u : World} {l m : List Int} (hl : Nums u a_p a_n l) (hm : Nums u b_p b_n m) (hb : a_n ≤ 100000000) :
    Spec Tryd.prog fn_fenestraref_SameNumbers #[.slice a_p a_n a_c, .slice b_p b_n b_c] u fun e u' => e = .returned (.bool (decide (l = m))) ∧ Ext u u' := by
  apply vc_fenestraref_SameNumbers_spec
  unfold vc_fenestraref_SameNumbers
  simp only [Bool.not_eq_true', decide_eq_false_iff_not, Bool.not_eq_false', decide_eq_true_eq]
  refine ⟨fun hne => ⟨by congr; rw [eq_comm, decide_eq_false_iff_not]; rintro rfl; have := hl.2; have := hm.2; omega, Upd.refl _⟩, fun he => ?_⟩
  have hlm : l.length = m.length := by have := hl.2; have := hm.2; omega
  refine ⟨fun x u1 => Ext u u1 ∧ 0 ≤ x ∧ x ≤ a_n ∧ ∀ i : Nat, i < x.toNat → l.getD i 0 = m.getD i 0, fun x _ => (a_n - x).toNat, ⟨Upd.refl _, by omega, by omega, by omega⟩, fun x u1 ⟨hu, h0, h1, hi⟩ => ⟨fun hx => ?_, fun hx => ?_⟩⟩
  · have hu2 : Ext u (drewW u1) := hu.drew
    obtain ⟨b, o, hp, hr⟩ := (hl.ext hu2).at (i := x.toNat) (by omega)
    obtain ⟨b1, o1, hp1, hr1⟩ := (hm.ext hu2).at (i := x.toNat) (by omega)
    refine ⟨b, o, hp, h0, hx, _, rfl, hr, b1, o1, hp1, h0, by omega, _, rfl, hr1, fun hne => ⟨?_, hu2⟩, fun heq => ⟨by simp only [inK]; omega, ⟨hu2, by omega, by omega, fun i hi' => ?_⟩, by first | omega | (dsimp only; omega)⟩⟩
    · congr
      rw [eq_comm, decide_eq_false_iff_not]
      rintro rfl
      exact hne rfl
    · rcases (by omega : i < x.toNat ∨ i = x.toNat) with h | rfl
      · exact hi i h
      · exact heq
  · refine ⟨?_, hu⟩
    congr
    rw [eq_comm, decide_eq_true_eq, nums_eq_iff hlm]
    intro i hi'
    exact hi i (by have := hl.2; omega)

end Go.Proofs.YtkmmphkjmamckacDoor
