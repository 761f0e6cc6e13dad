/-
  Whether two parsers are alike.
-/
import Derived.Test.YtkmmphkjmamckacDoorZM
import Derived.Test.YtkmmphkjmamckacDoorVKeepP
namespace Go.Proofs.YtkmmphkjmamckacDoor
open Go
set_option linter.all false

theorem sameNumbers_ok_k (a_p : Option Addr) (a_n a_c : Nat) (b_p : Option Addr) (b_n b_c : Nat) {u : World} {l m : List Int} (hl : Nums u a_p a_n l) (hm : Nums u b_p b_n m) (hb : a_n ≤ 100000000) :
    Spec Tryd.prog fn_fenestrakeep_sameNumbers #[.slice a_p a_n a_c, .slice b_p b_n b_c] u fun e u' => e = .returned (.bool (decide (l = m))) ∧ Ext u u' := by
  apply vc_fenestrakeep_sameNumbers_spec
  unfold vc_fenestrakeep_sameNumbers
  simp only [Bool.not_eq_true', decide_eq_false_iff_not, Bool.not_eq_false', decide_eq_true_eq]
  refine ⟨fun hne => ⟨by congr; rw [eq_comm, decide_eq_false_iff_not]; rintro rfl; have := hl.2; have := hm.2; omega, Upd.refl _⟩, fun he => ?_⟩
  have hlm : l.length = m.length := by have := hl.2; have := hm.2; omega
  refine ⟨fun x u1 => Ext u u1 ∧ 0 ≤ x ∧ x ≤ a_n ∧ ∀ i : Nat, i < x.toNat → l.getD i 0 = m.getD i 0, fun x _ => (a_n - x).toNat, ⟨Upd.refl _, by omega, by omega, by omega⟩, fun x u1 ⟨hu, h0, h1, hi⟩ => ⟨fun hx => ?_, fun hx => ?_⟩⟩
  · have hu2 : Ext u (drewW u1) := hu.drew
    obtain ⟨b, o, hp, hr⟩ := (hl.ext hu2).at (i := x.toNat) (by omega)
    obtain ⟨b1, o1, hp1, hr1⟩ := (hm.ext hu2).at (i := x.toNat) (by omega)
    refine ⟨b, o, hp, h0, hx, _, rfl, hr, b1, o1, hp1, h0, by omega, _, rfl, hr1, fun hne => ⟨?_, hu2⟩, fun heq => ⟨by simp only [inK]; omega, ⟨hu2, by omega, by omega, fun i hi' => ?_⟩, by first | omega | (dsimp only; omega)⟩⟩
    · congr
      rw [eq_comm, decide_eq_false_iff_not]
      rintro rfl
      exact hne rfl
    · rcases (by omega : i < x.toNat ∨ i = x.toNat) with h | rfl
      · exact hi i h
      · exact heq
  · refine ⟨?_, hu⟩
    congr
    rw [eq_comm, decide_eq_true_eq, nums_eq_iff hlm]
    intro i hi'
    exact hi i (by have := hl.2; omega)

theorem sameParser_ok_k (a b : Pr) (a_p : Option Addr) (a_n a_c : Nat) (b_p : Option Addr) (b_n b_c : Nat) {u : World} (ha : Nums u a_p a_n a.ps) (hb : Nums u b_p b_n b.ps) (hn : a_n ≤ 100000000) :
    Spec Tryd.prog fn_fenestrakeep_sameParser #[PrV a a_p a_n a_c, PrV b b_p b_n b_c] u fun e u' => ∃ g, e = .returned (.bool g) ∧ (g = true ↔ a = b) ∧ Ext u u' := by
  apply vc_fenestrakeep_sameParser_spec
  unfold vc_fenestrakeep_sameParser
  obtain ⟨a1, a2, a3, a4⟩ := a
  obtain ⟨b1, b2, b3, b4⟩ := b
  simp only [decide_eq_false_iff_not, decide_eq_true_eq, Pr.mk.injEq] at *
  have hu : Ext u (allocW (allocW u hole) hole) := ((Upd.refl u).alloc _).alloc _
  refine ⟨fun h1 => ?_, fun h1 => ⟨false, rfl, by simp [h1], hu⟩⟩
  refine (sameNumbers_ok_k a_p a_n a_c b_p b_n b_c (ha.ext hu) (hb.ext hu) hn).mono fun e u1 ⟨he, hu1⟩ => ⟨_, he, ?_⟩
  have hu2 := hu.ext hu1
  simp only [decide_eq_false_iff_not, decide_eq_true_eq]
  refine ⟨fun h2 => ⟨fun h3 => ⟨_, rfl, by simp [h1, h2, bytes_ext h3], hu2⟩, fun h3 => ⟨false, rfl, ?_, hu2⟩⟩, fun h2 => ⟨false, rfl, by simp [h2], hu2⟩⟩
  simp only [Bool.false_eq_true, false_iff]
  rintro ⟨_, _, rfl, _⟩
  exact h3 rfl

end Go.Proofs.YtkmmphkjmamckacDoor
