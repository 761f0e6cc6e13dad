/-
  slices.Clone at numbers.
-/
import Derived.Test.YtkmmphkjmamckabDoorZM
import Derived.Test.YtkmmphkjmamckabDoorZVa
namespace Go.Proofs.YtkmmphkjmamckabDoor
open Go
set_option linter.all false

theorem clone_ok (s_p : Option Addr) (s_n s_c : Nat) {u : World} {l : List Int} (h : Nums u s_p s_n l) (hn : s_n ≤ 1000) :
    Spec Tryd.prog fn_slices_Clone_int_int #[.slice s_p s_n s_c] u fun e u' => ∃ p c, e = .returned (.slice p s_n c) ∧ Own u' 1 p s_n c (numV l) ∧ Ext u u' ∧ ∀ k, At p k → u.heap.size ≤ k := by
  apply vc_slices_Clone_int_int_spec
  unfold vc_slices_Clone_int_int
  refine ⟨fun hp => ?_, fun hp => ?_⟩
  · cases s_p with
    | some a => cases hp
    | none =>
      obtain ⟨h, hl⟩ := h
      have : l = [] := by have h2 : (numV l).length = 0 := by rw [show numV l = [] from h]; rfl
                          rw [numV_len] at h2; exact List.length_eq_zero_iff.1 h2
      subst this
      simp only [List.length_nil] at hl
      subst hl
      exact ⟨none, 0, rfl, Own.nil _ _, Upd.refl _, fun k hk => by obtain ⟨_, hk, _⟩ := hk; cases hk⟩
  · have hu : Ext u (allocW u (.cells #[] ty_int)) := (Upd.refl u).alloc _
    have h' := h.ext hu
    have hf : Own (allocW u (.cells #[] ty_int)) 1 (some ⟨u.heap.size, 0, none⟩) 0 0 [] := Own.fresh u (cs := []) rfl
    refine ⟨[], numV l, rfl, hf.gets, by rw [numV_len, h'.2]; omega, h'.1, by decide, by omega, numV_ok l, fun hc => hf.wrs (by omega), fun p cap u1 hr => ?_⟩
    obtain ⟨h1, h2, h3⟩ := hf.app hr rfl hf.gets (by rw [numV_len, h'.2]; omega) rfl
    simp only [Nat.zero_add, List.nil_append] at h1 ⊢
    refine ⟨p, cap, rfl, h1, hu.trans h2 fun k hk hat => ?_, fun k hk => ?_⟩
    · obtain ⟨a, ha, rfl⟩ := hat
      cases ha
      simp at hk
    · rcases h3 with ⟨rfl, _⟩ | ⟨rfl, _⟩
      · obtain ⟨a, ha, rfl⟩ := hk; cases ha; exact Nat.le_refl _
      · obtain ⟨a, ha, rfl⟩ := hk; cases ha; exact Nat.le_trans (Nat.le_succ _) (Nat.le_of_eq (size_alloc _ _).symm)

end Go.Proofs.YtkmmphkjmamckabDoor
