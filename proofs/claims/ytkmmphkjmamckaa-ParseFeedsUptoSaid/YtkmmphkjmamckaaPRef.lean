/-
  The document's own: what a parser is, a copy.
-/
import Derived.Test.YtkmmphkjmamckaaPMem
import Derived.Test.YtkmmphkjmamckaaVRefP
namespace Go.Proofs.Ytkmmphkjmamckaa
open Go
set_option linter.all false

theorem copyParser_ok (pr : Pr) (s_p : Option Addr) (s_n s_c : Nat) {u : World} (h : Nums u s_p s_n pr.ps) (hn : s_n ≤ 100000000) :
    Spec Try.prog fn_fenestraref_CopyParser #[PrV pr s_p s_n s_c] u fun e u' => ∃ p c, e = .returned (PrV pr p s_n c) ∧ Own u' 1 p s_n c (numV pr.ps) ∧ Ext u u' ∧ ∀ k, At p k → u.heap.size ≤ k := by
  apply vc_fenestraref_CopyParser_spec
  unfold vc_fenestraref_CopyParser
  have hu : Ext u (allocW (allocW u hole) hole) := ((Upd.refl u).alloc _).alloc _
  have h' := h.ext hu
  refine ⟨[], numV pr.ps, rfl, rfl, by rw [numV_len, h'.2]; omega, h'.1, by decide, by omega, numV_ok _, fun _ => trivial, fun p cap u1 hr => ?_⟩
  obtain ⟨h1, h2, h3⟩ := AppR.none hr rfl (by rw [numV_len, h'.2]; omega) rfl
  simp only [Nat.zero_add] at h1 ⊢
  refine ⟨p, cap, rfl, h1, hu.ext h2, fun k hk => ?_⟩
  obtain ⟨a, ha, rfl⟩ := hk
  rcases h3 with ⟨_, h3⟩ | h3
  · rw [h3] at ha; cases ha
  · rw [h3] at ha; cases ha; simp only [size_alloc]; omega

theorem goodParser_ok (pr : Pr) (s_p : Option Addr) (s_n s_c : Nat) {u : World} (h : Nums u s_p s_n pr.ps) (hb : s_n ≤ 100000000) :
    Spec Try.prog fn_fenestraref_GoodParser #[PrV pr s_p s_n s_c] u fun e u' => ∃ g, e = .returned (.bool g) ∧ (g = true ↔ GoodP pr) ∧ Ext u u' := by
  apply vc_fenestraref_GoodParser_spec
  unfold vc_fenestraref_GoodParser
  obtain ⟨a, ps, pl, lg⟩ := pr
  simp only at h
  have hlen := h.2
  have hu : Ext u (allocW u hole) := (Upd.refl u).alloc _
  simp only [decide_eq_false_iff_not, decide_eq_true_eq, true_and, noBytes_iff]
  refine ⟨fun x u1 => Ext u u1 ∧ 0 ≤ x ∧ x ≤ s_n ∧ ∀ i : Nat, i < x.toNat → okNum (ps.getD i 0), fun x _ => (s_n - x).toNat, ⟨hu, by omega, by omega, by omega⟩, fun x u1 ⟨hu1, h0, hx, hi⟩ => ⟨fun hlt => ?_, fun hlt => ?_⟩⟩
  · obtain ⟨b, o, hp, hr⟩ := (h.ext hu1).at (i := x.toNat) (by omega)
    have bad : ¬ okNum (ps.getD x.toNat 0) → ¬ GoodP ⟨a, ps, pl, lg⟩ := fun hb g => hb (g.nums _ (by
      show ps.getD x.toNat 0 ∈ ps
      rw [List.getD_eq_getElem?_getD, List.getElem?_eq_getElem (by omega)]
      exact List.getElem_mem _))
    refine ⟨b, o, hp, h0, hlt, _, rfl, hr, fun h5 => ⟨_, rfl, by simp [bad fun h => by have := h.1; omega], hu1⟩, fun h5 => ⟨fun h6 => ⟨_, rfl, by simp [bad fun h => by have := h.2; omega], hu1⟩, fun h6 => ⟨by simp only [inK]; omega, ⟨hu1, by omega, by omega, fun i hi' => ?_⟩, by first | omega | (dsimp only; omega)⟩⟩⟩
    rcases (by omega : i < x.toNat ∨ i = x.toNat) with h | rfl
    · exact hi i h
    · exact ⟨by omega, by omega⟩
  · have hnums : ∀ n ∈ ps, okNum n := fun n hn => by
      obtain ⟨i, hi2, rfl⟩ := List.getElem_of_mem hn
      have := hi i (by omega)
      simpa [List.getD_eq_getElem?_getD, List.getElem?_eq_getElem hi2] using this
    have key : (GoodP ⟨a, ps, pl, lg⟩) ↔ (0 ≤ a ∧ a ≤ 4 ∧ s_n ≤ 4 ∧ pl.size ≤ 48 ∧ (a = 2 ↔ 0 < s_n)) ∧ (a = 3 ∨ a = 4 ∨ (pl = noBytes ∧ lg = false)) := ⟨fun g => ⟨⟨g.lo, g.hi, by have := g.len; simp only at this; omega, g.pay, by have := g.cmd; simp only at this; omega⟩, g.rest⟩, fun ⟨g, r⟩ => ⟨by simp only; omega, by simp only; omega, by simp only; omega, by simp only; omega, hnums, by simp only; omega, r⟩⟩
    repeat' (refine And.intro (fun _ => ?_) (fun _ => ?_))
    all_goals
      refine ⟨_, rfl, ?_, hu1⟩
      rw [key]
      by_cases hpl : pl = noBytes
      · have hz : pl.size = 0 := by rw [hpl]; rfl
        cases lg <;> first | contradiction | (simp only [hpl, Bool.not_eq_true', decide_eq_true_eq, and_true, and_false, true_and, false_and, or_false, Bool.false_eq_true, Bool.true_eq_false, false_iff, true_iff, Bool.not_true, Bool.not_false, or_true]; have hz2 : noBytes.size = 0 := rfl; omega)
      · cases lg <;> first | contradiction | (simp only [hpl, Bool.not_eq_true', decide_eq_true_eq, and_true, and_false, true_and, false_and, or_false, Bool.false_eq_true, Bool.true_eq_false, false_iff, true_iff, Bool.not_true, Bool.not_false, or_true]; omega)

end Go.Proofs.Ytkmmphkjmamckaa
