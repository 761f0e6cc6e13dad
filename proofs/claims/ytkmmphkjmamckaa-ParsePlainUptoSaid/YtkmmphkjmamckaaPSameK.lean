/-
  Whether two parsers, two lists of events are alike, as the keeping statements ask.
-/
import Derived.Test.YtkmmphkjmamckaaPMem
import Derived.Test.YtkmmphkjmamckaaVKeepP
namespace Go.Proofs.Ytkmmphkjmamckaa
open Go
set_option linter.all false

theorem sameNumbers_ok_k (a_p : Option Addr) (a_n a_c : Nat) (b_p : Option Addr) (b_n b_c : Nat) {u : World} {l m : List Int} (hl : Nums u a_p a_n l) (hm : Nums u b_p b_n m) (hb : a_n ≤ 100000000) :
    Spec Try.prog fn_fenestrakeep_sameNumbers #[.slice a_p a_n a_c, .slice b_p b_n b_c] u fun e u' => e = .returned (.bool (decide (l = m))) ∧ Ext u u' := by
  apply vc_fenestrakeep_sameNumbers_spec
  unfold vc_fenestrakeep_sameNumbers
  simp only [Bool.not_eq_true', decide_eq_false_iff_not, Bool.not_eq_false', decide_eq_true_eq]
  refine ⟨fun hne => ⟨by congr; rw [eq_comm, decide_eq_false_iff_not]; rintro rfl; have := hl.2; have := hm.2; omega, Upd.refl _⟩, fun he => ?_⟩
  have hlm : l.length = m.length := by have := hl.2; have := hm.2; omega
  refine ⟨fun x u1 => Ext u u1 ∧ 0 ≤ x ∧ x ≤ a_n ∧ ∀ i : Nat, i < x.toNat → l.getD i 0 = m.getD i 0, fun x _ => (a_n - x).toNat, ⟨Upd.refl _, by omega, by omega, by omega⟩, fun x u1 ⟨hu, h0, h1, hi⟩ => ⟨fun hx => ?_, fun hx => ?_⟩⟩
  · have hu2 : Ext u (drewW u1) := hu.drew
    obtain ⟨b, o, hp, hr⟩ := (hl.ext hu2).at (i := x.toNat) (by omega)
    obtain ⟨b1, o1, hp1, hr1⟩ := (hm.ext hu2).at (i := x.toNat) (by omega)
    refine ⟨b, o, hp, h0, hx, _, rfl, hr, b1, o1, hp1, h0, by omega, _, rfl, hr1, fun hne => ⟨?_, hu2⟩, fun heq => ⟨by simp only [inK]; omega, ⟨hu2, by omega, by omega, fun i hi' => ?_⟩, by first | omega | (dsimp only; omega)⟩⟩
    · congr
      rw [eq_comm, decide_eq_false_iff_not]
      rintro rfl
      exact hne rfl
    · rcases (by omega : i < x.toNat ∨ i = x.toNat) with h | rfl
      · exact hi i h
      · exact heq
  · refine ⟨?_, hu⟩
    congr
    rw [eq_comm, decide_eq_true_eq, nums_eq_iff hlm]
    intro i hi'
    exact hi i (by have := hl.2; omega)

theorem sameParser_ok_k (a b : Pr) (a_p : Option Addr) (a_n a_c : Nat) (b_p : Option Addr) (b_n b_c : Nat) {u : World} (ha : Nums u a_p a_n a.ps) (hb : Nums u b_p b_n b.ps) (hn : a_n ≤ 100000000) :
    Spec Try.prog fn_fenestrakeep_sameParser #[PrV a a_p a_n a_c, PrV b b_p b_n b_c] u fun e u' => ∃ g, e = .returned (.bool g) ∧ (g = true ↔ a = b) ∧ Ext u u' := by
  apply vc_fenestrakeep_sameParser_spec
  unfold vc_fenestrakeep_sameParser
  obtain ⟨a1, a2, a3, a4⟩ := a
  obtain ⟨b1, b2, b3, b4⟩ := b
  simp only [decide_eq_false_iff_not, decide_eq_true_eq, Pr.mk.injEq] at *
  have hu : Ext u (allocW (allocW u hole) hole) := ((Upd.refl u).alloc _).alloc _
  refine ⟨fun h1 => ?_, fun h1 => ⟨false, rfl, by simp [h1], hu⟩⟩
  refine (sameNumbers_ok_k a_p a_n a_c b_p b_n b_c (ha.ext hu) (hb.ext hu) hn).mono fun e u1 ⟨he, hu1⟩ => ⟨_, he, ?_⟩
  have hu2 := hu.ext hu1
  simp only [decide_eq_false_iff_not, decide_eq_true_eq]
  refine ⟨fun h2 => ⟨fun h3 => ⟨_, rfl, by simp [h1, h2, bytes_ext h3], hu2⟩, fun h3 => ⟨false, rfl, ?_, hu2⟩⟩, fun h2 => ⟨false, rfl, by simp [h2], hu2⟩⟩
  simp only [Bool.false_eq_true, false_iff]
  rintro ⟨_, _, rfl, _⟩
  exact h3 rfl

theorem sameEvents_ok_k (a_p : Option Addr) (a_n a_c : Nat) (b_p : Option Addr) (b_n b_c : Nat) {u : World} {ok ok' : Nat → Prop} {l m : List Ev} (hl : EvL u ok a_p a_n l) (hm : EvL u ok' b_p b_n m) (hb : a_n ≤ 100000000) (hps : ∀ e ∈ l, e.ps.length ≤ 1000) :
    Spec Try.prog fn_fenestrakeep_sameEvents #[.slice a_p a_n a_c, .slice b_p b_n b_c] u fun e u' => ∃ g, e = .returned (.bool g) ∧ (g = true ↔ l = m) ∧ Ext u u' := by
  apply vc_fenestrakeep_sameEvents_spec
  unfold vc_fenestrakeep_sameEvents
  have hll := hl.len
  have hml := hm.len
  simp only [Bool.not_eq_true', decide_eq_false_iff_not, Bool.not_eq_false', decide_eq_true_eq]
  refine ⟨fun hne => ⟨false, rfl, by simp only [Bool.false_eq_true, false_iff]; rintro rfl; omega, Upd.refl _⟩, fun he => ?_⟩
  have hlm : l.length = m.length := by omega
  refine ⟨fun x u1 => Ext u u1 ∧ 0 ≤ x ∧ x ≤ a_n ∧ ∀ i : Nat, i < x.toNat → l.getD i .none = m.getD i .none, fun x _ => (a_n - x).toNat, ⟨Upd.refl _, by omega, by omega, by omega⟩, fun x u1 ⟨hu, h0, h1, hi⟩ => ⟨fun hx => ?_, fun hx => ?_⟩⟩
  · have hu2 : Ext u (drewW u1) := hu.drew
    obtain ⟨b, o, q, k, c, hp, hr, hq⟩ := (hl.ext hu2).at (i := x.toNat) (by omega)
    obtain ⟨b1, o1, q1, k1, c1, hp1, hr1, hq1⟩ := (hm.ext hu2).at (i := x.toNat) (by omega)
    have hbad : l.getD x.toNat .none ≠ m.getD x.toNat .none → ∀ {u1 : World}, Ext u u1 → ∃ g, Ending.returned (.bool false) = .returned (.bool g) ∧ (g = true ↔ l = m) ∧ Ext u u1 := fun hn _ hu => ⟨false, rfl, by simp only [Bool.false_eq_true, false_iff]; rintro rfl; exact hn rfl, hu⟩
    refine ⟨b, o, hp, h0, hx, _, rfl, ⟨hr.1, trivial⟩, b1, o1, hp1, h0, by omega, _, rfl, ⟨hr1.1, trivial⟩, fun hne => hbad (fun h => hne (by rw [h])) hu2, fun e1 => ⟨b, o, hp, h0, hx, _, rfl, ⟨hr.2.1, trivial⟩, b1, o1, hp1, h0, by omega, _, rfl, ⟨hr1.2.1, trivial⟩, fun hne => hbad (fun h => hne (by rw [h])) hu2, fun e2 =>
      ⟨b, o, hp, h0, hx, _, rfl, ⟨hr.2.2.2.1, trivial⟩, b1, o1, hp1, h0, by omega, _, rfl, ⟨hr1.2.2.2.1, trivial⟩, fun hne => hbad (fun h => hne (by rw [h])) hu2, fun e3 => ⟨b, o, hp, h0, hx, _, _, _, rfl, ⟨hr.2.2.1, trivial⟩, b1, o1, hp1, h0, by omega, _, _, _, rfl, ⟨hr1.2.2.1, trivial⟩, ?_⟩⟩⟩⟩
    have hk : k ≤ 1000 := by rw [← hq.2]; exact hps _ (mem_getD _ (by omega))
    refine (sameNumbers_ok_k q k c q1 k1 c1 hq hq1 (by omega)).mono fun e u3 ⟨he, hu3⟩ => ⟨_, he, ?_⟩
    simp only [decide_eq_false_iff_not, decide_eq_true_eq]
    refine ⟨fun h4 => hbad (fun h => h4 (by rw [h])) (hu2.ext hu3), fun h4 => ⟨by simp only [inK]; omega, ⟨hu2.ext hu3, by omega, by omega, fun i hi' => ?_⟩, by first | omega | (dsimp only; omega)⟩⟩
    rcases (by omega : i < x.toNat ∨ i = x.toNat) with h | rfl
    · exact hi i h
    · exact ev_ext.2 ⟨e1, e2, bytes_ext e3, h4⟩
  · refine ⟨true, rfl, ?_, hu⟩
    simp only [true_iff]
    rw [list_eq_iff .none hlm]
    intro i hi'
    exact hi i (by omega)

end Go.Proofs.Ytkmmphkjmamckaa
