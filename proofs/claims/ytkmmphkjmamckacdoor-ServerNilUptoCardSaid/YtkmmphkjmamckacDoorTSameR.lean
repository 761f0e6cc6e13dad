/-
  Whether two layouts of panes are alike.
-/
import Derived.Test.YtkmmphkjmamckacDoorZB
import Derived.Test.YtkmmphkjmamckacDoorZM
import Derived.Test.YtkmmphkjmamckacDoorPSameN
import Derived.Test.YtkmmphkjmamckacDoorVRefT2
namespace Go.Proofs.YtkmmphkjmamckacDoor
open Go
set_option linter.all false

def sameT (a b : Cols) : Bool := decide (a = b)

theorem sameTiles_ok {u : World} {p q : Option Addr} {a b : Cols} (ha : Tl u p a) (hb : Tl u q b) (c d : Nat) (hl : FewT 10000000 a) :
    Spec Tryd.prog fn_fenestraref_SameTiles #[TlV p a c, TlV q b d] u (Told u (sameT a b)) := by
  apply vc_fenestraref_SameTiles_spec
  unfold vc_fenestraref_SameTiles
  simp only [decide_eq_true_eq, decide_eq_false_iff_not, true_and, Bool.not_eq_true', Bool.not_eq_false']
  have hu : Ext u (allocW (allocW u hole) hole) := ((Upd.refl u).alloc _).alloc _
  have hn := hl.n
  have no : ∀ {v : World}, Ext u v → a ≠ b → Told u (sameT a b) (.returned (.bool false)) v := fun hv hn => ⟨by unfold sameT; rw [decide_eq_false hn], hv⟩
  refine ⟨fun hne => no hu fun h => hne (by rw [h]), fun heq => ?_⟩
  refine ⟨fun x v => Ext u v ∧ 0 ≤ x ∧ x ≤ a.length ∧ ∀ i : Nat, i < x.toNat → a.getD i [] = b.getD i [], fun x _ => (a.length - x).toNat, ⟨hu, Int.le_refl _, by omega, by omega⟩, fun x v ⟨hv, h0, h1, hi⟩ => ⟨fun hx => ?_, fun hx => ⟨?_, hv⟩⟩⟩
  · have hd : Ext v (drewW v) := (Upd.refl v).drew
    obtain ⟨b1, o1, q1, c1, hp1, hr1, hn1⟩ := (ha.ext (hv.ext hd)).at (i := x.toNat) (by omega)
    obtain ⟨b2, o2, q2, c2, hp2, hr2, hn2⟩ := (hb.ext (hv.ext hd)).at (i := x.toNat) (by omega)
    have hcl := hl.getD x.toNat
    refine ⟨b1, o1, hp1, h0, hx, _, _, _, rfl, hr1, b2, o2, hp2, h0, by omega, _, _, _, rfl, hr2, (sameNumbers_ok q1 _ c1 q2 _ c2 hn1 hn2 (by omega)).mono fun e w ⟨he, hw⟩ => ⟨_, he, fun hf => no ((hv.ext hd).ext hw) fun h => ?_, fun ht => ⟨by simp only [inK]; omega, ⟨(hv.ext hd).ext hw, by omega, by omega, fun i hi' => ?_⟩, by first | omega | (dsimp only; omega)⟩⟩⟩
    · rw [decide_eq_false_iff_not] at hf
      exact hf (by rw [h])
    · rw [decide_eq_true_eq] at ht
      rcases (by omega : i < x.toNat ∨ i = x.toNat) with h | rfl
      · exact hi i h
      · exact ht
  · unfold sameT
    rw [decide_eq_true]
    exact (list_eq_iff [] (by omega)).2 fun i hi' => hi i (by omega)

end Go.Proofs.YtkmmphkjmamckacDoor
