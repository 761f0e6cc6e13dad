/-
  Whether two servers stand alike: alike ones do.
-/
import Derived.Test.YtkmmphkjmamckacDoorZW
import Derived.Test.YtkmmphkjmamckacDoorSView
namespace Go.Proofs.YtkmmphkjmamckacDoor
open Go
set_option linter.all false

theorem tell_same {s s' : Sv} (h : s'.clients = s.clients) (i : Int) : tellS s' i = tellS s i := by
  unfold tellS clientOf
  rw [h]

theorem smallFew {t : Cols} (h : GoodT t) : FewT 1000 t := ⟨by have := h.few'.n; omega, fun c hc => by have := h.few'.each c hc; omega⟩

theorem srvSame_ok {u : World} {sa sb : Nat} {A B : Nat → Prop} {s s' : Sv} (ha : SvM u sa A s) (hb : SvM u sb B s') (I : InvS s) (I' : InvS s') (hv : s'.v = s.v) (hc : s'.clients = s.clients) :
    Spec Tryd.prog fn_fenestratop_same #[.pointer (some ⟨sa, 0, none⟩), .pointer (some ⟨sb, 0, none⟩)] u (Told u true) := by
  apply vc_fenestratop_same_spec
  unfold vc_fenestratop_same
  simp only [decide_eq_true_eq, decide_eq_false_iff_not, true_and, Bool.not_eq_true', Bool.not_eq_false']
  refine ⟨fun x w => Ext u w ∧ 0 ≤ x ∧ x ≤ 3, fun x _ => (3 - x).toNat, ⟨Upd.refl _, by omega, by omega⟩, ?_⟩
  rintro x w ⟨hw, x0, x3⟩
  refine ⟨fun hx => ?_, fun hx => ?_⟩
  · refine (srvClient_ok (ha.ext hw) x).mono fun e w1 ⟨he, hw1⟩ => ⟨_, _, _, he, ?_⟩
    refine (srvClient_ok (hb.ext (hw.ext hw1)) x).mono fun e w2 ⟨he, hw2⟩ => ⟨_, _, _, he, ?_⟩
    rw [tell_same hc]
    refine ⟨fun hn => (hn rfl).elim, fun _ => ⟨fun hn => (by simp at hn), fun _ => ⟨fun hn => (by simp at hn), fun _ => ⟨by simp only [inK]; omega, ⟨(hw.ext hw1).ext hw2, by omega, by omega⟩, by first | omega | (dsimp only; omega)⟩⟩⟩⟩
  · refine (srvView_ok (ha.ext hw) (smallFew I.cols) (fun p hp => I.grid_or p hp)).mono fun e w1 ⟨⟨ca, he, VA⟩, hw1⟩ => ⟨_, he, ?_⟩
    refine (srvView_ok (hb.ext (hw.ext hw1)) (smallFew I'.cols) (fun p hp => I'.grid_or p hp)).mono fun e w2 ⟨⟨cb, he, VB⟩, hw2⟩ => ⟨_, he, ?_⟩
    rw [hv] at VB
    exact (sameViewT_ok (VA.m.ext hw2) VB.m rfl rfl rfl rfl fun _ _ => rfl).mono fun e w3 ⟨he, hw3⟩ => ⟨_, he, rfl, ((hw.ext hw1).ext hw2).ext hw3⟩

end Go.Proofs.YtkmmphkjmamckacDoor
