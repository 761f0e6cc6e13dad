/-
  What the statement of screens shown anew answers: true.
-/
import Derived.Test.YtkmmphkjmamckacDoorDLawK2
import Derived.Test.YtkmmphkjmamckacDoorDAnew
import Derived.Test.YtkmmphkjmamckacDoorVKeepD2
namespace Go.Proofs.YtkmmphkjmamckacDoor
open Go
set_option linter.all false

set_option maxHeartbeats 1000000 in
theorem drawAnew_ok {u : World} {frm to : Gr} {fp tp : Option Addr} (hf : Cells u fp frm.cells) (ht : Cells u tp to.cells) (fc tc : Nat) (hfl : frm.cells.length ≤ 10000000) (htl : to.cells.length ≤ 10000000) :
    Spec Tryd.prog fn_fenestrakeep_DrawAnew #[GrV frm fp frm.cells.length fc, GrV to tp to.cells.length tc] u (Told u true) := by
  apply vc_fenestrakeep_DrawAnew_spec
  unfold vc_fenestrakeep_DrawAnew
  simp only [decide_eq_true_eq, decide_eq_false_iff_not, Bool.not_eq_true', Bool.not_eq_false', true_and]
  have hu : Ext u (allocW (allocW u hole) hole) := ((Upd.refl u).alloc _).alloc _
  have dr : ∀ {v : World}, Ext u v → Spec Tryd.prog fn_fenestrakeep_draws #[] v fun e v' => ∃ b : Bool, e = .returned (.bool b) ∧ Told u true (.returned (.bool b)) v' := fun hv => draws_ok.mono fun e v' ⟨he, hv'⟩ => ⟨_, he, rfl, hv.ext hv'⟩
  refine (danew_ok (ht.ext hu) tc htl).mono fun e u1 h7 => ?_
  have x1 := hu.ext h7.ext
  have ha : Ext u1 (allocW u1 hole) := (Upd.refl _).alloc _
  have xa := x1.ext ha
  by_cases hm : GoodG to ∧ to.col < to.wide
  · obtain ⟨gp, gc, s, hs, he, C⟩ := h7.yes hm
    refine ⟨_, _, _, _, _, _, _, _, _, _, _, _, _, he, ?_⟩
    refine (ggood_ok (ht.ext xa) tc (by omega)).mono fun e u2 ⟨he, hu2⟩ => ⟨_, he, fun hn => (by rw [goodG_iff.2 hm.1] at hn; cases hn), fun _ => ⟨fun hn => (by have := hm.2; omega), fun _ => ?_⟩⟩
    have x2 := xa.ext hu2
    refine (ggood_ok (hf.ext x2) fc (by omega)).mono fun e u3 ⟨he, hu3⟩ => ⟨_, he, fun _ => ⟨fun _ => dr (x2.ext hu3), fun hn => (hn rfl).elim⟩, fun hb => ?_⟩
    have gf := goodG_iff.1 hb
    have x3 := x2.ext hu3
    refine ⟨fun _ => ⟨fun _ => dr x3, fun hn => (hn rfl).elim⟩, fun hw => ⟨fun _ => ⟨fun _ => dr x3, fun hn => (hn rfl).elim⟩, fun hh => ?_⟩⟩
    obtain ⟨R, P⟩ := anew_law gf hm.1 hm.2 hw hh
    have y3 := (ha.ext hu2).ext hu3
    have hfew := P.few
    have hgl := few_cells P.good
    have hsz : s.size = (turnD (newG to.wide to.high) to).2.length + 2 := by
      have : s.size = s.data.toList.length := rfl
      rw [this, hs, List.length_append]
      simp
      omega
    refine (sent_ok (hf.ext x3) fc hfl (l := [27, 99] ++ (turnD (newG to.wide to.high) to).2) (by simp; omega) R hs).mono fun e u4 ⟨p4, c4, he, hc4, hu4⟩ => ⟨_, _, _, _, _, _, _, _, _, _, _, _, he, ?_⟩
    have ha4 : Ext u4 (allocW u4 hole) := (Upd.refl _).alloc _
    have x4 := (x3.ext hu4).ext ha4
    refine ⟨fun _ => ⟨fun _ => ⟨fun _ => ?_, fun hn => (hn (by omega)).elim⟩, fun hn => (by cases hn)⟩, fun hn => (hn rfl).elim⟩
    refine (sameGridK_ok (hc4.ext ha4) (C.ext ((y3.ext hu4).ext ha4)) c4 gc (by omega) rfl).mono fun e u5 ⟨he, hu5⟩ => ⟨_, he, fun _ => ?_, fun hn => (by cases hn)⟩
    have hsame : sameC_k (turnD (newG to.wide to.high) to).1 to = true := by unfold sameC_k; exact decide_eq_true ⟨P.wide, P.high, P.cells⟩
    refine (sameCells_ok_k (hc4.ext (ha4.ext hu5)) (ht.ext (x4.ext hu5)) c4 tc (by omega)).mono fun e u6 ⟨he, hu6⟩ => ⟨_, he, fun _ => ⟨fun _ => ⟨fun _ => dr ((x4.ext hu5).ext hu6), fun hn => (hn P.col).elim⟩, fun hn => (hn P.row).elim⟩, fun hn => (by rw [hsame] at hn; cases hn)⟩
  · refine ⟨_, _, _, _, _, _, _, _, _, _, _, _, _, h7.no hm, ?_⟩
    refine (ggood_ok (ht.ext xa) tc (by omega)).mono fun e u2 ⟨he, hu2⟩ => ⟨_, he, fun _ => ⟨fun _ => ⟨fun _ => dr (xa.ext hu2), fun hn => (hn rfl).elim⟩, fun hn => (hn rfl).elim⟩, fun hb => ⟨fun _ => ⟨fun _ => ⟨fun _ => dr (xa.ext hu2), fun hn => (hn rfl).elim⟩, fun hn => (hn rfl).elim⟩, fun hc => ?_⟩⟩
    have gt := goodG_iff.1 hb
    exact (hm ⟨gt, by have := gt.c2; omega⟩).elim

end Go.Proofs.YtkmmphkjmamckacDoor
