/-
  What the statements of screens turned answer, on: true.
-/
import Derived.Test.YtkmmphkjmamckacDoorDLawK
namespace Go.Proofs.YtkmmphkjmamckacDoor
open Go
set_option linter.all false

set_option maxHeartbeats 1000000 in
theorem drawTurns_ok {u : World} {frm to : Gr} {fp tp : Option Addr} (hf : Cells u fp frm.cells) (ht : Cells u tp to.cells) (fc tc : Nat) (hfl : frm.cells.length ≤ 10000000) (htl : to.cells.length ≤ 10000000) :
    Spec Tryd.prog fn_fenestrakeep_DrawTurns #[GrV frm fp frm.cells.length fc, GrV to tp to.cells.length tc] u (Told u true) := by
  apply vc_fenestrakeep_DrawTurns_spec
  unfold vc_fenestrakeep_DrawTurns
  simp only [decide_eq_true_eq, decide_eq_false_iff_not, Bool.not_eq_true', Bool.not_eq_false', true_and]
  have hu : Ext u (allocW (allocW u hole) hole) := ((Upd.refl u).alloc _).alloc _
  refine (dturn_ok (hf.ext hu) (ht.ext hu) fc tc hfl htl).mono fun e u1 h7 => ?_
  have x1 := hu.ext h7.ext
  have ha : Ext u1 (allocW u1 hole) := (Upd.refl _).alloc _
  have xa := x1.ext ha
  have dr : ∀ {v : World}, Ext u v → Spec Tryd.prog fn_fenestrakeep_draws #[] v fun e v' => ∃ b : Bool, e = .returned (.bool b) ∧ Told u true (.returned (.bool b)) v' := fun hv => draws_ok.mono fun e v' ⟨he, hv'⟩ => ⟨_, he, rfl, hv.ext hv'⟩
  by_cases hm : mayTurn frm to
  · obtain ⟨gp, gc, he, C⟩ := h7.yes hm
    have P := turn_law hm
    refine ⟨_, _, _, _, _, _, _, _, _, _, _, _, _, he, ?_⟩
    refine (ggood_ok (hf.ext xa) fc (by omega)).mono fun e u2 ⟨he, hu2⟩ => ⟨_, he, fun hn => (by rw [goodG_iff.2 hm.1] at hn; cases hn), fun _ => ?_⟩
    have x2 := xa.ext hu2
    refine (ggood_ok (ht.ext x2) tc (by omega)).mono fun e u3 ⟨he, hu3⟩ => ⟨_, he, fun hn => (by rw [goodG_iff.2 hm.2.1] at hn; cases hn), fun _ => ⟨fun hn => (hn hm.2.2.1).elim, fun _ => ⟨fun hn => (hn hm.2.2.2.1).elim, fun _ => ⟨fun hn => (by have := hm.2.2.2.2; omega), fun _ => ?_⟩⟩⟩⟩
    have x3 := x2.ext hu3
    have y3 := (ha.ext hu2).ext hu3
    have hfew := P.few
    have hgl := few_cells P.good
    refine (sent_ok (hf.ext x3) fc hfl (l := (turnD frm to).2) (by omega) P.runs (bstr_list _)).mono fun e u4 ⟨p4, c4, he, hc4, hu4⟩ => ⟨_, _, _, _, _, _, _, _, _, _, _, _, he, ?_⟩
    have ha4 : Ext u4 (allocW u4 hole) := (Upd.refl _).alloc _
    have x4 := (x3.ext hu4).ext ha4
    refine ⟨fun _ => ⟨fun _ => ⟨fun _ => ?_, fun hn => (hn (by rw [bstr_size]; omega)).elim⟩, fun hn => (by cases hn)⟩, fun hn => (hn rfl).elim⟩
    refine (sameGridK_ok (hc4.ext ha4) (C.ext ((y3.ext hu4).ext ha4)) c4 gc (by omega) rfl).mono fun e u5 ⟨he, hu5⟩ => ⟨_, he, fun _ => ?_, fun hn => (by cases hn)⟩
    have hsame : sameC_k (turnD frm to).1 to = true := by unfold sameC_k; exact decide_eq_true ⟨P.wide, P.high, P.cells⟩
    refine (sameCells_ok_k (hc4.ext (ha4.ext hu5)) (ht.ext (x4.ext hu5)) c4 tc (by omega)).mono fun e u6 ⟨he, hu6⟩ => ⟨_, he, fun _ => ⟨fun _ => ⟨fun _ => dr ((x4.ext hu5).ext hu6), fun hn => (hn P.col).elim⟩, fun hn => (hn P.row).elim⟩, fun hn => (by rw [hsame] at hn; cases hn)⟩
  · refine ⟨_, _, _, _, _, _, _, _, _, _, _, _, _, h7.no hm, ?_⟩
    have sg : ∀ {v : World}, Ext u v → Spec Tryd.prog fn_fenestrakeep_sameGrid #[GrV frm fp frm.cells.length fc, GrV frm fp frm.cells.length fc] v fun e v' => ∃ b : Bool, e = .returned (.bool b) ∧
        (b = true → Spec Tryd.prog fn_fenestrakeep_draws #[] v' fun e v' => ∃ b : Bool, e = .returned (.bool b) ∧ Told u true (.returned (.bool b)) v') ∧ (b = false → Told u true (.returned (.bool false)) v') := fun hv =>
      (sameGridK_ok (hf.ext hv) (hf.ext hv) fc fc (by omega) rfl).mono fun e v' ⟨he, hv'⟩ => ⟨_, he, fun _ => dr (hv.ext hv'), fun hn => (by cases hn)⟩
    refine (ggood_ok (hf.ext xa) fc (by omega)).mono fun e u2 ⟨he, hu2⟩ => ⟨_, he, fun _ => ⟨fun _ => ⟨fun _ => sg (xa.ext hu2), fun hn => (hn rfl).elim⟩, fun hn => (hn rfl).elim⟩, fun hb => ?_⟩
    have gf := goodG_iff.1 hb
    have x2 := xa.ext hu2
    refine (ggood_ok (ht.ext x2) tc (by omega)).mono fun e u3 ⟨he, hu3⟩ => ⟨_, he, fun _ => ⟨fun _ => ⟨fun _ => sg (x2.ext hu3), fun hn => (hn rfl).elim⟩, fun hn => (hn rfl).elim⟩, fun hb => ?_⟩
    have gt := goodG_iff.1 hb
    have x3 := x2.ext hu3
    refine ⟨fun _ => ⟨fun _ => ⟨fun _ => sg x3, fun hn => (hn rfl).elim⟩, fun hn => (hn rfl).elim⟩, fun hw => ⟨fun _ => ⟨fun _ => ⟨fun _ => sg x3, fun hn => (hn rfl).elim⟩, fun hn => (hn rfl).elim⟩, fun hh => ⟨fun _ => ⟨fun _ => ⟨fun _ => sg x3, fun hn => (hn rfl).elim⟩, fun hn => (hn rfl).elim⟩, fun hc => ?_⟩⟩⟩
    exact (hm ⟨gf, gt, hw, hh, by have := gt.c2; omega⟩).elim

theorem drawSame_ok {u : World} {g : Gr} {p : Option Addr} (h : Cells u p g.cells) (c : Nat) (hl : g.cells.length ≤ 10000000) :
    Spec Tryd.prog fn_fenestrakeep_DrawSame #[GrV g p g.cells.length c] u (Told u true) := by
  apply vc_fenestrakeep_DrawSame_spec
  unfold vc_fenestrakeep_DrawSame
  simp only [decide_eq_true_eq, decide_eq_false_iff_not, Bool.not_eq_true', Bool.not_eq_false', true_and]
  have hu : Ext u (allocW u hole) := (Upd.refl u).alloc _
  have dr : ∀ {v : World}, Ext u v → Spec Tryd.prog fn_fenestrakeep_draws #[] v fun e v' => ∃ b : Bool, e = .returned (.bool b) ∧ Told u true (.returned (.bool b)) v' := fun hv => draws_ok.mono fun e v' ⟨he, hv'⟩ => ⟨_, he, rfl, hv.ext hv'⟩
  refine (ggood_ok (h.ext hu) c (by omega)).mono fun e u1 ⟨he, hu1⟩ => ⟨_, he, fun _ => dr (hu.ext hu1), fun hb => ⟨fun _ => dr (hu.ext hu1), fun hc => ?_⟩⟩
  have gg := goodG_iff.1 hb
  have x1 := hu.ext hu1
  have hm : mayTurn g g := ⟨gg, gg, rfl, rfl, by have := gg.c2; omega⟩
  refine (dturn_ok (h.ext x1) (h.ext x1) c c hl hl).mono fun e u2 h7 => ?_
  obtain ⟨gp, gc, he, C⟩ := h7.yes hm
  rw [turn_same (by have := gg.w1; omega)] at he C
  have ha : Ext u2 (allocW u2 hole) := (Upd.refl _).alloc _
  have x2 := (x1.ext h7.ext).ext ha
  refine ⟨_, _, _, _, _, _, _, _, _, _, _, _, _, he, fun _ => ⟨fun _ => ?_, fun hn => (hn (by simp [bstr])).elim⟩, fun hn => (hn rfl).elim⟩
  exact (sameGridK_ok (C.ext ha) (h.ext x2) gc c (by show g.cells.length ≤ _; omega) rfl).mono fun e u3 ⟨he, hu3⟩ => ⟨_, he, fun _ => dr (x2.ext hu3), fun hn => (by cases hn)⟩

end Go.Proofs.YtkmmphkjmamckacDoor
