/-
  What the document's statements of many events and of sides answer: true.
-/
import Derived.Test.YtkmmphkjmamckabGRef5
import Derived.Test.YtkmmphkjmamckabGSize
import Derived.Test.YtkmmphkjmamckabGShowsL
import Derived.Test.YtkmmphkjmamckabGWalk6
namespace Go.Proofs.Ytkmmphkjmamckab
open Go
set_option linter.all false

theorem do_len' {g : Gr} {B : Nat} (hB : 240 ≤ B) (hl : g.cells.length ≤ B) (e : Ev) : (doG g e).1.cells.length ≤ B := by
  by_cases hg : GoodG g
  · have := few_cells (do_ok' hg e).1
    omega
  · rw [do_bad hg]
    exact hl

theorem all_len {B : Nat} (hB : 240 ≤ B) : ∀ (es : List Ev) (g : Gr), g.cells.length ≤ B → (allG g es).1.cells.length ≤ B
  | [], g, h => h
  | e :: es, g, h => by
    unfold allG
    split
    · exact all_len hB es _ (do_len' hB h e)
    · exact do_len' hB h e

theorem gridAll_ok {u : World} {g : Gr} {p : Option Addr} (h : Cells u p g.cells) (c : Nat) (hl : g.cells.length ≤ 10000000) {es : List Ev} {ep : Option Addr} {ok : Nat → Prop} (he : EvL u ok ep es.length es) (ec : Nat) (hen : es.length ≤ 10000000) (hfew : ∀ e ∈ es, e.ps.length ≤ 10000000 ∧ e.pl.size ≤ 10000000) :
    Spec Try.prog fn_fenestralaw_GridAll #[GrV g p g.cells.length c, .slice ep es.length ec] u (Told u true) := by
  apply vc_fenestralaw_GridAll_spec
  unfold vc_fenestralaw_GridAll
  simp only [decide_eq_true_eq, decide_eq_false_iff_not, Bool.not_eq_true', Bool.not_eq_false', true_and]
  have hu : Ext u (allocW u hole) := (Upd.refl u).alloc _
  refine (copyGrid_ok (h.ext hu) c (by omega)).mono fun r u1 ⟨⟨pc, cc, hr, ho, _⟩, hu1⟩ => ⟨_, _, _, _, _, _, _, _, _, _, _, hr, ?_⟩
  have x1 := hu.ext hu1
  have C1 : Cells u1 pc g.cells := ⟨ho.gets⟩
  refine (gall_ok C1 cc hl (he.ext x1) ec hen hfew).mono fun r u2 ⟨⟨pa, ca, hr, ha⟩, hu2⟩ => ⟨_, _, _, _, _, _, _, _, _, _, _, _, hr, ?_⟩
  have x2 := x1.ext hu2
  have a2 : Ext u2 (allocW u2 hole) := (Upd.refl _).alloc _
  have hal := all_len (B := 10000000) (by decide) es g hl
  refine (goodGrid_ok (h.ext (x2.ext a2)) c (by omega)).mono fun r u3 ⟨hr, hu3⟩ => ⟨_, hr, fun hb => ?_, fun hb => ?_⟩
  all_goals
    have y3 := a2.ext hu3
    have x3 := x2.ext y3
  · have hng : ¬ GoodG g := fun hg => by rw [goodG_iff.2 hg] at hb; cases hb
    have hall : (allG g es).1 = g ∧ ((allG g es).2 = 0 ↔ es.length = 0) := by
      cases es with
      | nil => exact ⟨rfl, by simp [allG]⟩
      | cons e es =>
        unfold allG
        rw [do_bad hng]
        simp
    refine ⟨fun _ => ?_, fun hn => ?_⟩
    · refine (sameGrid_ok (ha.ext y3) (h.ext x3) ca c (by omega)).mono fun r u4 ⟨hr, hu4⟩ => ⟨_, hr, fun _ => ?_, fun hn => ?_⟩
      · exact shows_ok_l.mono fun r u5 ⟨hr, hu5⟩ => ⟨_, hr, rfl, (x3.ext hu4).ext hu5⟩
      · rw [sameGb_iff.2 hall.1] at hn; cases hn
    · exfalso
      have : decide (((es.length : Nat) : Int) = 0) = decide ((allG g es).2 = 0) := by
        apply decide_eq_decide.2
        rw [hall.2]
        omega
      rw [this] at hn
      simp at hn
  · refine ⟨fun f i w hi p n c r cl ik bo t bt v => ∃ l, Cells v p l ∧ n = l.length ∧ l.length ≤ 10000000 ∧ Ext u v ∧ Ext u2 v ∧ 0 ≤ i ∧ i ≤ es.length ∧ allG g es = if f = 0 then allG ⟨w, hi, l, r, cl, ik, bo, t, bt⟩ (es.drop i.toNat) else (⟨w, hi, l, r, cl, ik, bo, t, bt⟩, f), fun _ i _ _ _ _ _ _ _ _ _ _ _ _ => (es.length - i).toNat,
      ⟨g.cells, h.ext (x3.alloc _), rfl, hl, x3.alloc _, y3.alloc _, Int.le_refl _, by omega, by simp⟩, ?_⟩
    rintro f i w hi p n c r cl ik bo t bt v ⟨l, hc, rfl, hll, hv, hv2, h0, h1, heq⟩
    have fin : allG g es = (⟨w, hi, l, r, cl, ik, bo, t, bt⟩, f) → Spec Try.prog fn_fenestraref_SameGrid #[GrV (allG g es).1 pa (allG g es).1.cells.length ca, .agg #[.int .i64 w, .int .i64 hi, .slice p l.length c, .int .i64 r, .int .i64 cl, .int .i64 ik, .bool bo, .int .i64 t, .int .i64 bt]] v fun e u17 => ∃ x56 : Bool, e = .returned (.bool x56) ∧
        (x56 = true → ((allG g es).2 = f → Spec Try.prog fn_fenestralaw_shows #[] u17 fun e u18 => ∃ x63 : Bool, e = .returned (.bool x63) ∧ Told u true (.returned (.bool x63)) u18) ∧ (¬ (allG g es).2 = f → Told u true (.returned (.bool false)) u17)) ∧ (x56 = false → Told u true (.returned (.bool false)) u17) := fun hf => by
      refine (sameGrid_ok (b := ⟨w, hi, l, r, cl, ik, bo, t, bt⟩) (ha.ext hv2) hc ca c (by omega)).mono fun r u4 ⟨hr, hu4⟩ => ⟨_, hr, fun _ => ⟨fun _ => ?_, fun hn => ?_⟩, fun hn => ?_⟩
      · exact shows_ok_l.mono fun r u5 ⟨hr, hu5⟩ => ⟨_, hr, rfl, (hv.ext hu4).ext hu5⟩
      · rw [hf] at hn; exact (hn rfl).elim
      · rw [sameGb_iff.2 (by rw [hf])] at hn; cases hn
    refine ⟨fun hx => ⟨fun hf0 => ?_, fun hf0 => fin (by rw [heq, if_neg hf0])⟩, fun hx => fin ?_⟩
    · rw [if_pos hf0] at heq
      have hd : Ext v (drewW v) := (Upd.refl v).drew
      obtain ⟨b, o, q, m, c2, hp, hr, hn⟩ := (he.ext (hv.ext hd)).at (i := i.toNat) (by omega)
      have hmem : es.getD i.toNat .none ∈ es := by
        rw [List.getD_eq_getElem?_getD, List.getElem?_eq_getElem (by omega)]
        exact List.getElem_mem _
      have hdrop : es.drop i.toNat = es.getD i.toNat .none :: es.drop (i.toNat + 1) := by
        rw [List.drop_eq_getElem_cons (by omega), List.getD_eq_getElem?_getD, List.getElem?_eq_getElem (by omega)]
        rfl
      rw [hdrop] at heq
      have hf := hfew _ hmem
      generalize es.getD i.toNat .none = ev at hr hn heq hf
      have hm := hn.2
      refine ⟨b, o, hp, h0, hx, _, _, _, _, _, _, rfl, hr, ?_⟩
      refine (act_ok (g := ⟨w, hi, l, r, cl, ik, bo, t, bt⟩) (hc.ext hd) c (by show l.length ≤ _; omega) ev (ec := c2) hn (by omega) (by omega)).mono fun e u4 ⟨⟨p', c', he2, hc2⟩, hu4⟩ => ⟨_, _, _, _, _, _, _, _, _, _, _, _, he2, by simp only [inK]; omega, ⟨_, hc2, rfl, do_len' (by decide) (g := ⟨w, hi, l, r, cl, ik, bo, t, bt⟩) hll ev, (hv.ext hd).ext hu4, (hv2.ext hd).ext hu4, by omega, by omega, ?_⟩, by first | omega | (dsimp only; omega)⟩
      rw [heq, show (i + 1).toNat = i.toNat + 1 by omega]
      conv => lhs; unfold allG
    · rw [heq]
      split
      · next hf0 =>
        rw [List.drop_eq_nil_of_le (by omega), hf0]
        rfl
      · rfl

theorem gridSizes_ok {u : World} {g : Gr} {p : Option Addr} (h : Cells u p g.cells) (c : Nat) (hl : g.cells.length ≤ 10000000) (wide high row col : Int) (x : Cl) :
    Spec Try.prog fn_fenestralaw_GridSizes #[GrV g p g.cells.length c, .int .i64 wide, .int .i64 high, .int .i64 row, .int .i64 col, ClV x] u (Told u true) := by
  apply vc_fenestralaw_GridSizes_spec
  unfold vc_fenestralaw_GridSizes
  simp only [decide_eq_true_eq, decide_eq_false_iff_not, Bool.not_eq_true', Bool.not_eq_false', true_and]
  have hu : Ext u (allocW (allocW u hole) hole) := ((Upd.refl u).alloc _).alloc _
  refine (copyGrid_ok (h.ext hu) c (by omega)).mono fun r u1 ⟨⟨pc, cc, hr, ho, _⟩, hu1⟩ => ⟨_, _, _, _, _, _, _, _, _, _, _, hr, ?_⟩
  have x1 := hu.ext hu1
  have C1 : Cells u1 pc g.cells := ⟨ho.gets⟩
  have a1 : Ext u1 (allocW u1 hole) := (Upd.refl _).alloc _
  refine (gresize_ok (C1.ext a1) ho.le (by omega) wide high).mono fun r u2 ⟨⟨pa, ca, hr, ha, hfa⟩, hu2⟩ => ⟨_, _, _, _, _, _, _, _, _, _, _, _, hr, ?_⟩
  have y2 := a1.ext hu2
  have x2 := x1.ext y2
  have a2 : Ext u2 (allocW u2 hole) := (Upd.refl _).alloc _
  refine (resized_ok (h.ext (x2.ext a2)) c (by omega) wide high).mono fun r u3 ⟨⟨pb, cb, hr, hb⟩, hu3⟩ => ⟨_, _, _, _, _, _, _, _, _, _, _, _, hr, ?_⟩
  have y3 := a2.ext hu3
  have x3 := x2.ext y3
  have a3 : Ext u3 (drewW (allocW u3 hole)) := ((Upd.refl _).alloc _).drew
  have hlen : (resizeG g wide high).1.cells.length ≤ 10000000 := by
    by_cases hz : (resizeG g wide high).2 = 0
    · have := hfa hz
      omega
    · unfold resizeG at hz ⊢
      split at hz
      · next hb => rw [if_pos hb]; exact hl
      · exact (hz rfl).elim
  generalize resizeG g wide high = d at ha hb hr hlen hfa ⊢
  have no : ∀ {P : Prop}, sameGb g g = false → P := fun hn => by rw [sameGb_iff.2 rfl] at hn; cases hn
  refine (sameGrid_ok (ha.ext (y3.ext a3)) (hb.ext a3) ca cb (by omega)).mono fun r u4 ⟨hr, hu4⟩ => ⟨_, hr, fun _ => ⟨fun _ => ?_, fun hn => (hn rfl).elim⟩, fun hn => ?_⟩
  rotate_left
  · rw [sameGb_iff.2 rfl] at hn; cases hn
  have y4 := a3.ext hu4
  have x4 := x3.ext y4
  refine (gnew_ok wide high).mono fun r u5 ⟨⟨bn, hr, hn1, _⟩, hu5⟩ => ⟨_, _, _, _, _, _, _, _, _, _, _, hr, (newGrid_ok wide high).mono fun r u6 ⟨⟨pn, cn, hr, hn2, _⟩, hu6⟩ => ⟨_, _, _, _, _, _, _, _, _, _, _, hr, ?_⟩⟩
  have x6 := (x4.ext hu5).ext hu6
  have ngl := few_cells (new_ok' wide high)
  refine (sameGrid_ok (hn1.cells.ext hu6) ⟨hn2.gets⟩ _ cn (by omega)).mono fun r u7 ⟨hr, hu7⟩ => ⟨_, hr, fun _ => ?_, fun hn => ?_⟩
  rotate_left
  · rw [sameGb_iff.2 rfl] at hn; cases hn
  have x7 := x6.ext hu7
  have C7 := C1.ext ((y2.ext y3).ext ((y4.ext hu5).ext (hu6.ext hu7)))
  refine (gat_ok C7 cc row col (by omega)).mono fun r u8 ⟨hr, hu8⟩ => ⟨_, _, _, _, hr, (cellAt_ok (h.ext (x7.ext hu8)) c row col (by omega)).mono fun r u9 ⟨hr, hu9⟩ => ⟨_, _, _, _, hr, ?_⟩⟩
  rw [clEqR]
  refine ⟨fun _ => ?_, fun hn => by simp at hn⟩
  have x9 := (x7.ext hu8).ext hu9
  refine (goodCell_ok x).mono fun r u10 ⟨hr, hu10⟩ => ⟨_, hr, (isCell_ok x).mono fun r u11 ⟨hr, hu11⟩ => ⟨_, hr, fun _ => ?_, fun hn => by simp at hn⟩⟩
  have x11 := (x9.ext hu10).ext hu11
  refine (sameGrid_ok (C7.ext ((hu8.ext hu9).ext (hu10.ext hu11))) (h.ext x11) cc c (by omega)).mono fun r u12 ⟨hr, hu12⟩ => ⟨_, hr, fun _ => ?_, fun hn => ?_⟩
  · exact shows_ok_l.mono fun r u13 ⟨hr, hu13⟩ => ⟨_, hr, rfl, (x11.ext hu12).ext hu13⟩
  · rw [sameGb_iff.2 rfl] at hn; cases hn

end Go.Proofs.Ytkmmphkjmamckab
