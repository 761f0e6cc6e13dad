/-
  A screen shown anew.
-/
import Derived.Test.YtkmmphkjmamckabDoorDWalk2
import Derived.Test.YtkmmphkjmamckabDoorZVc
namespace Go.Proofs.YtkmmphkjmamckabDoor
open Go
set_option linter.all false

/-- What Anew answers. -/
structure AnewAns (u : World) (to : Gr) (tp : Option Addr) (tc : Nat) (e : Ending) (u' : World) : Prop where
  no : ¬ (GoodG to ∧ to.col < to.wide) → e = .returned (.tuple #[.string (ByteArray.mk #[]), GrV to tp to.cells.length tc, .int .i64 1])
  yes : GoodG to ∧ to.col < to.wide → ∃ gp gc s, s.data.toList = [27, 99] ++ (turnD (newG to.wide to.high) to).2 ∧ e = .returned (.tuple #[.string s, GrV (turnD (newG to.wide to.high) to).1 gp (turnD (newG to.wide to.high) to).1.cells.length gc, .int .i64 0]) ∧ Cells u' gp (turnD (newG to.wide to.high) to).1.cells ∧ ∀ k, At gp k → u.heap.size ≤ k
  ext : Ext u u'

theorem danew_ok {u : World} {to : Gr} {tp : Option Addr} (ht : Cells u tp to.cells) (tc : Nat) (htl : to.cells.length ≤ 10000000) :
    Spec Tryd.prog fn_draw_Anew #[GrV to tp to.cells.length tc] u (AnewAns u to tp tc) := by
  apply vc_draw_Anew_spec
  unfold vc_draw_Anew
  simp only [decide_eq_true_eq, decide_eq_false_iff_not, Bool.not_eq_true', Bool.not_eq_false', true_and]
  have hu : Ext u (allocW (allocW u hole) hole) := ((Upd.refl u).alloc _).alloc _
  have no : ∀ {v : World}, Ext u v → ¬ (GoodG to ∧ to.col < to.wide) → AnewAns u to tp tc (.returned (.tuple #[.string (ByteArray.mk #[]), GrV to tp to.cells.length tc, .int .i64 1])) v := fun hv hn => ⟨fun _ => rfl, fun hy => (hn hy).elim, hv⟩
  refine (ggood_ok (ht.ext hu) tc (by omega)).mono fun e u1 ⟨he, hu1⟩ => ⟨_, he, fun hb => no (hu.ext hu1).drew fun hm => (by rw [goodG_iff.2 hm.1] at hb; cases hb), fun hb => ⟨fun hc => no (hu.ext hu1).drew fun hm => by have := hm.2; omega, fun hc => ?_⟩⟩
  have gt := goodG_iff.1 hb
  have x1 := (hu.ext hu1).drew
  have hs := new_sides gt
  have hm : mayTurn (newG to.wide to.high) to := ⟨new_ok' _ _, gt, hs.wide, hs.high, by omega⟩
  have nl : (newG to.wide to.high).cells.length ≤ 240 := few_cells (new_ok' _ _)
  have P := turn_law hm
  have hfew := P.few
  have z : (ByteArray.mk #[27, 99]).size = 2 := rfl
  have fin : ∀ {v w : World} {e : Ending}, Ext u v → Ext v w → ∀ gp gc, Cells v gp (turnD (newG to.wide to.high) to).1.cells → (∀ k, At gp k → u.heap.size ≤ k) → AnewAns u to tp tc (.returned (.tuple #[.string (ByteArray.mk #[27, 99] ++ bstr (turnD (newG to.wide to.high) to).2), GrV (turnD (newG to.wide to.high) to).1 gp (turnD (newG to.wide to.high) to).1.cells.length gc, .int .i64 0])) w := fun hv hw gp gc C hfar =>
    ⟨fun hn => (hn ⟨gt, by omega⟩).elim, fun _ => ⟨gp, gc, _, by simp [ByteArray.data_append, bstr_list], rfl, C.ext hw, hfar⟩, hv.ext hw⟩
  refine ⟨?_, ?_⟩
  · refine (gnew_ok to.wide to.high).mono fun e u2 ⟨⟨b2, he, hco, hb2⟩, hu2⟩ => ⟨_, _, _, _, _, _, _, _, _, _, _, he, ⟨?_, ?_⟩⟩
    · have x2 := x1.ext hu2
      refine (dturn_ok hco.cells (ht.ext x2) _ tc (by omega) htl).mono fun e u3 h7 => ?_
      obtain ⟨gp, gc, he, C, hfar⟩ := h7.yes hm
      have hfar2 : ∀ k, At gp k → u.heap.size ≤ k := fun k hk => (hfar k hk).elim (fun h8 => by have := at_some h8; simp only at this; have e9 : (drewW u1).heap.size = u1.heap.size := rfl; have := size_alloc (drewW u1) hole; have := (hu.ext hu1).size; omega) fun h8 => by have := x2.size; omega
      exact ⟨_, _, _, _, _, _, _, _, _, _, _, _, _, he, by rw [bstr_size]; omega, fin (e := e) (x2.ext h7.ext) ((Upd.refl _).alloc _).drew gp gc C hfar2⟩
    · have ha : Ext u2 (allocW u2 hole) := (Upd.refl _).alloc _
      have x2 := (x1.ext hu2).ext ha
      refine (dturn_ok (hco.ext ha).cells (ht.ext x2) _ tc (by omega) htl).mono fun e u3 h7 => ?_
      obtain ⟨gp, gc, he, C, hfar⟩ := h7.yes hm
      have hfar2 : ∀ k, At gp k → u.heap.size ≤ k := fun k hk => (hfar k hk).elim (fun h8 => by have := at_some h8; simp only at this; have e9 : (drewW u1).heap.size = u1.heap.size := rfl; have := size_alloc (drewW u1) hole; have := (hu.ext hu1).size; omega) fun h8 => by have := x2.size; omega
      exact ⟨_, _, _, _, _, _, _, _, _, _, _, _, _, he, by rw [bstr_size]; omega, fin (e := e) (x2.ext h7.ext) (Upd.refl _).drew gp gc C hfar2⟩
  · have ha := (Upd.refl (S := fun _ => False) (drewW u1)).alloc hole
    refine (gnew_ok to.wide to.high).mono fun e u2 ⟨⟨b2, he, hco, hb2⟩, hu2⟩ => ⟨_, _, _, _, _, _, _, _, _, _, _, he, ?_⟩
    have x2 := (x1.ext ha).ext hu2
    refine (dturn_ok hco.cells (ht.ext x2) _ tc (by omega) htl).mono fun e u3 h7 => ?_
    obtain ⟨gp, gc, he, C, hfar⟩ := h7.yes hm
    have hfar2 : ∀ k, At gp k → u.heap.size ≤ k := fun k hk => (hfar k hk).elim (fun h8 => by have := at_some h8; simp only at this; have e9 : (drewW u1).heap.size = u1.heap.size := rfl; have := size_alloc (drewW u1) hole; have := (hu.ext hu1).size; omega) fun h8 => by have := x2.size; omega
    exact ⟨_, _, _, _, _, _, _, _, _, _, _, _, _, he, by rw [bstr_size]; omega, fin (e := e) (x2.ext h7.ext) (Upd.refl _).drew gp gc C hfar2⟩

end Go.Proofs.YtkmmphkjmamckabDoor
