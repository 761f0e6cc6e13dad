/-
  What the statements of what clients see answer: true.
-/
import Derived.Test.YtkmmphkjmamckaaVWalk
import Derived.Test.YtkmmphkjmamckaaVRefW
import Derived.Test.YtkmmphkjmamckaaGRef2
import Derived.Test.YtkmmphkjmamckaaVLawV
namespace Go.Proofs.Ytkmmphkjmamckaa
open Go
set_option linter.all false

abbrev vShow : Vw := ⟨[[2]], [.zero, .zero, newG 2 2, .zero, .zero, .zero], 2, 2, 2⟩

theorem vShow_cells : (screenV vShow 3 3).cells.length = 9 ∧ (cg (screenV vShow 3 3).cells 2).ch = 46 ∧ cg (screenV vShow 3 3).cells 6 = ⟨50, 0, 0, true⟩ := by
  refine ⟨by rfl, by kernel_rfl, by kernel_rfl⟩

set_option maxRecDepth 100000 in
theorem paints_ok {u : World} : Spec Try.prog fn_fenestralaw_paints #[] u (Told u true) := by
  apply vc_fenestralaw_paints_spec
  unfold vc_fenestralaw_paints
  have e1 : Ext u (allocW u (.cells #[.int .i64 2] ty_int)) := (Upd.refl u).alloc _
  have e2 : Ext (allocW u (.cells #[.int .i64 2] ty_int)) (allocW (allocW u (.cells #[.int .i64 2] ty_int)) (.cells #[.slice (some (Addr.mk u.heap.size 0 none)) 1 1] ty_sl_int)) := (Upd.refl _).alloc _
  have n1 : Nums (allocW u (.cells #[.int .i64 2] ty_int)) (some ⟨u.heap.size, 0, none⟩) 1 [2] := (Own.fresh u (cs := numV [2]) (n := 1) (es := 1) rfl).nums
  have o2 : Own (allocW (allocW u (.cells #[.int .i64 2] ty_int)) (.cells #[.slice (some (Addr.mk u.heap.size 0 none)) 1 1] ty_sl_int)) 1 (some ⟨(allocW u (.cells #[.int .i64 2] ty_int)).heap.size, 0, none⟩) 1 1 [.slice (some (Addr.mk u.heap.size 0 none)) 1 1] := Own.fresh (allocW u (.cells #[.int .i64 2] ty_int)) (cs := [.slice (some (Addr.mk u.heap.size 0 none)) 1 1]) (n := 1) (es := 1) rfl
  have t2 : Tl (allocW (allocW u (.cells #[.int .i64 2] ty_int)) (.cells #[.slice (some (Addr.mk u.heap.size 0 none)) 1 1] ty_sl_int)) (some ⟨(allocW u (.cells #[.int .i64 2] ty_int)).heap.size, 0, none⟩) [[2]] :=
    ⟨[[.slice (some (Addr.mk u.heap.size 0 none)) 1 1]], ⟨by simpa using o2.gets, rfl, by simp⟩, ⟨_, _, rfl, n1.ext e2, fun _ _ => trivial⟩, trivial⟩
  have e3 : Ext (allocW (allocW u (.cells #[.int .i64 2] ty_int)) (.cells #[.slice (some (Addr.mk u.heap.size 0 none)) 1 1] ty_sl_int)) (allocW (allocW (allocW u (.cells #[.int .i64 2] ty_int)) (.cells #[.slice (some (Addr.mk u.heap.size 0 none)) 1 1] ty_sl_int)) hole) := (Upd.refl _).alloc _
  refine ⟨rfl, _, rfl, (gnew_ok 2 2).mono fun e u1 ⟨⟨b, he, ho, hb⟩, hu1⟩ => ⟨_, _, _, _, _, _, _, _, _, _, _, he, by decide, by decide, rfl, _, rfl, rfl, ?_⟩⟩
  have x1 := ((e1.ext e2).ext e3).ext hu1
  have t1 := t2.ext (e3.ext hu1)
  refine (pscreen_ok (v := vShow) ?_ 3 3).mono fun e u2 ⟨⟨b2, he, ho2, hb2⟩, hu2⟩ => ⟨_, _, _, _, _, _, _, _, _, _, _, he, ?_⟩
  · refine ⟨⟨_, _, rfl, t1⟩, ⟨by decide, by simp⟩, fun i hi => ?_, rfl, rfl, rfl, rfl⟩
    have z : ∀ {i : Nat} {cs : List Value}, (vShow.grids.getD i .zero) = .zero → takeN cs (1 + i * 9) 9 = some (grV .zero none 0 0) → ∃ p c, takeN cs (1 + i * 9) 9 = some (grV (vShow.grids.getD i .zero) p (vShow.grids.getD i .zero).cells.length c) ∧ Cells u1 p (vShow.grids.getD i .zero).cells ∧ (vShow.grids.getD i .zero).cells.length ≤ 1048576 ∧
        inK .i64 (vShow.grids.getD i .zero).row ∧ inK .i64 (vShow.grids.getD i .zero).col := fun {i cs} h1 h2 => by
      rw [h1]
      exact ⟨none, 0, h2, Cells.nil _, by decide, by simp only [inK]; decide, by simp only [inK]; decide⟩
    match i, hi with
    | 0, _ => exact z rfl rfl
    | 1, _ => exact z rfl rfl
    | 2, _ => exact ⟨_, _, rfl, ho.cells, by decide, by simp only [inK]; decide, by simp only [inK]; decide⟩
    | 3, _ => exact z rfl rfl
    | 4, _ => exact z rfl rfl
    | 5, _ => exact z rfl rfl
  · obtain ⟨v1, v2, v3⟩ := vShow_cells
    have hh : Ext u2 (allocW u2 hole) := (Upd.refl _).alloc _
    have C := (ho2.cells).ext hh
    obtain ⟨b3, o3, hp3, hr3⟩ := C.at (i := 2) (by omega)
    obtain ⟨b4, o4, hp4, hr4⟩ := C.at (i := 6) (by omega)
    rw [v3] at hr4
    simp only [decide_eq_true_eq, decide_eq_false_iff_not]
    refine ⟨fun _ => ⟨b3, o3, hp3, by decide, by omega, _, rfl, ⟨hr3.1, trivial⟩, fun _ => ⟨b4, o4, hp4, by decide, by omega, _, _, _, _, rfl, hr4, rfl, (x1.ext hu2).ext hh⟩, fun hn => (hn v2).elim⟩, fun hn => (hn (by omega)).elim⟩

theorem paintSees_ok {u : World} {cs : List Value} {v : Vw} (h : VwM u cs v) (row col : Int) (hr : inK .i64 row) (hc : inK .i64 col) :
    Spec Try.prog fn_fenestralaw_PaintSees #[.agg cs.toArray, .int .i64 row, .int .i64 col] u (Told u true) := by
  apply vc_fenestralaw_PaintSees_spec
  unfold vc_fenestralaw_PaintSees
  have hd : Ext u (drewW (allocW u hole)) := ((Upd.refl u).alloc _).drew
  refine ⟨h.whole, h.whole, (pcell_ok (h.ext hd) row col hr hc).mono fun e u1 ⟨he, hu1⟩ => ⟨_, _, _, _, he, (seenAt_ok (h.ext (hd.ext hu1)) row col hr hc).mono fun e u2 ⟨he, hu2⟩ => ⟨_, _, _, _, he, ?_⟩⟩⟩
  rw [clEqR]
  refine ⟨fun _ => ⟨h.whole, h.whole, ?_⟩, fun hn => by simp at hn⟩
  have x2 := (hd.ext hu1).ext hu2
  refine (pstatus_ok (h.ext x2) col hc).mono fun e u3 ⟨he, hu3⟩ => ⟨_, _, _, _, he, (footAt_ok (h.ext (x2.ext hu3)) col hc).mono fun e u4 ⟨he, hu4⟩ => ⟨_, _, _, _, he, ?_⟩⟩
  rw [clEqR]
  exact ⟨fun _ => paints_ok.mono fun e u5 ⟨he, hu5⟩ => ⟨_, he, rfl, ((x2.ext hu3).ext hu4).ext hu5⟩, fun hn => by simp at hn⟩

theorem paintScreens_ok {u : World} {cs : List Value} {v : Vw} (h : VwM u cs v) (wide high : Int) :
    Spec Try.prog fn_fenestralaw_PaintScreens #[.agg cs.toArray, .int .i64 wide, .int .i64 high] u (Told u true) := by
  apply vc_fenestralaw_PaintScreens_spec
  unfold vc_fenestralaw_PaintScreens
  have hd : Ext u (drewW (allocW u hole)) := ((Upd.refl u).alloc _).drew
  refine ⟨h.whole, h.whole, (pscreen_ok (h.ext hd) wide high).mono fun e u1 ⟨⟨b, he, ho, _⟩, hu1⟩ => ⟨_, _, _, _, _, _, _, _, _, _, _, he, (screenOf_ok (h.ext (hd.ext hu1)) wide high).mono fun e u2 ⟨⟨p2, c2, he, ho2, _⟩, hu2⟩ => ⟨_, _, _, _, _, _, _, _, _, _, _, he, ?_⟩⟩⟩
  have hl : (screenV v wide high).cells.length ≤ 100000000 := by
    have hg := new_ok' wide high
    have := few_cells hg
    have h1 := cells_len' hg
    show (screenCells v (newG wide high).wide.toNat (newG wide high).high.toNat).length ≤ _
    rw [screen_len, Nat.mul_comm, ← h1]
    omega
  refine (sameGrid_ok (ho.cells.ext hu2) ⟨ho2.gets⟩ _ c2 hl).mono fun e u3 ⟨he, hu3⟩ => ⟨_, he, fun _ => ?_, fun hn => by rw [sameGb_iff.2 rfl] at hn; cases hn⟩
  exact paints_ok.mono fun e u4 ⟨he, hu4⟩ => ⟨_, he, rfl, (((hd.ext hu1).ext hu2).ext hu3).ext hu4⟩

end Go.Proofs.Ytkmmphkjmamckaa
