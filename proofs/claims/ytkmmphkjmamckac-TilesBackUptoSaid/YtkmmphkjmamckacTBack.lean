/-
  What the statement of a pane put in and taken out again answers: true.
-/
import Derived.Test.YtkmmphkjmamckacTKill
import Derived.Test.YtkmmphkjmamckacPSameB
import Derived.Test.YtkmmphkjmamckacVKeepB
import Derived.Test.YtkmmphkjmamckacVKeepT
namespace Go.Proofs.Ytkmmphkjmamckac
open Go
set_option linter.all false

theorem laysB_ok {u : World} : Spec Try.prog fn_fenestrakeep_lays #[] u (Told u true) := by
  apply vc_fenestrakeep_lays_spec
  unfold vc_fenestrakeep_lays
  have e1 : Ext u (allocW u (.cells #[.int .i64 0] ty_int)) := (Upd.refl u).alloc _
  have e2 : Ext (allocW u (.cells #[.int .i64 0] ty_int)) (allocW (allocW u (.cells #[.int .i64 0] ty_int)) (.cells #[.slice (some (Addr.mk u.heap.size 0 none)) 1 1] ty_sl_int)) := (Upd.refl _).alloc _
  have n1 : Nums (allocW u (.cells #[.int .i64 0] ty_int)) (some ⟨u.heap.size, 0, none⟩) 1 [0] := (Own.fresh u (cs := numV [0]) (n := 1) (es := 1) rfl).nums
  have o2 : Own (allocW (allocW u (.cells #[.int .i64 0] ty_int)) (.cells #[.slice (some (Addr.mk u.heap.size 0 none)) 1 1] ty_sl_int)) 1 (some ⟨(allocW u (.cells #[.int .i64 0] ty_int)).heap.size, 0, none⟩) 1 1 [.slice (some (Addr.mk u.heap.size 0 none)) 1 1] := Own.fresh (allocW u (.cells #[.int .i64 0] ty_int)) (cs := [.slice (some (Addr.mk u.heap.size 0 none)) 1 1]) (n := 1) (es := 1) rfl
  have t2 : Tl (allocW (allocW u (.cells #[.int .i64 0] ty_int)) (.cells #[.slice (some (Addr.mk u.heap.size 0 none)) 1 1] ty_sl_int)) (some ⟨(allocW u (.cells #[.int .i64 0] ty_int)).heap.size, 0, none⟩) [[0]] :=
    ⟨[[.slice (some (Addr.mk u.heap.size 0 none)) 1 1]], ⟨by simpa using o2.gets, rfl, by simp⟩, ⟨_, _, rfl, n1.ext e2, fun _ _ => trivial⟩, trivial⟩
  have hs := tsplit_ok t2 1 0 3 true ⟨by decide, by simp⟩
  rw [show splitT [[0]] 0 3 true = ([[0], [3]], 0) from by decide] at hs
  have few : FewT 10000000 [[0], [3]] := ⟨by decide, by simp⟩
  refine hs.mono fun e u1 ⟨⟨p, c, he, ht⟩, hu1⟩ => ⟨_, _, _, _, he, fun _ => ?_, fun hn => (by simp at hn)⟩
  have e3 : Ext u1 (allocW u1 hole) := (Upd.refl u1).alloc _
  refine (has_ok (ht.ext e3) c 3 few).mono fun e u2 ⟨he, hu2⟩ => ⟨_, he, fun _ => ?_, fun hn => (by rw [show hasT [[0], [3]] 3 = true from by decide] at hn; cases hn)⟩
  refine (where_ok (ht.ext (e3.ext hu2)) c 9 2 3 few).mono fun e u3 ⟨he, hu3⟩ => ⟨_, _, _, _, he, ?_⟩
  rw [show whereT [[0], [3]] 9 2 3 = ⟨0, 5, 2, 4⟩ from by decide]
  exact ⟨rfl, ((((e1.ext e2).ext hu1).ext e3).ext hu2).ext hu3⟩

theorem tilesBack_ok {u : World} {q : Option Addr} {t : Cols} (h : Tl u q t) (c : Nat) (hl : FewT 1048576 t) (p n : Int) (right : Bool) :
    Spec Try.prog fn_fenestrakeep_TilesBack #[TlV q t c, .int .i64 p, .int .i64 n, .bool right] u (Told u true) := by
  apply vc_fenestrakeep_TilesBack_spec
  unfold vc_fenestrakeep_TilesBack
  simp only [decide_eq_true_eq, decide_eq_false_iff_not, true_and, Bool.not_eq_true', Bool.not_eq_false']
  have few : FewT 10000000 t := ⟨by have := hl.n; omega, fun c hc => by have := hl.each c hc; omega⟩
  have al : ∀ v : World, Ext v (allocW v hole) := fun v => (Upd.refl v).alloc _
  refine (tsplit_ok (h.ext (al u)) c p n right few).mono fun e u1 ⟨⟨p1, c1, he, ht⟩, hu1⟩ => ⟨_, _, _, _, he, ?_⟩
  have x1 := (al u).ext hu1
  refine ⟨fun _ => laysB_ok.mono fun e v ⟨he, hv⟩ => ⟨_, he, rfl, (x1.ext (al u1)).ext hv⟩, fun h0 => ?_⟩
  refine laysB_ok.mono fun e u2 ⟨he, hu2⟩ => ⟨_, he, fun hn => (by cases hn), fun _ => ?_⟩
  have b2 := (al u1).ext hu2
  have x2 := x1.ext b2
  obtain ⟨g1, g2, _⟩ := split_good h0
  have hb := split_back h0
  have few1 : FewT 10000000 (splitT t p n right).1 := ⟨by have := g1.few'.n; omega, fun c hc => by have := g1.few'.each c hc; omega⟩
  have hk := tkill_ok (ht.ext b2) c1 n few1
  rw [hb] at hk
  refine hk.mono fun e u3 ⟨⟨p3, c3, he, ht3⟩, hu3⟩ => ⟨_, _, _, _, he, ?_⟩
  have b3 := (b2.ext hu3).ext (al u3)
  refine (tgood_ok (ht.ext b3) c1 few1).mono fun e u4 ⟨he, hu4⟩ => ⟨_, he, fun hn => (by rw [goodT_iff.2 g1] at hn; cases hn), fun _ => ?_⟩
  refine (has_ok (ht.ext (b3.ext hu4)) c1 n few1).mono fun e u5 ⟨he, hu5⟩ => ⟨_, he, fun hn => (by rw [g2] at hn; cases hn), fun _ => ⟨fun hn => (hn rfl).elim, fun _ => ⟨fun hn => (hn rfl).elim, fun _ => ?_⟩⟩⟩
  have y5 := ((al u3).ext hu4).ext hu5
  have x5 := (x2.ext hu3).ext y5
  refine ⟨fun x v => Ext u5 v ∧ 0 ≤ x ∧ x ≤ t.length, fun x _ => (t.length - x).toNat, ⟨Upd.refl _, Int.le_refl _, by omega⟩, ?_⟩
  rintro x v ⟨hv, h0, h1⟩
  refine ⟨fun hx => ?_, fun hx => ⟨rfl, x5.ext hv⟩⟩
  have hd := hv.drew
  obtain ⟨b, o, q', c', hp, hr, hnum⟩ := (ht3.ext (y5.ext hd)).at (i := x.toNat) (by omega)
  obtain ⟨b1, o1, q1, c1', hp1, hr1, hnum1⟩ := (h.ext (x5.ext hd)).at (i := x.toNat) (by omega)
  have hf := hl.getD x.toNat
  refine ⟨b, o, hp, h0, hx, _, _, _, rfl, hr, b1, o1, hp1, h0, hx, _, _, _, rfl, hr1, ?_⟩
  refine (sameNumbersB_ok _ _ _ _ _ _ hnum hnum1 (by show (t.getD x.toNat []).length ≤ _; omega)).mono fun e v2 ⟨he, hv2⟩ => ⟨_, he, fun hn => (by simp at hn), fun _ => ⟨by have := hl.n; simp only [inK]; omega, ⟨hd.ext hv2, by omega, by omega⟩, by first | omega | (dsimp only; omega)⟩⟩

end Go.Proofs.Ytkmmphkjmamckac
