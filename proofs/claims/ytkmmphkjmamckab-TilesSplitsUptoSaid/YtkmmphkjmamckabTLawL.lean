/-
  What the statements of panes' places answer: true.
-/
import Derived.Test.YtkmmphkjmamckabTKill
import Derived.Test.YtkmmphkjmamckabTRef2
import Derived.Test.YtkmmphkjmamckabVLawT
namespace Go.Proofs.Ytkmmphkjmamckab
open Go
set_option linter.all false

theorem lays_ok {u : World} : Spec Try.prog fn_fenestralaw_lays #[] u (Told u true) := by
  apply vc_fenestralaw_lays_spec
  unfold vc_fenestralaw_lays
  have e1 : Ext u (allocW u (.cells #[.int .i64 0] ty_int)) := (Upd.refl u).alloc _
  have e2 : Ext (allocW u (.cells #[.int .i64 0] ty_int)) (allocW (allocW u (.cells #[.int .i64 0] ty_int)) (.cells #[.slice (some (Addr.mk u.heap.size 0 none)) 1 1] ty_sl_int)) := (Upd.refl _).alloc _
  have n1 : Nums (allocW u (.cells #[.int .i64 0] ty_int)) (some ⟨u.heap.size, 0, none⟩) 1 [0] := (Own.fresh u (cs := numV [0]) (n := 1) (es := 1) rfl).nums
  have o2 : Own (allocW (allocW u (.cells #[.int .i64 0] ty_int)) (.cells #[.slice (some (Addr.mk u.heap.size 0 none)) 1 1] ty_sl_int)) 1 (some ⟨(allocW u (.cells #[.int .i64 0] ty_int)).heap.size, 0, none⟩) 1 1 [.slice (some (Addr.mk u.heap.size 0 none)) 1 1] := Own.fresh (allocW u (.cells #[.int .i64 0] ty_int)) (cs := [.slice (some (Addr.mk u.heap.size 0 none)) 1 1]) (n := 1) (es := 1) rfl
  have t2 : Tl (allocW (allocW u (.cells #[.int .i64 0] ty_int)) (.cells #[.slice (some (Addr.mk u.heap.size 0 none)) 1 1] ty_sl_int)) (some ⟨(allocW u (.cells #[.int .i64 0] ty_int)).heap.size, 0, none⟩) [[0]] :=
    ⟨[[.slice (some (Addr.mk u.heap.size 0 none)) 1 1]], ⟨by simpa using o2.gets, rfl, by simp⟩, ⟨_, _, rfl, n1.ext e2, fun _ _ => trivial⟩, trivial⟩
  have hs := tsplit_ok t2 1 0 3 true ⟨by decide, by simp⟩
  rw [show splitT [[0]] 0 3 true = ([[0], [3]], 0) from by decide] at hs
  have few : FewT 10000000 [[0], [3]] := ⟨by decide, by simp⟩
  refine hs.mono fun e u1 ⟨⟨p, c, he, ht⟩, hu1⟩ => ⟨_, _, _, _, he, fun _ => ?_, fun hn => (by simp at hn)⟩
  have e3 : Ext u1 (allocW u1 hole) := (Upd.refl u1).alloc _
  refine (has_ok (ht.ext e3) c 3 few).mono fun e u2 ⟨he, hu2⟩ => ⟨_, he, fun _ => ?_, fun hn => (by rw [show hasT [[0], [3]] 3 = true from by decide] at hn; cases hn)⟩
  refine (where_ok (ht.ext (e3.ext hu2)) c 9 2 3 few).mono fun e u3 ⟨he, hu3⟩ => ⟨_, _, _, _, he, ?_⟩
  rw [show whereT [[0], [3]] 9 2 3 = ⟨0, 5, 2, 4⟩ from by decide]
  exact ⟨rfl, ((((e1.ext e2).ext hu1).ext e3).ext hu2).ext hu3⟩

theorem tilesPlaces_ok {u : World} {q : Option Addr} {t : Cols} (h : Tl u q t) (c : Nat) (hl : FewT 1048576 t) (wide high p n : Int) :
    Spec Try.prog fn_fenestralaw_TilesPlaces #[TlV q t c, .int .i64 wide, .int .i64 high, .int .i64 p, .int .i64 n] u (Told u true) := by
  apply vc_fenestralaw_TilesPlaces_spec
  unfold vc_fenestralaw_TilesPlaces
  simp only [decide_eq_true_eq, decide_eq_false_iff_not]
  have hu : Ext u (allocW u hole) := (Upd.refl u).alloc _
  have few : FewT 10000000 t := ⟨by have := hl.n; omega, fun c hc => by have := hl.each c hc; omega⟩
  refine (share_ok wide n p).mono fun e u1 ⟨he, hu1⟩ => ⟨_, _, he, (shareOf_ok wide n p).mono fun e u2 ⟨he, hu2⟩ => ⟨_, _, he, fun _ => ⟨fun _ => ?_, fun hn => (hn rfl).elim⟩, fun hn => (hn rfl).elim⟩⟩
  have hd : Ext u (drewW u2) := ((hu.ext hu1).ext hu2).drew
  refine (copyTiles_ok (h.ext hd) c hl).mono fun e u3 ⟨⟨p3, c3, he, ht⟩, hu3⟩ => ⟨_, _, _, he, ?_⟩
  refine (where_ok ht c3 wide high p few).mono fun e u4 ⟨he, hu4⟩ => ⟨_, _, _, _, he, ?_⟩
  have x4 := (hd.ext hu3).ext hu4
  refine (placeOf_ok (h.ext x4) c wide high p hl).mono fun e u5 ⟨he, hu5⟩ => ⟨_, _, _, _, he, fun _ => ?_, fun hn => (by simp at hn)⟩
  exact lays_ok.mono fun e u6 ⟨he, hu6⟩ => ⟨_, he, rfl, (x4.ext hu5).ext hu6⟩

theorem few_split {t : Cols} (hl : FewT 1048576 t) (p n : Int) (right : Bool) : FewT 10000000 (splitT t p n right).1 := by
  have few : FewT 10000000 t := ⟨by have := hl.n; omega, fun c hc => by have := hl.each c hc; omega⟩
  have hn := hl.n
  unfold splitT
  split
  · exact few
  split
  · exact few
  next i k hf =>
    split
    · exact few
    split
    · exact few
    split
    · refine ⟨?_, fun c hc => ?_⟩
      · show (insL t (i + 1) [n]).length ≤ _
        unfold insL
        simp only [List.length_append, List.length_take, List.length_cons, List.length_drop]
        omega
      · have hc' : c ∈ t.take (i + 1) ++ [n] :: t.drop (i + 1) := hc
        rcases List.mem_append.1 hc' with h1 | h1
        · exact few.each _ (List.mem_of_mem_take h1)
        · rcases List.mem_cons.1 h1 with rfl | h1
          · show 1 ≤ _; decide
          · exact few.each _ (List.mem_of_mem_drop h1)
    · refine ⟨by show (t.set i _).length ≤ _; rw [List.length_set]; omega, fun c hc => ?_⟩
      rcases List.mem_or_eq_of_mem_set hc with h1 | rfl
      · exact few.each _ h1
      · have := hl.getD i
        unfold insL
        simp only [List.length_append, List.length_take, List.length_cons, List.length_drop]
        omega

theorem few_kill {t : Cols} (hl : FewT 1048576 t) (p : Int) : FewT 10000000 (killT t p).1 := by
  have few : FewT 10000000 t := ⟨by have := hl.n; omega, fun c hc => by have := hl.each c hc; omega⟩
  have hn := hl.n
  unfold killT
  split
  · exact few
  split
  · exact few
  next i k hf =>
    split
    · exact few
    split
    · refine ⟨Nat.le_trans (List.length_eraseIdx_le ..) (by omega), fun c hc => few.each _ (List.mem_of_mem_eraseIdx hc)⟩
    · refine ⟨by show (t.set i _).length ≤ _; rw [List.length_set]; omega, fun c hc => ?_⟩
      rcases List.mem_or_eq_of_mem_set hc with h1 | rfl
      · exact few.each _ h1
      · exact Nat.le_trans (List.length_eraseIdx_le ..) (by have := hl.getD i; omega)

theorem tilesSplits_ok {u : World} {q : Option Addr} {t : Cols} (h : Tl u q t) (c : Nat) (hl : FewT 1048576 t) (p n : Int) (right : Bool) :
    Spec Try.prog fn_fenestralaw_TilesSplits #[TlV q t c, .int .i64 p, .int .i64 n, .bool right] u (Told u true) := by
  apply vc_fenestralaw_TilesSplits_spec
  unfold vc_fenestralaw_TilesSplits
  simp only [decide_eq_true_eq, decide_eq_false_iff_not, beq_iff_eq, beq_eq_false_iff_ne]
  have hu : Ext u (allocW u hole) := (Upd.refl u).alloc _
  have few : FewT 10000000 t := ⟨by have := hl.n; omega, fun c hc => by have := hl.each c hc; omega⟩
  have al : ∀ v : World, Ext v (allocW v hole) := fun v => (Upd.refl v).alloc _
  have same : ∀ a : Cols, sameT a a = true := fun a => by unfold sameT; exact decide_eq_true rfl
  refine (copyTiles_ok (h.ext hu) c hl).mono fun e u1 ⟨⟨p1, c1, he, ht⟩, hu1⟩ => ⟨_, _, _, he, ?_⟩
  refine (tsplit_ok (ht.ext (al u1)) c1 p n right few).mono fun e u2 ⟨⟨p2, c2, he, ht2⟩, hu2⟩ => ⟨_, _, _, _, he, ?_⟩
  have a2 := (al u1).ext hu2
  have x2 := (hu.ext hu1).ext a2
  refine (splitTiles_ok (h.ext (x2.ext (al u2))) c p n right hl).mono fun e u3 ⟨⟨p3, c3, he, ht3⟩, hu3⟩ => ⟨_, _, _, _, he, ?_⟩
  have a3 := (al u2).ext hu3
  have x3 := x2.ext a3
  refine (tkill_ok (ht.ext ((a2.ext a3).ext (al u3))) c1 p few).mono fun e u4 ⟨⟨p4, c4, he, ht4⟩, hu4⟩ => ⟨_, _, _, _, he, ?_⟩
  have a4 := (al u3).ext hu4
  have x4 := x3.ext a4
  refine (killPane_ok (h.ext (x4.ext (al u4))) c p hl).mono fun e u5 ⟨⟨p5, c5, he, ht5⟩, hu5⟩ => ⟨_, _, _, _, he, ?_⟩
  have a5 := (al u4).ext hu5
  have hd : Ext u5 (drewW (allocW u5 hole)) := (al u5).drew
  have x5 := (x4.ext a5).ext hd
  refine (sameTiles_ok (ht2.ext (((a3.ext a4).ext a5).ext hd)) (ht3.ext ((a4.ext a5).ext hd)) c2 c3 (few_split hl p n right)).mono fun e u6 ⟨he, hu6⟩ => ⟨_, he, fun _ => ⟨fun _ => ?_, fun hn => (hn rfl).elim⟩, fun hn => (by rw [same] at hn; cases hn)⟩
  have x6 := x5.ext hu6
  refine (sameTiles_ok (ht4.ext ((a5.ext hd).ext hu6)) (ht5.ext (hd.ext hu6)) c4 c5 (few_kill hl p)).mono fun e u7 ⟨he, hu7⟩ => ⟨_, he, fun _ => ⟨fun _ => ?_, fun hn => (hn rfl).elim⟩, fun hn => (by rw [same] at hn; cases hn)⟩
  have x7 := x6.ext hu7
  have b7 : Ext u1 u7 := (((((a2.ext a3).ext a4).ext a5).ext hd).ext hu6).ext hu7
  refine (tgood_ok (ht.ext b7) c1 few).mono fun e u8 ⟨he, hu8⟩ => ⟨_, he, (goodTiles_ok (h.ext (x7.ext hu8)) c hl).mono fun e u9 ⟨he, hu9⟩ => ⟨_, he, fun _ => ?_, fun hn => (hn rfl).elim⟩⟩
  have b9 := (b7.ext hu8).ext hu9
  have x9 := (x7.ext hu8).ext hu9
  refine (has_ok (ht.ext b9) c1 p few).mono fun e v1 ⟨he, hv1⟩ => ⟨_, he, (hasPane_ok (h.ext (x9.ext hv1)) c p hl).mono fun e v2 ⟨he, hv2⟩ => ⟨_, he, fun _ => ?_, fun hn => (hn rfl).elim⟩⟩
  have y2 := (hv1.ext hv2)
  refine (sameTiles_ok (ht.ext (b9.ext y2)) (h.ext (x9.ext y2)) c1 c few).mono fun e v3 ⟨he, hv3⟩ => ⟨_, he, fun _ => ?_, fun hn => (by rw [same] at hn; cases hn)⟩
  exact lays_ok.mono fun e v4 ⟨he, hv4⟩ => ⟨_, he, rfl, ((x9.ext y2).ext hv3).ext hv4⟩

end Go.Proofs.Ytkmmphkjmamckab
