/-
  What there is, looked at: whether it is good.
-/
import Derived.Test.YtkmmphkjmamckacDoorTopPlay
import Derived.Test.YtkmmphkjmamckacDoorTopSame2
import Derived.Test.YtkmmphkjmamckacDoorZVg
namespace Go.Proofs.YtkmmphkjmamckacDoor
open Go
set_option linter.all false

theorem takeN_in {α : Type} {X G x : List α} {a n j m : Nat} (h : takeN X a n = some G) (hx : takeN X (a + j) m = some x) (hjm : j + m ≤ n) : takeN G j m = some x := by
  obtain ⟨k1, k2⟩ := takeN_get _ _ _ _ h
  obtain ⟨m1, m2⟩ := takeN_get _ _ _ _ hx
  refine takeN_mk _ _ _ _ m1 fun i hi => ?_
  rw [← m2 i hi, ← k2 (j + i) (by omega), Nat.add_assoc]

theorem okGr (g : Gr) (p : Option Addr) (n c : Nat) : okCells (grV g p n c) True := by simp [okCells]

set_option maxHeartbeats 1000000 in
theorem good1_ok {u : World} {sb : Nat} {B : Nat → Prop} {s : Sv} (h : SvM u sb B s) (I : InvS s) (tb to : Nat) (k q n m : Int) (b : ByteArray) (c i : Int) (o : ByteArray) :
    Spec Tryd.prog fn_fenestratop_TopGood_c1 #[.pointer (some ⟨sb, 0, none⟩), .pointer (some ⟨tb, to, none⟩), .agg #[.int .i64 k, .int .i64 q, .int .i64 n, .int .i64 m, .string b], .agg #[.int .i64 c, .int .i64 i, .string o]] u (Told u true) := by
  apply vc_fenestratop_TopGood_c1_spec
  unfold vc_fenestratop_TopGood_c1
  simp only [decide_eq_true_eq, decide_eq_false_iff_not, true_and, Bool.not_eq_true', Bool.not_eq_false']
  have h0 : Ext u (allocW (allocW u hole) hole) := ((Upd.refl u).alloc _).alloc _
  have few := goodFew I.cols
  obtain ⟨sd1, sd2, sd3, sd4⟩ := I.sides
  refine (srvView_ok (h.ext h0) (smallFew I.cols) (fun p hp => I.grid_or p hp)).mono fun e u1 ⟨⟨X, he, V⟩, hu1⟩ => ⟨X, he, V.len.symm, okCells_mem V.okv ⟨X, putN_all (by rw [V.len]; rfl), ?_⟩⟩
  obtain ⟨pa, ca, a0, aT⟩ := V.m.cols
  have ha : Ext u1 (allocW u1 hole) := (Upd.refl _).alloc _
  have hx1 : Ext u u1 := h0.ext hu1
  have hG : takeN X 1 54 = some ((X.drop 1).take 54) := by
    refine takeN_mk _ _ _ _ (by rw [List.length_take, List.length_drop, V.len]; rfl) fun j hj => ?_
    rw [List.getElem?_take_of_lt hj, List.getElem?_drop]
  refine ⟨pa, _, ca, a0, (tgood_ok (aT.ext ha) ca few).mono fun e w1 ⟨he, hw1⟩ => ⟨_, he, fun hn => ?_, fun _ => ⟨pa, _, ca, a0, _, V.m.focus, (has_ok (aT.ext (ha.ext hw1)) ca s.v.focus few).mono fun e w2 ⟨he, hw2⟩ => ⟨_, he, fun hn => ?_, fun _ => ⟨_, V.m.wide, fun hn => (by omega : False).elim, fun _ => ⟨_, V.m.wide, fun hn => (by omega : False).elim, fun _ => ⟨_, V.m.high, fun hn => (by omega : False).elim, fun _ => ⟨_, V.m.high, fun hn => (by omega : False).elim, fun _ => ⟨_, hG, ?_⟩⟩⟩⟩⟩⟩⟩⟩⟩
  · rw [goodT_iff.2 I.cols] at hn
    cases hn
  · rw [I.focus] at hn
    cases hn
  have xw := (ha.ext hw1).ext hw2
  refine ⟨fun y w => 0 ≤ y ∧ y ≤ 6 ∧ Ext u1 w, fun y _ => (6 - y).toNat, ⟨by omega, by omega, xw⟩, ?_⟩
  rintro y w ⟨y0, y6, hw⟩
  refine ⟨fun hy => ?_, fun hy => ⟨rfl, hx1.ext hw⟩⟩
  have hyy : ((y.toNat : Nat) : Int) = y := by omega
  obtain ⟨gp, gc, g1, g2, g3, _⟩ := V.m.grid y.toNat (by omega)
  have GI := I.grids y.toNat (by omega)
  have Goff : hasT s.v.cols y = false → gridOf s.v y.toNat = .zero := fun h => GI.off (by rw [hyy]; exact h)
  have Gon := fun h : hasT s.v.cols y = true => GI.on (by rw [hyy]; exact h)
  rw [hyy] at Gon
  have hal : Ext u1 (allocW w hole) := hw.alloc _
  have nxt : ∀ {z : World}, Ext u1 z → inK .i64 (y + 1) ∧ (0 ≤ y + 1 ∧ y + 1 ≤ 6 ∧ Ext u1 z) ∧ (6 - (y + 1)).toNat < (6 - y).toNat := fun hz => ⟨by simp only [inK]; omega, ⟨by omega, by omega, hz⟩, by omega⟩
  refine ⟨y0, hy, _, takeN_in hG g1 (by omega), rfl, okCells_mem (fun c hc => okc_of (okGr _ _ _ _) hc) ⟨_, putN_all rfl, pa, _, ca, a0, (has_ok (aT.ext hal) ca y few).mono fun e w3 ⟨he, hw3⟩ => ⟨_, he, fun hno => ?_, fun hhas => ?_⟩⟩⟩
  · have x3 := hal.ext hw3
    have hz : s.v.grids.getD y.toNat .zero = .zero := Goff hno
    refine ⟨_, _, _, _, _, _, _, _, _, _, _, rfl, (sameGridT_ok (b := .zero) (g2.ext x3) (Cells.nil _) gc 0 (by omega)).mono fun e w4 ⟨he, hw4⟩ => ⟨_, he, fun hf => ?_, fun _ => nxt (x3.ext hw4)⟩⟩
    rw [hz, sameGt_iff.2 rfl] at hf
    cases hf
  · have x3 := hal.ext hw3
    obtain ⟨k1, k2, k3⟩ := Gon hhas
    have k2 : (s.v.grids.getD y.toNat .zero).wide = _ := k2
    have k3 : (s.v.grids.getD y.toNat .zero).high = _ := k3
    refine ⟨pa, _, ca, a0, _, V.m.wide, _, V.m.high, (where_ok (aT.ext x3) ca s.v.wide s.v.high y few).mono fun e w4 ⟨he, hw4⟩ => ⟨_, _, _, _, he, ?_⟩⟩
    have x4 := (x3.ext hw4).alloc hole
    refine ⟨_, _, _, _, _, _, _, _, _, _, _, rfl, (ggood_ok (g2.ext x4) gc (by omega)).mono fun e w5 ⟨he, hw5⟩ => ⟨_, he, fun hf => ?_, fun _ => ⟨_, rfl, fun hn => (hn k2).elim, fun _ => ⟨_, rfl, fun hn => (hn k3).elim, fun _ => nxt (x4.ext hw5)⟩⟩⟩⟩
    rw [goodG_iff.2 k1] at hf
    cases hf

end Go.Proofs.YtkmmphkjmamckacDoor
