/-
  What the statements of screens turned answer: true.
-/
import Derived.Test.YtkmmphkjmamckacDoorDWalk2
import Derived.Test.YtkmmphkjmamckacDoorGSameK
import Derived.Test.YtkmmphkjmamckacDoorPSameK0
import Derived.Test.YtkmmphkjmamckacDoorVKeepD
namespace Go.Proofs.YtkmmphkjmamckacDoor
open Go
set_option linter.all false

def drawTo : Gr := { newG 3 2 with cells := (newG 3 2).cells.set 1 ⟨120, 0, 0, false⟩ }
theorem drawM : mayTurn (newG 3 2) drawTo := ⟨goodG_iff.1 (by kernel_rfl), goodG_iff.1 (by kernel_rfl), by kernel_rfl, by kernel_rfl, by decide⟩
theorem drawP : TurnPost (newG 3 2) drawTo (turnD (newG 3 2) drawTo) := turn_law drawM
theorem drawL : 0 < (turnD (newG 3 2) drawTo).2.length := of_decide_eq_true (by kernel_rfl)

theorem draws_ok {u : World} : Spec Tryd.prog fn_fenestrakeep_draws #[] u (Told u true) := by
  apply vc_fenestrakeep_draws_spec
  unfold vc_fenestrakeep_draws
  simp only [decide_eq_true_eq, decide_eq_false_iff_not, true_and, Bool.not_eq_true', Bool.not_eq_false']
  refine (gnew_ok 3 2).mono fun e u1 ⟨⟨b, he, hco, hb⟩, hu1⟩ => ⟨_, _, _, _, _, _, _, _, _, _, _, he, fun hn => (hn (by rfl)).elim, fun _ => ⟨b, 0, rfl, by decide, by decide, ?_⟩⟩
  have ha : Ext u1 (allocW u1 hole) := (Upd.refl _).alloc _
  have hc1 := hco.ext ha
  have hl6 : (newG 3 2).cells.length = 6 := rfl
  have hc2 := hc1.set (i := 1) ⟨120, 0, 0, false⟩ (by decide) (o := 0 + (1 : Int).toNat * 4) rfl
  have hx0 : Ext u (drewW (putCells (allocW u1 hole) b (0 + (1 : Int).toNat * 4) [.int .i64 120, .int .i64 0, .int .i64 0, .bool false])) := ((((hu1.ext ha).any (S := fun k => k = b)).put (fun _ => rfl) _ _).mono fun k hk h7 => by omega).drew
  have hc3 : CO (drewW (putCells (allocW u1 hole) b (0 + (1 : Int).toNat * 4) [.int .i64 120, .int .i64 0, .int .i64 0, .bool false])) b 6 drawTo.cells := hc2.ext (Upd.refl _).drew
  refine ⟨rfl, hc1.wr (by rw [hl6]; decide), ⟨?_, ?_⟩⟩
  · refine (gnew_ok 3 2).mono fun e u2 ⟨⟨b2, he, hco2, hb2⟩, hu2⟩ => ⟨_, _, _, _, _, _, _, _, _, _, _, he, ⟨?_, ?_⟩⟩
    · have hx := hx0.ext hu2
      refine (dturn_ok (frm := newG 3 2) (to := drawTo) hco2.cells (hc3.ext hu2).cells _ 6 (by decide) (by decide)).mono fun e u3 h7 => ?_
      obtain ⟨gp, gc, he, C⟩ := h7.yes drawM
      refine ⟨_, _, _, _, _, _, _, _, _, _, _, _, _, he, ?_⟩
      have hW : Ext u3 (allocW u3 hole) := by first | exact (Upd.refl _).alloc _ | exact Upd.refl _
      have hlen : (turnD (newG 3 2) drawTo).1.cells.length = 6 := by rw [drawP.cells]; rfl
      obtain ⟨b1, o1, hp1, hr1⟩ := (C.ext hW).at (i := 1) (by omega)
      obtain ⟨b2, o2, hp2, hr2⟩ := (C.ext hW).at (i := 0) (by omega)
      rw [drawP.cells] at hr1 hr2
      refine ⟨fun _ => ⟨fun _ => ⟨fun _ => ⟨b1, o1, hp1, by decide, by omega, 120, rfl, ⟨hr1.1, trivial⟩, fun _ => ⟨b2, o2, hp2, by decide, by omega, 0, rfl, ⟨hr2.1, trivial⟩, rfl, ?_⟩, fun hn => (hn rfl).elim⟩, fun hn => (hn (by omega)).elim⟩, fun hn => (hn (by rw [bstr_size]; have := drawL; omega)).elim⟩, fun hn => (hn rfl).elim⟩
      exact (hx.ext h7.ext).ext hW
    · have ha2 : Ext u2 (allocW u2 hole) := (Upd.refl _).alloc _
      have hx := (hx0.ext hu2).ext ha2
      refine (dturn_ok (frm := newG 3 2) (to := drawTo) (hco2.ext ha2).cells ((hc3.ext hu2).ext ha2).cells _ 6 (by decide) (by decide)).mono fun e u3 h7 => ?_
      obtain ⟨gp, gc, he, C⟩ := h7.yes drawM
      refine ⟨_, _, _, _, _, _, _, _, _, _, _, _, _, he, ?_⟩
      have hW : Ext u3 u3 := by first | exact (Upd.refl _).alloc _ | exact Upd.refl _
      have hlen : (turnD (newG 3 2) drawTo).1.cells.length = 6 := by rw [drawP.cells]; rfl
      obtain ⟨b1, o1, hp1, hr1⟩ := (C.ext hW).at (i := 1) (by omega)
      obtain ⟨b2, o2, hp2, hr2⟩ := (C.ext hW).at (i := 0) (by omega)
      rw [drawP.cells] at hr1 hr2
      refine ⟨fun _ => ⟨fun _ => ⟨fun _ => ⟨b1, o1, hp1, by decide, by omega, 120, rfl, ⟨hr1.1, trivial⟩, fun _ => ⟨b2, o2, hp2, by decide, by omega, 0, rfl, ⟨hr2.1, trivial⟩, rfl, ?_⟩, fun hn => (hn rfl).elim⟩, fun hn => (hn (by omega)).elim⟩, fun hn => (hn (by rw [bstr_size]; have := drawL; omega)).elim⟩, fun hn => (hn rfl).elim⟩
      exact (hx.ext h7.ext).ext hW
  · have ha2 := (Upd.refl (S := fun _ => False) (drewW (putCells (allocW u1 hole) b (0 + (1 : Int).toNat * 4) [.int .i64 120, .int .i64 0, .int .i64 0, .bool false]))).alloc hole
    refine (gnew_ok 3 2).mono fun e u2 ⟨⟨b2, he, hco2, hb2⟩, hu2⟩ => ⟨_, _, _, _, _, _, _, _, _, _, _, he, ?_⟩
    have hx := (hx0.ext ha2).ext hu2
    refine (dturn_ok (frm := newG 3 2) (to := drawTo) hco2.cells ((hc3.ext ha2).ext hu2).cells _ 6 (by decide) (by decide)).mono fun e u3 h7 => ?_
    obtain ⟨gp, gc, he, C⟩ := h7.yes drawM
    refine ⟨_, _, _, _, _, _, _, _, _, _, _, _, _, he, ?_⟩
    have hW : Ext u3 u3 := by first | exact (Upd.refl _).alloc _ | exact Upd.refl _
    have hlen : (turnD (newG 3 2) drawTo).1.cells.length = 6 := by rw [drawP.cells]; rfl
    obtain ⟨b1, o1, hp1, hr1⟩ := (C.ext hW).at (i := 1) (by omega)
    obtain ⟨b2, o2, hp2, hr2⟩ := (C.ext hW).at (i := 0) (by omega)
    rw [drawP.cells] at hr1 hr2
    refine ⟨fun _ => ⟨fun _ => ⟨fun _ => ⟨b1, o1, hp1, by decide, by omega, 120, rfl, ⟨hr1.1, trivial⟩, fun _ => ⟨b2, o2, hp2, by decide, by omega, 0, rfl, ⟨hr2.1, trivial⟩, rfl, ?_⟩, fun hn => (hn rfl).elim⟩, fun hn => (hn (by omega)).elim⟩, fun hn => (hn (by rw [bstr_size]; have := drawL; omega)).elim⟩, fun hn => (hn rfl).elim⟩
    exact (hx.ext h7.ext).ext hW

theorem sameGridK_ok {u : World} {a b : Gr} {p q : Option Addr} (ha : Cells u p a.cells) (hb : Cells u q b.cells) (c d : Nat) (hl : a.cells.length ≤ 100000000) (hab : a = b) :
    Spec Tryd.prog fn_fenestrakeep_sameGrid #[GrV a p a.cells.length c, GrV b q b.cells.length d] u (Told u true) := by
  subst hab
  apply vc_fenestrakeep_sameGrid_spec
  unfold vc_fenestrakeep_sameGrid
  simp only [decide_eq_true_eq, decide_eq_false_iff_not, beq_iff_eq, beq_eq_false_iff_ne, ne_eq]
  have hu : Ext u (allocW (allocW u hole) hole) := ((Upd.refl u).alloc _).alloc _
  refine (sameCells_ok_k (ha.ext hu) (hb.ext hu) c d hl).mono fun e u1 ⟨he, hu1⟩ => ⟨_, he, ?_⟩
  have hs : sameC_k a a = true := by unfold sameC_k; exact decide_eq_true ⟨rfl, rfl, rfl⟩
  exact ⟨fun _ => ⟨fun _ => ⟨fun _ => ⟨fun _ => ⟨fun _ => ⟨fun _ => ⟨by simp, hu.ext hu1⟩, fun hn => (hn trivial).elim⟩, fun hn => (hn trivial).elim⟩, fun hn => (hn trivial).elim⟩, fun hn => (hn trivial).elim⟩, fun hn => (hn trivial).elim⟩, fun hn => (by rw [hs] at hn; cases hn)⟩

theorem sent_ok {u : World} {g g' : Gr} {p : Option Addr} (h : Cells u p g.cells) (c : Nat) (hl : g.cells.length ≤ 10000000) {l : Bs} (hs : l.length ≤ 100000) (hr : Runs g l g') {s : ByteArray} (hsl : s.data.toList = l) :
    Spec Tryd.prog fn_fenestrakeep_sent #[GrV g p g.cells.length c, .string s] u fun e u' => ∃ p' c', e = .returned (.tuple #[GrV g' p' g'.cells.length c', .bool true]) ∧ Cells u' p' g'.cells ∧ Ext u u' := by
  apply vc_fenestrakeep_sent_spec
  unfold vc_fenestrakeep_sent
  simp only [decide_eq_true_eq, decide_eq_false_iff_not]
  have hu : Ext u (allocW (allocW u hole) hole) := ((Upd.refl u).alloc _).alloc _
  have hsz : s.size = l.length := by rw [← hsl]; rfl
  obtain ⟨evs, hf, hd⟩ := hr
  refine (feed_ok .zero none 0 0 s ⟨rfl, rfl⟩ (by omega)).mono fun e u1 he => ?_
  rcases he with ⟨_, q, n, c, lp, ln, lc, he, hq, hev, hu1⟩ | ⟨hbad, _⟩
  case inr => exact (hbad GoodP.zero).elim
  rw [hsl, hf] at hev he hq
  dsimp only at hev he hq
  obtain ⟨xs, hA, hE⟩ := hev
  have hln : ln = evs.length := by rw [← hE.len, hA.len]
  subst hln
  have ha : Ext u1 (allocW u1 hole) := (Upd.refl _).alloc _
  have x1 := (hu.ext hu1).ext ha
  refine ⟨_, _, _, _, _, _, _, _, _, _, he, ?_⟩
  have hfl := feed_len l .zero
  have hfw := feed_few l _ GoodP.zero
  have hpw := feed_pay l _ GoodP.zero
  rw [hf] at hfl hfw hpw
  dsimp only at hfl hfw hpw
  refine (gall_far (h.ext x1) _ hl (ok := fun _ => True) (EvL.ext ⟨xs, hA, hE⟩ ha) lc (by omega) (fun e he => ⟨by have := hfw e he; omega, by have := hpw e he; omega⟩)).mono fun e u2 ⟨⟨p2, c2, he, hc2, _⟩, hu2⟩ => ?_
  rw [hd] at he hc2
  dsimp only at he hc2
  refine ⟨_, _, _, _, _, _, _, _, _, _, _, _, he, fun _ => ⟨fun _ => ?_, fun hn => (hn rfl).elim⟩, fun hn => (hn rfl).elim⟩
  have hd2 : Ext u2 (drewW (allocW u2 hole)) := ((Upd.refl _).alloc _).drew
  have hps : Nums (drewW (allocW u2 hole)) q n Pr.zero.ps := hq.ext ((ha.ext hu2).ext hd2)
  have hz : n = 0 := by have := hq.2; simpa [Pr.zero] using this.symm
  refine (sameParser_ok_k .zero .zero q n c none 0 0 hps ⟨rfl, rfl⟩ (by omega)).mono fun e u3 ⟨g3, he, hg3, hu3⟩ => ⟨_, he, p2, c2, ?_, hc2.ext (hd2.ext hu3), ((x1.ext hu2).ext hd2).ext hu3⟩
  rw [hg3.2 rfl]

end Go.Proofs.YtkmmphkjmamckacDoor
