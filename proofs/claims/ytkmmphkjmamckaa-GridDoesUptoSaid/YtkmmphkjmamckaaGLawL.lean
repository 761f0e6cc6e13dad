/-
  What the document's statement of screens and events answers: true.
-/
import Derived.Test.YtkmmphkjmamckaaGRef5
import Derived.Test.YtkmmphkjmamckaaGShowsL
namespace Go.Proofs.Ytkmmphkjmamckaa
open Go
set_option linter.all false

theorem do_len {g : Gr} (hl : g.cells.length ≤ 10000000) (e : Ev) : (doG g e).1.cells.length ≤ 10000000 := by
  by_cases hg : GoodG g
  · have := few_cells (do_ok' hg e).1
    omega
  · rw [do_bad hg]
    exact hl

theorem gridDoes_ok {u : World} {g : Gr} {p : Option Addr} (h : Cells u p g.cells) (c : Nat) (hl : g.cells.length ≤ 10000000) (e : Ev) {ep : Option Addr} {en ec : Nat} (he : Nums u ep en e.ps) (hen : en ≤ 10000000) (hpl : e.pl.size ≤ 10000000) :
    Spec Try.prog fn_fenestralaw_GridDoes #[GrV g p g.cells.length c, EvV e ep en ec] u (Told u true) := by
  apply vc_fenestralaw_GridDoes_spec
  unfold vc_fenestralaw_GridDoes
  simp only [decide_eq_true_eq, decide_eq_false_iff_not, Bool.not_eq_true', Bool.not_eq_false', true_and]
  have hu : Ext u (allocW (allocW u hole) hole) := ((Upd.refl u).alloc _).alloc _
  refine (copyGrid_ok (h.ext hu) c (by omega)).mono fun r u1 ⟨⟨pc, cc, hr, ho, _⟩, hu1⟩ => ⟨_, _, _, _, _, _, _, _, _, _, _, hr, ?_⟩
  have x1 := hu.ext hu1
  have C1 : Cells u1 pc g.cells := ⟨ho.gets⟩
  have a1 : Ext u1 (allocW u1 hole) := (Upd.refl _).alloc _
  refine (gdo_ok (C1.ext a1) cc (by omega) e (ec := ec) (he.ext (x1.ext a1)) (by omega) (by omega)).mono fun r u2 ⟨⟨pa, ca, hr, ha, _, _⟩, hu2⟩ => ⟨_, _, _, _, _, _, _, _, _, _, _, _, hr, ?_⟩
  have y2 := a1.ext hu2
  have x2 := x1.ext y2
  have a2 : Ext u2 (allocW u2 hole) := (Upd.refl _).alloc _
  refine (act_ok (h.ext (x2.ext a2)) c (by omega) e (ec := ec) (he.ext (x2.ext a2)) (by omega) (by omega)).mono fun r u3 ⟨⟨pb, cb, hr, hb⟩, hu3⟩ => ⟨_, _, _, _, _, _, _, _, _, _, _, _, hr, ?_⟩
  have y3 := a2.ext hu3
  have x3 := x2.ext y3
  have a3 : Ext u3 (drewW (allocW u3 hole)) := ((Upd.refl _).alloc _).drew
  have hlen := do_len hl e
  generalize doG g e = d at ha hb hr hlen ⊢
  refine (sameGrid_ok (ha.ext (y3.ext a3)) (hb.ext a3) ca cb (by omega)).mono fun r u4 ⟨hr, hu4⟩ => ⟨_, hr, fun _ => ⟨fun _ => ?_, fun hn => (hn rfl).elim⟩, fun hn => ?_⟩
  · have y4 := a3.ext hu4
    have x4 := x3.ext y4
    have C4 := C1.ext ((y2.ext y3).ext y4)
    refine (ggood_ok C4 cc (by omega)).mono fun r u5 ⟨hr, hu5⟩ => ⟨_, hr, ?_⟩
    have x5 := x4.ext hu5
    refine (goodGrid_ok (h.ext x5) c (by omega)).mono fun r u6 ⟨hr, hu6⟩ => ⟨_, hr, fun _ => ?_, fun hn => by simp at hn⟩
    have x6 := x5.ext hu6
    refine (sameGrid_ok ((C4.ext hu5).ext hu6) (h.ext x6) cc c (by omega)).mono fun r u7 ⟨hr, hu7⟩ => ⟨_, hr, fun _ => ?_, fun hn => ?_⟩
    · have x7 := x6.ext hu7
      exact shows_ok_l.mono fun r u8 ⟨hr, hu8⟩ => ⟨_, hr, rfl, x7.ext hu8⟩
    · rw [sameGb_iff.2 rfl] at hn; cases hn
  · rw [sameGb_iff.2 rfl] at hn; cases hn

end Go.Proofs.Ytkmmphkjmamckaa
