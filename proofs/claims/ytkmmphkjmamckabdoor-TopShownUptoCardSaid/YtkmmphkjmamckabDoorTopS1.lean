/-
  Behind a tick all clients are looked at: whether they show what is.
-/
import Derived.Test.YtkmmphkjmamckabDoorTopPlay
import Derived.Test.YtkmmphkjmamckabDoorTmShow
import Derived.Test.YtkmmphkjmamckabDoorZVs
namespace Go.Proofs.YtkmmphkjmamckabDoor
open Go
set_option linter.all false

theorem shownAll_ok {k n0 sb tb : Nat} {w : World} {s : Sv} {t : List Tm} {a : Ac} (hI : PlayI k s t) (hk : (k : Int) < 300) (P : PlayM n0 w sb tb (doS s a).1 (stepT t a (doS s a).2)) :
    Spec Tryd.prog fn_fenestratop_TopShown_c1 #[.pointer (some ⟨sb, 0, none⟩), .pointer (some ⟨tb, 0, none⟩), .agg #[.int .i64 a.kind, .int .i64 a.p, .int .i64 a.n, .int .i64 a.m, .string (bstr a.bytes)], .agg #[.int .i64 (doS s a).2.code, .int .i64 (doS s a).2.n, .string (bstr (doS s a).2.out)]] w (Told w true) := by
  apply vc_fenestratop_TopShown_c1_spec
  unfold vc_fenestratop_TopShown_c1
  simp only [decide_eq_true_eq, decide_eq_false_iff_not, true_and, Bool.not_eq_true', Bool.not_eq_false']
  have h0 : Ext w (allocW (allocW w hole) hole) := ((Upd.refl w).alloc _).alloc _
  refine ⟨fun _ => ⟨rfl, h0⟩, fun h8 => ⟨fun _ => ⟨rfl, h0⟩, fun hc => ?_⟩⟩
  have hst : stepT t a (doS s a).2 = t := by unfold stepT; rw [if_neg (by omega), if_neg (by omega)]
  rw [hst] at P
  refine ⟨fun y z => 0 ≤ y ∧ y ≤ 3 ∧ Ext w z, fun y _ => (3 - y).toNat, ⟨by omega, by omega, h0⟩, ?_⟩
  rintro y z ⟨y0, y3, hz⟩
  refine ⟨fun hy => ?_, fun hy => ⟨rfl, hz⟩⟩
  have nxt : ∀ {z : World}, Ext w z → inK .i64 (y + 1) ∧ (0 ≤ y + 1 ∧ y + 1 ≤ 3 ∧ Ext w z) ∧ (3 - (y + 1)).toNat < (3 - y).toNat := fun hz => ⟨by simp only [inK]; omega, ⟨by omega, by omega, hz⟩, by omega⟩
  refine (srvClient_ok (P.ext hz).sv y).mono fun e w3 ⟨he, hw3⟩ => ⟨_, _, _, he, fun hh => ⟨fun hl => ⟨y0, hy, ?_⟩, fun _ => nxt (hz.ext hw3)⟩, fun _ => nxt (hz.ext hw3)⟩
  have hh : (clientOf (doS s a).1 y.toNat).here = true := by
    cases hc : (clientOf (doS s a).1 y.toNat).here with
    | true => rfl
    | false => rw [tell_gone hc] at hh; cases hh
  rw [tell_here y0 hy hh] at hl
  obtain ⟨k1, k2, k3, g, k4, k5⟩ := shown_after hI hk h8 y0 hy hh hl
  have P3 := P.ext (hz.ext hw3)
  obtain ⟨⟨ts, hbk, hlk, hat⟩, _, _⟩ := P3.tm
  obtain ⟨x, xr, xl, xt⟩ := (hat y.toNat (by omega)).chunk (by omega)
  refine ⟨x, xl.symm, by rw [show 0 + y.toNat * 13 = y.toNat * 13 by omega]; exact hbk.rdAt xr, ?_⟩
  exact (shown_ok P3.sv (do_inv hI.inv _) xt xl k1 k2 y k3 k4 k5).mono fun e w4 ⟨he, hw4⟩ => ⟨_, he, fun hn => (by cases hn), fun _ => nxt ((hz.ext hw3).ext hw4)⟩

end Go.Proofs.YtkmmphkjmamckabDoor
