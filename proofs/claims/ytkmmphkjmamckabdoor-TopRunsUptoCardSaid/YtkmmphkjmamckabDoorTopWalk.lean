/-
  Does a server answer; what a terminal shows.
-/
import Derived.Test.YtkmmphkjmamckabDoorSNew
import Derived.Test.YtkmmphkjmamckabDoorZVf
namespace Go.Proofs.YtkmmphkjmamckabDoor
open Go
set_option linter.all false

def aliveS1 : Sv × Rp := doS newS ⟨6, 1, 10, 3, []⟩
def aliveS2 : Sv × Rp := doS aliveS1.1 ⟨3, 0, 0, 0, [120]⟩
def aliveS3 : Sv × Rp := doS aliveS2.1 ⟨8, 0, 0, 0, []⟩

theorem alive_codes : aliveS1.2.code = 0 ∧ aliveS2.2.code = 0 ∧ aliveS3.2.code = 0 := ⟨by kernel_rfl, by kernel_rfl, by kernel_rfl⟩
theorem alive_told : 0 < (tellS aliveS3.1 1).1.length ∧ (tellS aliveS3.1 1).2 = (false, true) := ⟨of_decide_eq_true (by kernel_rfl), by kernel_rfl⟩

theorem alive_ok {u : World} : Spec Tryd.prog fn_fenestratop_alive #[] u (Told u true) := by
  apply vc_fenestratop_alive_spec
  unfold vc_fenestratop_alive
  simp only [decide_eq_true_eq, decide_eq_false_iff_not, true_and, Bool.not_eq_true', Bool.not_eq_false']
  refine srvNew_ok.mono fun e u1 ⟨sb, he, hm, hsb, hu1⟩ => ⟨sb, 0, he, fun hn => (by cases hn), fun _ => ?_⟩
  have i0 := newS_ok
  have i1 : InvS aliveS1.1 := do_inv i0 _
  have i2 : InvS aliveS2.1 := do_inv i1 _
  obtain ⟨k1, k2, k3⟩ := alive_codes
  obtain ⟨t1, t2⟩ := alive_told
  have a1 : aliveS1.1.acts = 1 := by kernel_rfl
  have a2 : aliveS2.1.acts = 2 := by kernel_rfl
  have al : ∀ v : World, Ext v (allocW v hole) := fun v => (Upd.refl _).alloc _
  refine (srvDo_ok hm i0 (by decide) ⟨6, 1, 10, 3, []⟩ (by_ := ByteArray.mk #[]) rfl (by decide)).mono fun e u2 ⟨he, hm2, hu2⟩ => ⟨_, _, _, he, ?_⟩
  have hm2 : SvM u2 sb _ aliveS1.1 := hm2
  refine (srvDo_ok (hm2.ext (al u2)) i1 (by rw [a1]; decide) ⟨3, 0, 0, 0, [120]⟩ (by_ := ByteArray.mk #[120]) rfl (by decide)).mono fun e u3 ⟨he, hm3, hu3⟩ => ⟨_, _, _, he, ?_⟩
  have hm3 : SvM u3 sb _ aliveS2.1 := hm3
  refine (srvDo_ok (hm3.ext (al u3)) i2 (by rw [a2]; decide) ⟨8, 0, 0, 0, []⟩ (by_ := ByteArray.mk #[]) rfl (by decide)).mono fun e u4 ⟨he, hm4, hu4⟩ => ⟨_, _, _, he, ?_⟩
  have hm4 : SvM u4 sb _ aliveS3.1 := hm4
  refine (srvClient_ok (hm4.ext (al u4)) 1).mono fun e u5 ⟨he, hu5⟩ => ⟨_, _, _, he, ?_⟩
  have up : Upd (· = sb) u1 u5 := ((((hu2.ext (al u2)).trans hu3 fun _ _ h => h).ext (al u3)).trans hu4 fun _ _ h => h).ext ((al u4).ext hu5)
  have hx : Ext u u5 := (hu1.trans up fun k hk h => by omega).mono fun _ _ h => h
  have t3 : (tellS aliveS3.1 1).2.1 = false := by rw [t2]
  have t4 : (tellS aliveS3.1 1).2.2 = true := by rw [t2]
  generalize tellS aliveS3.1 1 = r at *
  refine ⟨fun _ => ⟨fun _ => ⟨fun _ => ⟨fun _ => ⟨fun _ => ⟨by rw [t4], hx⟩, fun hn => ?_⟩, fun hn => ?_⟩, fun hn => (hn k3).elim⟩, fun hn => (hn k2).elim⟩, fun hn => (hn k1).elim⟩
  · rw [t3] at hn
    cases hn
  · exact (hn (by rw [bstr_sz]; omega)).elim

end Go.Proofs.YtkmmphkjmamckabDoor
