/-
  Never do too many bytes wait; nothing is lost but where something waits, and that stays as it is.
-/
import Derived.Test.YtkmmphkjmamckaaDoorPlayL
import Derived.Test.YtkmmphkjmamckaaDoorZVl
namespace Go.Proofs.YtkmmphkjmamckaaDoor
open Go
set_option linter.all false

theorem lost_start (u : World) (t1 t2 : TypeId) : LostM (allocW (allocW u (.cells ([.string (ByteArray.mk #[]), .string (ByteArray.mk #[]), .string (ByteArray.mk #[])] : List Value).toArray t1)) (.cells ([.bool false, .bool false, .bool false] : List Value).toArray t2)) u.heap.size (allocW u (.cells ([.string (ByteArray.mk #[]), .string (ByteArray.mk #[]), .string (ByteArray.mk #[])] : List Value).toArray t1)).heap.size fun _ => newS := by
  refine ⟨⟨_, (Blk.fresh u _ t1).ext ((Upd.refl _).alloc _), rfl, fun j hj => ?_⟩, ⟨_, Blk.fresh _ _ t2, rfl, fun j hj => ?_⟩⟩
  · match j, hj with
    | 0, _ | 1, _ | 2, _ => rfl
  · match j, hj with
    | 0, _ | 1, _ | 2, _ => rfl

theorem topLost_ok {u : World} {p : Option Addr} {l : List Ac} (hl : ActL u p l) (c : Nat) (hb : ∀ a ∈ l, a.bytes.length ≤ 1048576) :
    Spec Tryd.prog fn_fenestratop_TopLost #[.slice p l.length c] u (Told u true) := by
  apply vc_fenestratop_TopLost_spec
  unfold vc_fenestratop_TopLost
  generalize hw1 : allocW u (.cells ([.string (ByteArray.mk #[]), .string (ByteArray.mk #[]), .string (ByteArray.mk #[])] : List Value).toArray _) = w1
  generalize hw2 : allocW w1 (.cells ([.bool false, .bool false, .bool false] : List Value).toArray _) = w2
  have X : LostM w2 u.heap.size w1.heap.size fun _ => newS := by
    rw [← hw2, ← hw1]
    exact lost_start u _ _
  have s1 : w1.heap.size = u.heap.size + 1 := by rw [← hw1, size_alloc]
  have s2 : w2.heap.size = u.heap.size + 2 := by rw [← hw2, size_alloc, s1]
  have e1 : Ext u w1 := by rw [← hw1]; exact (Upd.refl _).alloc _
  have e2 : Ext w1 w2 := by rw [← hw2]; exact (Upd.refl _).alloc _
  have x := e1.ext e2
  refine (vc_fenestratop_play_lost_spec _ _ _ _ _ (play_lost_ok (fun v hv => hl.new (S := fun k => k = u.heap.size ∨ k = w1.heap.size) (x.any.trans hv fun _ _ h => h) fun k hk => by omega) X (by omega) (by omega) (by omega) hb c)).mono fun e u1 ⟨⟨sb, tb, he, P⟩, hu1⟩ => ⟨sb, 0, tb, 0, true, he, rfl, (x.trans hu1 fun k hk h => by omega)⟩

end Go.Proofs.YtkmmphkjmamckaaDoor
