/-
  Whatever is written over what a server has told, it answers as one does to which nothing is done.
-/
import Derived.Test.YtkmmphkjmamckadDoorPlayM
namespace Go.Proofs.YtkmmphkjmamckadDoor
open Go
set_option linter.all false

theorem topMemory_ok {u : World} {p : Option Addr} {l : List Ac} (hl : ActL u p l) (c : Nat) (hb : ∀ a ∈ l, a.bytes.length ≤ 1048576) :
    Spec Tryd.prog fn_fenestratop_TopMemory #[.slice p l.length c] u (Told u true) := by
  apply vc_fenestratop_TopMemory_spec
  unfold vc_fenestratop_TopMemory
  refine srvNew_ok.mono fun e u1 ⟨ob, he, hm, hob, hu1⟩ => ⟨ob, 0, he, rfl, ?_⟩
  generalize hw1 : allocW u1 (.cells ([.pointer none] : List Value).toArray _) = w1
  have b1 : Blk w1 u1.heap.size [.pointer none] := by rw [← hw1]; exact Blk.fresh _ _ _
  have e1 : Ext u1 w1 := by rw [← hw1]; exact (Upd.refl _).alloc _
  have s1 : w1.heap.size = u1.heap.size + 1 := by rw [← hw1, size_alloc]
  have hlt := hm.lt
  have hu1s := hu1.size
  have hp : putN [.pointer none] 0 [.pointer (some ⟨ob, 0, none⟩)] = some ([.pointer (some ⟨ob, 0, none⟩)] : List Value) := rfl
  have wr := b1.wrAt hp
  have b2 := b1.putAt hp
  have e2 : Ext u1 (putCells w1 u1.heap.size 0 [.pointer (some ⟨ob, 0, none⟩)]) := e1.put (fun h => by omega) _ _
  have s2 : (putCells w1 u1.heap.size 0 [.pointer (some ⟨ob, 0, none⟩)]).heap.size = u1.heap.size + 1 := by rw [put_size, s1]
  have x := hu1.ext e2
  refine ⟨wr, (vc_fenestratop_play_memory_spec _ _ _ _ (play_memory_ok (ob := ob) (fun v hv => hl.new (S := fun k => k = ob) (x.any.trans hv fun _ _ h => h) fun k hk => by omega) (b2.rdAt (n := 1) rfl) (hm.ext e2) (by omega) (by omega) (by omega) hb c)).mono fun e u2 ⟨⟨sb, tb, he, P⟩, hu2⟩ => ⟨sb, 0, tb, 0, true, he, rfl, (x.trans hu2 fun k hk h => by omega)⟩⟩

end Go.Proofs.YtkmmphkjmamckadDoor
