/-
  Clients show what is.
-/
import Derived.Test.YtkmmphkjmamckabDoorPlayS
import Derived.Test.YtkmmphkjmamckabDoorZVs
namespace Go.Proofs.YtkmmphkjmamckabDoor
open Go
set_option linter.all false

theorem topShown_ok {u : World} {p : Option Addr} {l : List Ac} (hl : ActL u p l) (c : Nat) (hb : ∀ a ∈ l, a.bytes.length ≤ 1048576) :
    Spec Tryd.prog fn_fenestratop_TopShown #[.slice p l.length c] u (Told u true) := by
  apply vc_fenestratop_TopShown_spec
  unfold vc_fenestratop_TopShown
  exact (vc_fenestratop_play_shown_spec _ _ _ (play_shown_ok hl hb c)).mono fun e u1 ⟨⟨sb, tb, he, P⟩, hu1⟩ => ⟨sb, 0, tb, 0, true, he, rfl, hu1⟩

end Go.Proofs.YtkmmphkjmamckabDoor
