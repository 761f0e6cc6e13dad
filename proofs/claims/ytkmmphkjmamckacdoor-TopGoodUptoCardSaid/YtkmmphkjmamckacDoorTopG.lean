/-
  Behind each act the panes are laid out, one has the focus, and each pane's screen is good, and as large as its place.
-/
import Derived.Test.YtkmmphkjmamckacDoorPlayG
import Derived.Test.YtkmmphkjmamckacDoorZVg
namespace Go.Proofs.YtkmmphkjmamckacDoor
open Go
set_option linter.all false

theorem topGood_ok {u : World} {p : Option Addr} {l : List Ac} (hl : ActL u p l) (c : Nat) (hb : ∀ a ∈ l, a.bytes.length ≤ 1048576) :
    Spec Tryd.prog fn_fenestratop_TopGood #[.slice p l.length c] u (Told u true) := by
  apply vc_fenestratop_TopGood_spec
  unfold vc_fenestratop_TopGood
  exact (vc_fenestratop_play_good_spec _ _ _ (play_good_ok hl hb c)).mono fun e u1 ⟨⟨sb, tb, he, P⟩, hu1⟩ => ⟨sb, 0, tb, 0, true, he, rfl, hu1⟩

end Go.Proofs.YtkmmphkjmamckacDoor
