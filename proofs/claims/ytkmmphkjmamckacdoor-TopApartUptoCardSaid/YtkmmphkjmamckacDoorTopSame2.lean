/-
  Whether two servers stand alike: alike ones do.
-/
import Derived.Test.YtkmmphkjmamckacDoorTopView
import Derived.Test.YtkmmphkjmamckacDoorSView
namespace Go.Proofs.YtkmmphkjmamckacDoor
open Go
set_option linter.all false

theorem smallFew {t : Cols} (h : GoodT t) : FewT 1000 t := ⟨by have := h.few'.n; omega, fun c hc => by have := h.few'.each c hc; omega⟩

end Go.Proofs.YtkmmphkjmamckacDoor
