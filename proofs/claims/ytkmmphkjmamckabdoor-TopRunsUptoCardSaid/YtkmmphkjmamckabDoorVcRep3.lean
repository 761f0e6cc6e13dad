/-
  What an argument of numbers reads.
-/
import Derived.Test.YtkmmphkjmamckabDoorVcRep
import Derived.Test.YtkmmphkjmamckabDoorZM
namespace Go.Proofs.YtkmmphkjmamckabDoor
open Go
set_option linter.all false

end Go.Proofs.YtkmmphkjmamckabDoor
