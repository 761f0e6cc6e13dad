/-
  What an argument of numbers reads.
-/
import Derived.Test.YtkmmphkjmamckadDoorVcRep
import Derived.Test.YtkmmphkjmamckadDoorZM
namespace Go.Proofs.YtkmmphkjmamckadDoor
open Go
set_option linter.all false

end Go.Proofs.YtkmmphkjmamckadDoor
