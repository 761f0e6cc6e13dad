/-
  What an argument of numbers reads.
-/
import Derived.Test.YtkmmphkjmamckacDoorVcRep
import Derived.Test.YtkmmphkjmamckacDoorZM
namespace Go.Proofs.YtkmmphkjmamckacDoor
open Go
set_option linter.all false

end Go.Proofs.YtkmmphkjmamckacDoor
