/-
  What an argument of numbers reads.
-/
import Derived.Test.YtkmmphkjmamckaaDoorVcRep
import Derived.Test.YtkmmphkjmamckaaDoorZM
namespace Go.Proofs.YtkmmphkjmamckaaDoor
open Go
set_option linter.all false

end Go.Proofs.YtkmmphkjmamckaaDoor
