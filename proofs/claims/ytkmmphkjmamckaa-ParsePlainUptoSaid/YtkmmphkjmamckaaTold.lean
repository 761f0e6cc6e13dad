/-
  A function that answers a bool.
-/
import Derived.Test.YtkmmphkjmamckaaVcLib
namespace Go.Proofs.Ytkmmphkjmamckaa
open Go
set_option linter.all false

/-- A function that answers a bool, and leaves all as it was. -/
structure Told (u : World) (x : Bool) (e : Ending) (u' : World) : Prop where
  e : e = .returned (.bool x)
  ext : Ext u u'

end Go.Proofs.Ytkmmphkjmamckaa
