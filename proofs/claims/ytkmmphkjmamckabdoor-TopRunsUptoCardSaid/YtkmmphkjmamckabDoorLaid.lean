/-
  A world for the witness: the settled one, its listed variables holding what is listed.
-/
import Derived.Test.YtkmmphkjmamckabDoorRows
import Derived.Test.YtkmmphkjmamckabDoorChecked
import Derived.Deep.DeepHandedRow
namespace Go.Proofs.YtkmmphkjmamckabDoor
open Go
set_option linter.all false

def litV : DataW Unit → Value
  | .lit (.int k n) => .int k n
  | _ => .bool false

def tabV : DataW Unit → Array Value
  | .agg l => (l.map litV).toArray
  | _ => #[]

noncomputable def laidHeap (l : List (String × DataW Unit)) (h : Array Obj) : Array Obj :=
  l.foldl (fun h x => match Tryd.prog.globalNamed x.1 with
    | some g => h.modify g fun
      | .cells _ t frozen => .cells (tabV x.2) t frozen
      | o => o
    | none => h) h

noncomputable def laidWorld (os : Os) : World :=
  { World.holding Tryd.prog os ⟨#[], #[], []⟩ with heap := laidHeap [("math/bits.deBruijn32tab", Rows.laid_math_bits_deBruijn32tab), ("math/bits.deBruijn64tab", Rows.laid_math_bits_deBruijn64tab), ("internal/strconv.uint64pow10", Rows.laid_internal_strconv_uint64pow10)] (World.holding Tryd.prog os ⟨#[], #[], []⟩).heap }

end Go.Proofs.YtkmmphkjmamckabDoor
