/-
  NARROWER THAN 'FOR EVERY INPUT', by the rows' own cells (each row's printed sentence says how): DrawTurns: laid · DrawSame: laid · DrawAnew: laid · ServerNil: laid · TopCatches: laid · TopParts: laid · TopApart: laid · TopGood: laid · TopOthers: laid · TopRefused: laid.
  DERIVED. THE GIVEN ROWS OF THIS SEAT. 10 by the template 'for every input the law returns true; each argument reads behind the call as it read before'; 0 by the template 'total and deterministic' (their statements: YtkmmphkjmamckacDoorTotals.lean).
  GIVEN WITH THE SEED: the statements are not yours to turn. If you find one false, say at which input.
  Laid BY PROGRAM, IN A SANDBOX (cutbox-rows.mjs): the forced cells as the released guide's own fill.sh prints them over the translation 003fc31ae53bbd2f… (all of the seat's roots in one cut). By AI agents, Wed Nov 11 2026. No macro, syntax, notation, axiom, sorry.
-/
import Derived.Test.YtkmmphkjmamckacDoorChecked
import GoSem.Claim
import GoSem.ClaimJoined
import GoSem.ClaimMapViews
import Derived.JoinedTies
import Derived.KernelRfl
namespace Go.Proofs.YtkmmphkjmamckacDoor
/- THE CELL 'sum', in the pinned program and in every row, IS THE sha256 OF THE DUMP (.gsa) THAT YtkmmphkjmamckacDoorProg.lean LOADS. Nothing in Lean hashes anything: it is a label: what it is worth is what the hold of that sum in a sandbox is worth. -/
noncomputable def Tryd.pinned : Pinned := { name := "ytkmmphkjmamckacdoor", sum := "003fc31ae53bbd2f84cae8bcb806ae771409a47409c84c6be9f66b505cb5e706", checked := Tryd.checked }
namespace Rows
def none {H : Type} : Left H := { results := [], args := [] }

/- WHAT THE LISTED PACKAGE-LEVEL VARIABLES READ AS WHEN THE CALL BEGINS. Each datum BY PROGRAM (the guide's laid-datum.mjs) off the statement by which the dump's own 'gosem.cut.vars' lays the variable. In a bare row this is a premise. The card (YtkmmphkjmamckacDoorCards.lean) ties it to the program's text. -/
def laid_math_bits_deBruijn32tab {H : Type} : DataW H := .agg [.lit (.int .u8 0), .lit (.int .u8 1), .lit (.int .u8 28), .lit (.int .u8 2), .lit (.int .u8 29), .lit (.int .u8 14), .lit (.int .u8 24), .lit (.int .u8 3), .lit (.int .u8 30), .lit (.int .u8 22), .lit (.int .u8 20), .lit (.int .u8 15), .lit (.int .u8 25), .lit (.int .u8 17), .lit (.int .u8 4), .lit (.int .u8 8), .lit (.int .u8 31), .lit (.int .u8 27), .lit (.int .u8 13), .lit (.int .u8 23), .lit (.int .u8 21), .lit (.int .u8 19), .lit (.int .u8 16), .lit (.int .u8 7), .lit (.int .u8 26), .lit (.int .u8 12), .lit (.int .u8 18), .lit (.int .u8 6), .lit (.int .u8 11), .lit (.int .u8 5), .lit (.int .u8 10), .lit (.int .u8 9)]
def laid_math_bits_deBruijn64tab {H : Type} : DataW H := .agg [.lit (.int .u8 0), .lit (.int .u8 1), .lit (.int .u8 56), .lit (.int .u8 2), .lit (.int .u8 57), .lit (.int .u8 49), .lit (.int .u8 28), .lit (.int .u8 3), .lit (.int .u8 61), .lit (.int .u8 58), .lit (.int .u8 42), .lit (.int .u8 50), .lit (.int .u8 38), .lit (.int .u8 29), .lit (.int .u8 17), .lit (.int .u8 4), .lit (.int .u8 62), .lit (.int .u8 47), .lit (.int .u8 59), .lit (.int .u8 36), .lit (.int .u8 45), .lit (.int .u8 43), .lit (.int .u8 51), .lit (.int .u8 22), .lit (.int .u8 53), .lit (.int .u8 39), .lit (.int .u8 33), .lit (.int .u8 30), .lit (.int .u8 24), .lit (.int .u8 18), .lit (.int .u8 12), .lit (.int .u8 5), .lit (.int .u8 63), .lit (.int .u8 55), .lit (.int .u8 48), .lit (.int .u8 27), .lit (.int .u8 60), .lit (.int .u8 41), .lit (.int .u8 37), .lit (.int .u8 16), .lit (.int .u8 46), .lit (.int .u8 35), .lit (.int .u8 44), .lit (.int .u8 21), .lit (.int .u8 52), .lit (.int .u8 32), .lit (.int .u8 23), .lit (.int .u8 11), .lit (.int .u8 54), .lit (.int .u8 26), .lit (.int .u8 40), .lit (.int .u8 15), .lit (.int .u8 34), .lit (.int .u8 20), .lit (.int .u8 31), .lit (.int .u8 10), .lit (.int .u8 25), .lit (.int .u8 14), .lit (.int .u8 19), .lit (.int .u8 9), .lit (.int .u8 13), .lit (.int .u8 8), .lit (.int .u8 7), .lit (.int .u8 6)]
def laid_internal_strconv_uint64pow10 {H : Type} : DataW H := .agg [.lit (.int .u64 1), .lit (.int .u64 10), .lit (.int .u64 100), .lit (.int .u64 1000), .lit (.int .u64 10000), .lit (.int .u64 100000), .lit (.int .u64 1000000), .lit (.int .u64 10000000), .lit (.int .u64 100000000), .lit (.int .u64 1000000000), .lit (.int .u64 10000000000), .lit (.int .u64 100000000000), .lit (.int .u64 1000000000000), .lit (.int .u64 10000000000000), .lit (.int .u64 100000000000000), .lit (.int .u64 1000000000000000), .lit (.int .u64 10000000000000000), .lit (.int .u64 100000000000000000), .lit (.int .u64 1000000000000000000), .lit (.int .u64 10000000000000000000)]

/-- 'fenestrakeep.DrawTurns': WHATEVER THE INPUT: true; the input reads as it did. -/
def drawTurnsSpec : ChangeSpec := { name := "drawTurns", fn := fun _ => fun
  | [d1, d2] => { results := [.lit (.bool true)], args := [d1, d2] }
  | _ => none }
def drawTurnsRow : OpenClaim := { program := "ytkmmphkjmamckacdoor", sum := "003fc31ae53bbd2f84cae8bcb806ae771409a47409c84c6be9f66b505cb5e706", func := "fenestra/fenestrakeep.DrawTurns", spec := "drawTurns", unfollowed := true, recurses := true, named := ["internal/strconv.uint64pow10", "math/bits.deBruijn32tab", "math/bits.deBruijn64tab"], apart := false, laid := [("math/bits.deBruijn32tab", laid_math_bits_deBruijn32tab), ("math/bits.deBruijn64tab", laid_math_bits_deBruijn64tab), ("internal/strconv.uint64pow10", laid_internal_strconv_uint64pow10)] }
def DrawTurnsSaid : Prop := drawTurnsRow.holds Tryd.pinned (OpenSpec.ofChange drawTurnsSpec)

/-- ITS FALSE NEIGHBOUR: 'it returns false'. Refute it at one input. -/
def drawTurnsWrong : ChangeSpec := { name := "drawTurns", fn := fun _ => fun
  | [d1, d2] => { results := [.lit (.bool false)], args := [d1, d2] }
  | _ => none }
def DrawTurnsWrongFalsely : Prop := drawTurnsRow.holds Tryd.pinned (OpenSpec.ofChange drawTurnsWrong)

/-- 'fenestrakeep.DrawSame': WHATEVER THE INPUT: true; the input reads as it did. -/
def drawSameSpec : ChangeSpec := { name := "drawSame", fn := fun _ => fun
  | [d] => { results := [.lit (.bool true)], args := [d] }
  | _ => none }
def drawSameRow : OpenClaim := { program := "ytkmmphkjmamckacdoor", sum := "003fc31ae53bbd2f84cae8bcb806ae771409a47409c84c6be9f66b505cb5e706", func := "fenestra/fenestrakeep.DrawSame", spec := "drawSame", unfollowed := true, recurses := true, named := ["internal/strconv.uint64pow10", "math/bits.deBruijn32tab", "math/bits.deBruijn64tab"], apart := false, laid := [("math/bits.deBruijn32tab", laid_math_bits_deBruijn32tab), ("math/bits.deBruijn64tab", laid_math_bits_deBruijn64tab), ("internal/strconv.uint64pow10", laid_internal_strconv_uint64pow10)] }
def DrawSameSaid : Prop := drawSameRow.holds Tryd.pinned (OpenSpec.ofChange drawSameSpec)

/-- ITS FALSE NEIGHBOUR: 'it returns false'. Refute it at one input. -/
def drawSameWrong : ChangeSpec := { name := "drawSame", fn := fun _ => fun
  | [d] => { results := [.lit (.bool false)], args := [d] }
  | _ => none }
def DrawSameWrongFalsely : Prop := drawSameRow.holds Tryd.pinned (OpenSpec.ofChange drawSameWrong)

/-- 'fenestrakeep.DrawAnew': WHATEVER THE INPUT: true; the input reads as it did. -/
def drawAnewSpec : ChangeSpec := { name := "drawAnew", fn := fun _ => fun
  | [d1, d2] => { results := [.lit (.bool true)], args := [d1, d2] }
  | _ => none }
def drawAnewRow : OpenClaim := { program := "ytkmmphkjmamckacdoor", sum := "003fc31ae53bbd2f84cae8bcb806ae771409a47409c84c6be9f66b505cb5e706", func := "fenestra/fenestrakeep.DrawAnew", spec := "drawAnew", unfollowed := true, recurses := true, named := ["internal/strconv.uint64pow10", "math/bits.deBruijn32tab", "math/bits.deBruijn64tab"], apart := false, laid := [("math/bits.deBruijn32tab", laid_math_bits_deBruijn32tab), ("math/bits.deBruijn64tab", laid_math_bits_deBruijn64tab), ("internal/strconv.uint64pow10", laid_internal_strconv_uint64pow10)] }
def DrawAnewSaid : Prop := drawAnewRow.holds Tryd.pinned (OpenSpec.ofChange drawAnewSpec)

/-- ITS FALSE NEIGHBOUR: 'it returns false'. Refute it at one input. -/
def drawAnewWrong : ChangeSpec := { name := "drawAnew", fn := fun _ => fun
  | [d1, d2] => { results := [.lit (.bool false)], args := [d1, d2] }
  | _ => none }
def DrawAnewWrongFalsely : Prop := drawAnewRow.holds Tryd.pinned (OpenSpec.ofChange drawAnewWrong)

/-- 'fenestralaw.ServerNil': WHATEVER THE INPUT: true; the input reads as it did. -/
def serverNilSpec : ChangeSpec := { name := "serverNil", fn := fun _ => fun
  | [d1, d2] => { results := [.lit (.bool true)], args := [d1, d2] }
  | _ => none }
def serverNilRow : OpenClaim := { program := "ytkmmphkjmamckacdoor", sum := "003fc31ae53bbd2f84cae8bcb806ae771409a47409c84c6be9f66b505cb5e706", func := "fenestra/fenestralaw.ServerNil", spec := "serverNil", inPlace := ["slices.overlaps[[]int]", "slices.overlaps[int]"], unfollowed := true, recurses := true, named := ["internal/strconv.uint64pow10", "math/bits.deBruijn32tab", "math/bits.deBruijn64tab"], apart := false, laid := [("math/bits.deBruijn32tab", laid_math_bits_deBruijn32tab), ("math/bits.deBruijn64tab", laid_math_bits_deBruijn64tab), ("internal/strconv.uint64pow10", laid_internal_strconv_uint64pow10)] }
def ServerNilSaid : Prop := serverNilRow.holds Tryd.pinned (OpenSpec.ofChange serverNilSpec)

/-- ITS FALSE NEIGHBOUR: 'it returns false'. Refute it at one input. -/
def serverNilWrong : ChangeSpec := { name := "serverNil", fn := fun _ => fun
  | [d1, d2] => { results := [.lit (.bool false)], args := [d1, d2] }
  | _ => none }
def ServerNilWrongFalsely : Prop := serverNilRow.holds Tryd.pinned (OpenSpec.ofChange serverNilWrong)

/-- 'fenestratop.TopCatches': WHATEVER THE INPUT: true; the input reads as it did. -/
def topCatchesSpec : ChangeSpec := { name := "topCatches", fn := fun _ => fun
  | [d] => { results := [.lit (.bool true)], args := [d] }
  | _ => none }
def topCatchesRow : OpenClaim := { program := "ytkmmphkjmamckacdoor", sum := "003fc31ae53bbd2f84cae8bcb806ae771409a47409c84c6be9f66b505cb5e706", func := "fenestra/fenestratop.TopCatches", spec := "topCatches", inPlace := ["slices.overlaps[[]int]", "slices.overlaps[int]"], unfollowed := true, recurses := true, named := ["internal/strconv.uint64pow10", "math/bits.deBruijn32tab", "math/bits.deBruijn64tab"], apart := false, laid := [("math/bits.deBruijn32tab", laid_math_bits_deBruijn32tab), ("math/bits.deBruijn64tab", laid_math_bits_deBruijn64tab), ("internal/strconv.uint64pow10", laid_internal_strconv_uint64pow10)] }
def TopCatchesSaid : Prop := topCatchesRow.holds Tryd.pinned (OpenSpec.ofChange topCatchesSpec)

/-- ITS FALSE NEIGHBOUR: 'it returns false'. Refute it at one input. -/
def topCatchesWrong : ChangeSpec := { name := "topCatches", fn := fun _ => fun
  | [d] => { results := [.lit (.bool false)], args := [d] }
  | _ => none }
def TopCatchesWrongFalsely : Prop := topCatchesRow.holds Tryd.pinned (OpenSpec.ofChange topCatchesWrong)

/-- 'fenestratop.TopParts': WHATEVER THE INPUT: true; the input reads as it did. -/
def topPartsSpec : ChangeSpec := { name := "topParts", fn := fun _ => fun
  | [d1, d2] => { results := [.lit (.bool true)], args := [d1, d2] }
  | _ => none }
def topPartsRow : OpenClaim := { program := "ytkmmphkjmamckacdoor", sum := "003fc31ae53bbd2f84cae8bcb806ae771409a47409c84c6be9f66b505cb5e706", func := "fenestra/fenestratop.TopParts", spec := "topParts", inPlace := ["slices.overlaps[[]int]", "slices.overlaps[int]"], unfollowed := true, recurses := true, named := ["internal/strconv.uint64pow10", "math/bits.deBruijn32tab", "math/bits.deBruijn64tab"], apart := false, laid := [("math/bits.deBruijn32tab", laid_math_bits_deBruijn32tab), ("math/bits.deBruijn64tab", laid_math_bits_deBruijn64tab), ("internal/strconv.uint64pow10", laid_internal_strconv_uint64pow10)] }
def TopPartsSaid : Prop := topPartsRow.holds Tryd.pinned (OpenSpec.ofChange topPartsSpec)

/-- ITS FALSE NEIGHBOUR: 'it returns false'. Refute it at one input. -/
def topPartsWrong : ChangeSpec := { name := "topParts", fn := fun _ => fun
  | [d1, d2] => { results := [.lit (.bool false)], args := [d1, d2] }
  | _ => none }
def TopPartsWrongFalsely : Prop := topPartsRow.holds Tryd.pinned (OpenSpec.ofChange topPartsWrong)

/-- 'fenestratop.TopApart': WHATEVER THE INPUT: true; the input reads as it did. -/
def topApartSpec : ChangeSpec := { name := "topApart", fn := fun _ => fun
  | [d1, d2, d3] => { results := [.lit (.bool true)], args := [d1, d2, d3] }
  | _ => none }
def topApartRow : OpenClaim := { program := "ytkmmphkjmamckacdoor", sum := "003fc31ae53bbd2f84cae8bcb806ae771409a47409c84c6be9f66b505cb5e706", func := "fenestra/fenestratop.TopApart", spec := "topApart", inPlace := ["slices.overlaps[[]int]", "slices.overlaps[int]"], unfollowed := true, recurses := true, named := ["internal/strconv.uint64pow10", "math/bits.deBruijn32tab", "math/bits.deBruijn64tab"], apart := false, laid := [("math/bits.deBruijn32tab", laid_math_bits_deBruijn32tab), ("math/bits.deBruijn64tab", laid_math_bits_deBruijn64tab), ("internal/strconv.uint64pow10", laid_internal_strconv_uint64pow10)] }
def TopApartSaid : Prop := topApartRow.holds Tryd.pinned (OpenSpec.ofChange topApartSpec)

/-- ITS FALSE NEIGHBOUR: 'it returns false'. Refute it at one input. -/
def topApartWrong : ChangeSpec := { name := "topApart", fn := fun _ => fun
  | [d1, d2, d3] => { results := [.lit (.bool false)], args := [d1, d2, d3] }
  | _ => none }
def TopApartWrongFalsely : Prop := topApartRow.holds Tryd.pinned (OpenSpec.ofChange topApartWrong)

/-- 'fenestratop.TopGood': WHATEVER THE INPUT: true; the input reads as it did. -/
def topGoodSpec : ChangeSpec := { name := "topGood", fn := fun _ => fun
  | [d] => { results := [.lit (.bool true)], args := [d] }
  | _ => none }
def topGoodRow : OpenClaim := { program := "ytkmmphkjmamckacdoor", sum := "003fc31ae53bbd2f84cae8bcb806ae771409a47409c84c6be9f66b505cb5e706", func := "fenestra/fenestratop.TopGood", spec := "topGood", inPlace := ["slices.overlaps[[]int]", "slices.overlaps[int]"], unfollowed := true, recurses := true, named := ["internal/strconv.uint64pow10", "math/bits.deBruijn32tab", "math/bits.deBruijn64tab"], apart := false, laid := [("math/bits.deBruijn32tab", laid_math_bits_deBruijn32tab), ("math/bits.deBruijn64tab", laid_math_bits_deBruijn64tab), ("internal/strconv.uint64pow10", laid_internal_strconv_uint64pow10)] }
def TopGoodSaid : Prop := topGoodRow.holds Tryd.pinned (OpenSpec.ofChange topGoodSpec)

/-- ITS FALSE NEIGHBOUR: 'it returns false'. Refute it at one input. -/
def topGoodWrong : ChangeSpec := { name := "topGood", fn := fun _ => fun
  | [d] => { results := [.lit (.bool false)], args := [d] }
  | _ => none }
def TopGoodWrongFalsely : Prop := topGoodRow.holds Tryd.pinned (OpenSpec.ofChange topGoodWrong)

/-- 'fenestratop.TopOthers': WHATEVER THE INPUT: true; the input reads as it did. -/
def topOthersSpec : ChangeSpec := { name := "topOthers", fn := fun _ => fun
  | [d1, d2] => { results := [.lit (.bool true)], args := [d1, d2] }
  | _ => none }
def topOthersRow : OpenClaim := { program := "ytkmmphkjmamckacdoor", sum := "003fc31ae53bbd2f84cae8bcb806ae771409a47409c84c6be9f66b505cb5e706", func := "fenestra/fenestratop.TopOthers", spec := "topOthers", inPlace := ["slices.overlaps[[]int]", "slices.overlaps[int]"], unfollowed := true, recurses := true, named := ["internal/strconv.uint64pow10", "math/bits.deBruijn32tab", "math/bits.deBruijn64tab"], apart := false, laid := [("math/bits.deBruijn32tab", laid_math_bits_deBruijn32tab), ("math/bits.deBruijn64tab", laid_math_bits_deBruijn64tab), ("internal/strconv.uint64pow10", laid_internal_strconv_uint64pow10)] }
def TopOthersSaid : Prop := topOthersRow.holds Tryd.pinned (OpenSpec.ofChange topOthersSpec)

/-- ITS FALSE NEIGHBOUR: 'it returns false'. Refute it at one input. -/
def topOthersWrong : ChangeSpec := { name := "topOthers", fn := fun _ => fun
  | [d1, d2] => { results := [.lit (.bool false)], args := [d1, d2] }
  | _ => none }
def TopOthersWrongFalsely : Prop := topOthersRow.holds Tryd.pinned (OpenSpec.ofChange topOthersWrong)

/-- 'fenestratop.TopRefused': WHATEVER THE INPUT: true; the input reads as it did. -/
def topRefusedSpec : ChangeSpec := { name := "topRefused", fn := fun _ => fun
  | [d1, d2] => { results := [.lit (.bool true)], args := [d1, d2] }
  | _ => none }
def topRefusedRow : OpenClaim := { program := "ytkmmphkjmamckacdoor", sum := "003fc31ae53bbd2f84cae8bcb806ae771409a47409c84c6be9f66b505cb5e706", func := "fenestra/fenestratop.TopRefused", spec := "topRefused", inPlace := ["slices.overlaps[[]int]", "slices.overlaps[int]"], unfollowed := true, recurses := true, named := ["internal/strconv.uint64pow10", "math/bits.deBruijn32tab", "math/bits.deBruijn64tab"], apart := false, laid := [("math/bits.deBruijn32tab", laid_math_bits_deBruijn32tab), ("math/bits.deBruijn64tab", laid_math_bits_deBruijn64tab), ("internal/strconv.uint64pow10", laid_internal_strconv_uint64pow10)] }
def TopRefusedSaid : Prop := topRefusedRow.holds Tryd.pinned (OpenSpec.ofChange topRefusedSpec)

/-- ITS FALSE NEIGHBOUR: 'it returns false'. Refute it at one input. -/
def topRefusedWrong : ChangeSpec := { name := "topRefused", fn := fun _ => fun
  | [d1, d2] => { results := [.lit (.bool false)], args := [d1, d2] }
  | _ => none }
def TopRefusedWrongFalsely : Prop := topRefusedRow.holds Tryd.pinned (OpenSpec.ofChange topRefusedWrong)

/- THE SECOND FORM. 'bulk': how many values and letters a reading holds, each counted each time it is reached (what is shared counts as often as it is met; a slice's spare places count too). A statement '..UptoSaid' is the law's where the arguments, and the package variables that the reading takes, are together of bulk at most 1048576: NARROWER than '..Said'. Prove '..Said' where nothing that the law and all that it calls make is longer than what came in: it says more and counts as full. Else prove '..UptoSaid'. A law counts once. -/
mutual
def uptoBulk {H : Type} : DataW H → Nat
  | .lit (.string bytes) => bytes.length + 1
  | .lit _ => 1
  | .nil => 1
  | .ptr d => uptoBulk d + 1
  | .slice elems spare => uptoBulkAll elems + uptoBulkAll spare + 1
  | .agg parts => uptoBulkAll parts + 1
  | .iface _ d => uptoBulk d + 1
  | .map entries => uptoBulkEntries entries + 1
  | .held _ => 1
def uptoBulkAll {H : Type} : List (DataW H) → Nat
  | [] => 0
  | d :: r => uptoBulk d + uptoBulkAll r
def uptoBulkEntries {H : Type} : List (Lit × DataW H) → Nat
  | [] => 0
  | x :: r => uptoBulkEntry x + uptoBulkEntries r
def uptoBulkEntry {H : Type} : Lit × DataW H → Nat
  | (.string bytes, d) => bytes.length + uptoBulk d + 1
  | (_, d) => uptoBulk d + 1
 end
def uptoSmall : (H : Type) → List (DataW H) → Bool := fun _ ds => decide (uptoBulkAll ds ≤ 1048576)
def OpenSpec.upto (s : _root_.Go.ChangeSpec) : _root_.Go.OpenSpec := { _root_.Go.OpenSpec.ofChange s with cond := some uptoSmall }

/-- 'fenestrakeep.DrawTurns', WHERE WHAT IT READS IS OF BULK AT MOST 1048576: true; the input reads as it did. -/
def drawTurnsUptoRow : OpenClaim := { program := "ytkmmphkjmamckacdoor", sum := "003fc31ae53bbd2f84cae8bcb806ae771409a47409c84c6be9f66b505cb5e706", func := "fenestra/fenestrakeep.DrawTurns", spec := "drawTurns", unfollowed := true, recurses := true, named := ["internal/strconv.uint64pow10", "math/bits.deBruijn32tab", "math/bits.deBruijn64tab"], apart := false, laid := [("math/bits.deBruijn32tab", laid_math_bits_deBruijn32tab), ("math/bits.deBruijn64tab", laid_math_bits_deBruijn64tab), ("internal/strconv.uint64pow10", laid_internal_strconv_uint64pow10)], narrowed := true }
def DrawTurnsUptoSaid : Prop := drawTurnsUptoRow.holds Tryd.pinned (OpenSpec.upto drawTurnsSpec)

/-- 'fenestrakeep.DrawSame', WHERE WHAT IT READS IS OF BULK AT MOST 1048576: true; the input reads as it did. -/
def drawSameUptoRow : OpenClaim := { program := "ytkmmphkjmamckacdoor", sum := "003fc31ae53bbd2f84cae8bcb806ae771409a47409c84c6be9f66b505cb5e706", func := "fenestra/fenestrakeep.DrawSame", spec := "drawSame", unfollowed := true, recurses := true, named := ["internal/strconv.uint64pow10", "math/bits.deBruijn32tab", "math/bits.deBruijn64tab"], apart := false, laid := [("math/bits.deBruijn32tab", laid_math_bits_deBruijn32tab), ("math/bits.deBruijn64tab", laid_math_bits_deBruijn64tab), ("internal/strconv.uint64pow10", laid_internal_strconv_uint64pow10)], narrowed := true }
def DrawSameUptoSaid : Prop := drawSameUptoRow.holds Tryd.pinned (OpenSpec.upto drawSameSpec)

/-- 'fenestrakeep.DrawAnew', WHERE WHAT IT READS IS OF BULK AT MOST 1048576: true; the input reads as it did. -/
def drawAnewUptoRow : OpenClaim := { program := "ytkmmphkjmamckacdoor", sum := "003fc31ae53bbd2f84cae8bcb806ae771409a47409c84c6be9f66b505cb5e706", func := "fenestra/fenestrakeep.DrawAnew", spec := "drawAnew", unfollowed := true, recurses := true, named := ["internal/strconv.uint64pow10", "math/bits.deBruijn32tab", "math/bits.deBruijn64tab"], apart := false, laid := [("math/bits.deBruijn32tab", laid_math_bits_deBruijn32tab), ("math/bits.deBruijn64tab", laid_math_bits_deBruijn64tab), ("internal/strconv.uint64pow10", laid_internal_strconv_uint64pow10)], narrowed := true }
def DrawAnewUptoSaid : Prop := drawAnewUptoRow.holds Tryd.pinned (OpenSpec.upto drawAnewSpec)

/-- 'fenestralaw.ServerNil', WHERE WHAT IT READS IS OF BULK AT MOST 1048576: true; the input reads as it did. -/
def serverNilUptoRow : OpenClaim := { program := "ytkmmphkjmamckacdoor", sum := "003fc31ae53bbd2f84cae8bcb806ae771409a47409c84c6be9f66b505cb5e706", func := "fenestra/fenestralaw.ServerNil", spec := "serverNil", inPlace := ["slices.overlaps[[]int]", "slices.overlaps[int]"], unfollowed := true, recurses := true, named := ["internal/strconv.uint64pow10", "math/bits.deBruijn32tab", "math/bits.deBruijn64tab"], apart := false, laid := [("math/bits.deBruijn32tab", laid_math_bits_deBruijn32tab), ("math/bits.deBruijn64tab", laid_math_bits_deBruijn64tab), ("internal/strconv.uint64pow10", laid_internal_strconv_uint64pow10)], narrowed := true }
def ServerNilUptoSaid : Prop := serverNilUptoRow.holds Tryd.pinned (OpenSpec.upto serverNilSpec)

/-- 'fenestratop.TopCatches', WHERE WHAT IT READS IS OF BULK AT MOST 1048576: true; the input reads as it did. -/
def topCatchesUptoRow : OpenClaim := { program := "ytkmmphkjmamckacdoor", sum := "003fc31ae53bbd2f84cae8bcb806ae771409a47409c84c6be9f66b505cb5e706", func := "fenestra/fenestratop.TopCatches", spec := "topCatches", inPlace := ["slices.overlaps[[]int]", "slices.overlaps[int]"], unfollowed := true, recurses := true, named := ["internal/strconv.uint64pow10", "math/bits.deBruijn32tab", "math/bits.deBruijn64tab"], apart := false, laid := [("math/bits.deBruijn32tab", laid_math_bits_deBruijn32tab), ("math/bits.deBruijn64tab", laid_math_bits_deBruijn64tab), ("internal/strconv.uint64pow10", laid_internal_strconv_uint64pow10)], narrowed := true }
def TopCatchesUptoSaid : Prop := topCatchesUptoRow.holds Tryd.pinned (OpenSpec.upto topCatchesSpec)

/-- 'fenestratop.TopParts', WHERE WHAT IT READS IS OF BULK AT MOST 1048576: true; the input reads as it did. -/
def topPartsUptoRow : OpenClaim := { program := "ytkmmphkjmamckacdoor", sum := "003fc31ae53bbd2f84cae8bcb806ae771409a47409c84c6be9f66b505cb5e706", func := "fenestra/fenestratop.TopParts", spec := "topParts", inPlace := ["slices.overlaps[[]int]", "slices.overlaps[int]"], unfollowed := true, recurses := true, named := ["internal/strconv.uint64pow10", "math/bits.deBruijn32tab", "math/bits.deBruijn64tab"], apart := false, laid := [("math/bits.deBruijn32tab", laid_math_bits_deBruijn32tab), ("math/bits.deBruijn64tab", laid_math_bits_deBruijn64tab), ("internal/strconv.uint64pow10", laid_internal_strconv_uint64pow10)], narrowed := true }
def TopPartsUptoSaid : Prop := topPartsUptoRow.holds Tryd.pinned (OpenSpec.upto topPartsSpec)

/-- 'fenestratop.TopApart', WHERE WHAT IT READS IS OF BULK AT MOST 1048576: true; the input reads as it did. -/
def topApartUptoRow : OpenClaim := { program := "ytkmmphkjmamckacdoor", sum := "003fc31ae53bbd2f84cae8bcb806ae771409a47409c84c6be9f66b505cb5e706", func := "fenestra/fenestratop.TopApart", spec := "topApart", inPlace := ["slices.overlaps[[]int]", "slices.overlaps[int]"], unfollowed := true, recurses := true, named := ["internal/strconv.uint64pow10", "math/bits.deBruijn32tab", "math/bits.deBruijn64tab"], apart := false, laid := [("math/bits.deBruijn32tab", laid_math_bits_deBruijn32tab), ("math/bits.deBruijn64tab", laid_math_bits_deBruijn64tab), ("internal/strconv.uint64pow10", laid_internal_strconv_uint64pow10)], narrowed := true }
def TopApartUptoSaid : Prop := topApartUptoRow.holds Tryd.pinned (OpenSpec.upto topApartSpec)

/-- 'fenestratop.TopGood', WHERE WHAT IT READS IS OF BULK AT MOST 1048576: true; the input reads as it did. -/
def topGoodUptoRow : OpenClaim := { program := "ytkmmphkjmamckacdoor", sum := "003fc31ae53bbd2f84cae8bcb806ae771409a47409c84c6be9f66b505cb5e706", func := "fenestra/fenestratop.TopGood", spec := "topGood", inPlace := ["slices.overlaps[[]int]", "slices.overlaps[int]"], unfollowed := true, recurses := true, named := ["internal/strconv.uint64pow10", "math/bits.deBruijn32tab", "math/bits.deBruijn64tab"], apart := false, laid := [("math/bits.deBruijn32tab", laid_math_bits_deBruijn32tab), ("math/bits.deBruijn64tab", laid_math_bits_deBruijn64tab), ("internal/strconv.uint64pow10", laid_internal_strconv_uint64pow10)], narrowed := true }
def TopGoodUptoSaid : Prop := topGoodUptoRow.holds Tryd.pinned (OpenSpec.upto topGoodSpec)

/-- 'fenestratop.TopOthers', WHERE WHAT IT READS IS OF BULK AT MOST 1048576: true; the input reads as it did. -/
def topOthersUptoRow : OpenClaim := { program := "ytkmmphkjmamckacdoor", sum := "003fc31ae53bbd2f84cae8bcb806ae771409a47409c84c6be9f66b505cb5e706", func := "fenestra/fenestratop.TopOthers", spec := "topOthers", inPlace := ["slices.overlaps[[]int]", "slices.overlaps[int]"], unfollowed := true, recurses := true, named := ["internal/strconv.uint64pow10", "math/bits.deBruijn32tab", "math/bits.deBruijn64tab"], apart := false, laid := [("math/bits.deBruijn32tab", laid_math_bits_deBruijn32tab), ("math/bits.deBruijn64tab", laid_math_bits_deBruijn64tab), ("internal/strconv.uint64pow10", laid_internal_strconv_uint64pow10)], narrowed := true }
def TopOthersUptoSaid : Prop := topOthersUptoRow.holds Tryd.pinned (OpenSpec.upto topOthersSpec)

/-- 'fenestratop.TopRefused', WHERE WHAT IT READS IS OF BULK AT MOST 1048576: true; the input reads as it did. -/
def topRefusedUptoRow : OpenClaim := { program := "ytkmmphkjmamckacdoor", sum := "003fc31ae53bbd2f84cae8bcb806ae771409a47409c84c6be9f66b505cb5e706", func := "fenestra/fenestratop.TopRefused", spec := "topRefused", inPlace := ["slices.overlaps[[]int]", "slices.overlaps[int]"], unfollowed := true, recurses := true, named := ["internal/strconv.uint64pow10", "math/bits.deBruijn32tab", "math/bits.deBruijn64tab"], apart := false, laid := [("math/bits.deBruijn32tab", laid_math_bits_deBruijn32tab), ("math/bits.deBruijn64tab", laid_math_bits_deBruijn64tab), ("internal/strconv.uint64pow10", laid_internal_strconv_uint64pow10)], narrowed := true }
def TopRefusedUptoSaid : Prop := topRefusedUptoRow.holds Tryd.pinned (OpenSpec.upto topRefusedSpec)

end Rows
end Go.Proofs.YtkmmphkjmamckacDoor
