/-
  No cell of these rows narrows 'for every input' (looked for: loops, veiled, ifaces, maps, wideKeys, modest, calm, conditions, laid).
  DERIVED. THE GIVEN ROWS OF THIS SEAT. 11 by the template 'for every input the law returns true; each argument reads behind the call as it read before'; 0 by the template 'total and deterministic' (their statements: YtkmmphkjmamckaaTotals.lean).
  GIVEN WITH THE SEED: the statements are not yours to turn. If you find one false, say at which input.
  Laid BY PROGRAM, IN A SANDBOX (cutbox-rows.mjs): the forced cells as the released guide's own fill.sh prints them over the translation 60432501013db24f… (all of the seat's roots in one cut). By AI agents, Wed Nov 11 2026. No macro, syntax, notation, axiom, sorry.
-/
import Derived.Test.YtkmmphkjmamckaaChecked
import GoSem.Claim
import GoSem.ClaimJoined
import GoSem.ClaimMapViews
import Derived.JoinedTies
import Derived.KernelRfl
namespace Go.Proofs.Ytkmmphkjmamckaa
/- THE CELL 'sum', in the pinned program and in every row, IS THE sha256 OF THE DUMP (.gsa) THAT YtkmmphkjmamckaaProg.lean LOADS. Nothing in Lean hashes anything: it is a label: what it is worth is what the hold of that sum in a sandbox is worth. -/
noncomputable def Try.pinned : Pinned := { name := "ytkmmphkjmamckaa", sum := "60432501013db24faec8325c243ab9a6ae64e9d46c6ea4d8fee5632e9f22e4a9", checked := Try.checked }
namespace Rows
def none {H : Type} : Left H := { results := [], args := [] }

/-- 'fenestralaw.Names': WHATEVER THE INPUT: true; the input reads as it did. -/
def namesSpec : ChangeSpec := { name := "names", fn := fun _ => fun
  | [] => { results := [.lit (.bool true)], args := [] }
  | _ => none }
def namesRow : OpenClaim := { program := "ytkmmphkjmamckaa", sum := "60432501013db24faec8325c243ab9a6ae64e9d46c6ea4d8fee5632e9f22e4a9", func := "fenestra/fenestralaw.Names", spec := "names", apart := false }
def NamesSaid : Prop := namesRow.holds Try.pinned (OpenSpec.ofChange namesSpec)

/-- ITS FALSE NEIGHBOUR: 'it returns false'. Refute it at one input. -/
def namesWrong : ChangeSpec := { name := "names", fn := fun _ => fun
  | [] => { results := [.lit (.bool false)], args := [] }
  | _ => none }
def NamesWrongFalsely : Prop := namesRow.holds Try.pinned (OpenSpec.ofChange namesWrong)

/-- 'fenestralaw.ParseFeeds': WHATEVER THE INPUT: true; the input reads as it did. -/
def parseFeedsSpec : ChangeSpec := { name := "parseFeeds", fn := fun _ => fun
  | [d1, d2] => { results := [.lit (.bool true)], args := [d1, d2] }
  | _ => none }
def parseFeedsRow : OpenClaim := { program := "ytkmmphkjmamckaa", sum := "60432501013db24faec8325c243ab9a6ae64e9d46c6ea4d8fee5632e9f22e4a9", func := "fenestra/fenestralaw.ParseFeeds", spec := "parseFeeds", unfollowed := true, recurses := true, apart := false }
def ParseFeedsSaid : Prop := parseFeedsRow.holds Try.pinned (OpenSpec.ofChange parseFeedsSpec)

/-- ITS FALSE NEIGHBOUR: 'it returns false'. Refute it at one input. -/
def parseFeedsWrong : ChangeSpec := { name := "parseFeeds", fn := fun _ => fun
  | [d1, d2] => { results := [.lit (.bool false)], args := [d1, d2] }
  | _ => none }
def ParseFeedsWrongFalsely : Prop := parseFeedsRow.holds Try.pinned (OpenSpec.ofChange parseFeedsWrong)

/-- 'fenestrakeep.ParseParts': WHATEVER THE INPUT: true; the input reads as it did. -/
def parsePartsSpec : ChangeSpec := { name := "parseParts", fn := fun _ => fun
  | [d1, d2, d3] => { results := [.lit (.bool true)], args := [d1, d2, d3] }
  | _ => none }
def parsePartsRow : OpenClaim := { program := "ytkmmphkjmamckaa", sum := "60432501013db24faec8325c243ab9a6ae64e9d46c6ea4d8fee5632e9f22e4a9", func := "fenestra/fenestrakeep.ParseParts", spec := "parseParts", apart := false }
def ParsePartsSaid : Prop := parsePartsRow.holds Try.pinned (OpenSpec.ofChange parsePartsSpec)

/-- ITS FALSE NEIGHBOUR: 'it returns false'. Refute it at one input. -/
def parsePartsWrong : ChangeSpec := { name := "parseParts", fn := fun _ => fun
  | [d1, d2, d3] => { results := [.lit (.bool false)], args := [d1, d2, d3] }
  | _ => none }
def ParsePartsWrongFalsely : Prop := parsePartsRow.holds Try.pinned (OpenSpec.ofChange parsePartsWrong)

/-- 'fenestrakeep.ParsePlain': WHATEVER THE INPUT: true; the input reads as it did. -/
def parsePlainSpec : ChangeSpec := { name := "parsePlain", fn := fun _ => fun
  | [d] => { results := [.lit (.bool true)], args := [d] }
  | _ => none }
def parsePlainRow : OpenClaim := { program := "ytkmmphkjmamckaa", sum := "60432501013db24faec8325c243ab9a6ae64e9d46c6ea4d8fee5632e9f22e4a9", func := "fenestra/fenestrakeep.ParsePlain", spec := "parsePlain", apart := false }
def ParsePlainSaid : Prop := parsePlainRow.holds Try.pinned (OpenSpec.ofChange parsePlainSpec)

/-- ITS FALSE NEIGHBOUR: 'it returns false'. Refute it at one input. -/
def parsePlainWrong : ChangeSpec := { name := "parsePlain", fn := fun _ => fun
  | [d] => { results := [.lit (.bool false)], args := [d] }
  | _ => none }
def ParsePlainWrongFalsely : Prop := parsePlainRow.holds Try.pinned (OpenSpec.ofChange parsePlainWrong)

/-- 'fenestrakeep.ParseStops': WHATEVER THE INPUT: true; the input reads as it did. -/
def parseStopsSpec : ChangeSpec := { name := "parseStops", fn := fun _ => fun
  | [d1, d2] => { results := [.lit (.bool true)], args := [d1, d2] }
  | _ => none }
def parseStopsRow : OpenClaim := { program := "ytkmmphkjmamckaa", sum := "60432501013db24faec8325c243ab9a6ae64e9d46c6ea4d8fee5632e9f22e4a9", func := "fenestra/fenestrakeep.ParseStops", spec := "parseStops", apart := false }
def ParseStopsSaid : Prop := parseStopsRow.holds Try.pinned (OpenSpec.ofChange parseStopsSpec)

/-- ITS FALSE NEIGHBOUR: 'it returns false'. Refute it at one input. -/
def parseStopsWrong : ChangeSpec := { name := "parseStops", fn := fun _ => fun
  | [d1, d2] => { results := [.lit (.bool false)], args := [d1, d2] }
  | _ => none }
def ParseStopsWrongFalsely : Prop := parseStopsRow.holds Try.pinned (OpenSpec.ofChange parseStopsWrong)

/-- 'fenestralaw.PaintSees': WHATEVER THE INPUT: true; the input reads as it did. -/
def paintSeesSpec : ChangeSpec := { name := "paintSees", fn := fun _ => fun
  | [d1, d2, d3] => { results := [.lit (.bool true)], args := [d1, d2, d3] }
  | _ => none }
def paintSeesRow : OpenClaim := { program := "ytkmmphkjmamckaa", sum := "60432501013db24faec8325c243ab9a6ae64e9d46c6ea4d8fee5632e9f22e4a9", func := "fenestra/fenestralaw.PaintSees", spec := "paintSees", apart := false }
def PaintSeesSaid : Prop := paintSeesRow.holds Try.pinned (OpenSpec.ofChange paintSeesSpec)

/-- ITS FALSE NEIGHBOUR: 'it returns false'. Refute it at one input. -/
def paintSeesWrong : ChangeSpec := { name := "paintSees", fn := fun _ => fun
  | [d1, d2, d3] => { results := [.lit (.bool false)], args := [d1, d2, d3] }
  | _ => none }
def PaintSeesWrongFalsely : Prop := paintSeesRow.holds Try.pinned (OpenSpec.ofChange paintSeesWrong)

/-- 'fenestralaw.PaintScreens': WHATEVER THE INPUT: true; the input reads as it did. -/
def paintScreensSpec : ChangeSpec := { name := "paintScreens", fn := fun _ => fun
  | [d1, d2, d3] => { results := [.lit (.bool true)], args := [d1, d2, d3] }
  | _ => none }
def paintScreensRow : OpenClaim := { program := "ytkmmphkjmamckaa", sum := "60432501013db24faec8325c243ab9a6ae64e9d46c6ea4d8fee5632e9f22e4a9", func := "fenestra/fenestralaw.PaintScreens", spec := "paintScreens", apart := false }
def PaintScreensSaid : Prop := paintScreensRow.holds Try.pinned (OpenSpec.ofChange paintScreensSpec)

/-- ITS FALSE NEIGHBOUR: 'it returns false'. Refute it at one input. -/
def paintScreensWrong : ChangeSpec := { name := "paintScreens", fn := fun _ => fun
  | [d1, d2, d3] => { results := [.lit (.bool false)], args := [d1, d2, d3] }
  | _ => none }
def PaintScreensWrongFalsely : Prop := paintScreensRow.holds Try.pinned (OpenSpec.ofChange paintScreensWrong)

/-- 'fenestralaw.GridDoes': WHATEVER THE INPUT: true; the input reads as it did. -/
def gridDoesSpec : ChangeSpec := { name := "gridDoes", fn := fun _ => fun
  | [d1, d2] => { results := [.lit (.bool true)], args := [d1, d2] }
  | _ => none }
def gridDoesRow : OpenClaim := { program := "ytkmmphkjmamckaa", sum := "60432501013db24faec8325c243ab9a6ae64e9d46c6ea4d8fee5632e9f22e4a9", func := "fenestra/fenestralaw.GridDoes", spec := "gridDoes", unfollowed := true, recurses := true, apart := false }
def GridDoesSaid : Prop := gridDoesRow.holds Try.pinned (OpenSpec.ofChange gridDoesSpec)

/-- ITS FALSE NEIGHBOUR: 'it returns false'. Refute it at one input. -/
def gridDoesWrong : ChangeSpec := { name := "gridDoes", fn := fun _ => fun
  | [d1, d2] => { results := [.lit (.bool false)], args := [d1, d2] }
  | _ => none }
def GridDoesWrongFalsely : Prop := gridDoesRow.holds Try.pinned (OpenSpec.ofChange gridDoesWrong)

/-- 'fenestrakeep.GridGood': WHATEVER THE INPUT: true; the input reads as it did. -/
def gridGoodSpec : ChangeSpec := { name := "gridGood", fn := fun _ => fun
  | [d1, d2] => { results := [.lit (.bool true)], args := [d1, d2] }
  | _ => none }
def gridGoodRow : OpenClaim := { program := "ytkmmphkjmamckaa", sum := "60432501013db24faec8325c243ab9a6ae64e9d46c6ea4d8fee5632e9f22e4a9", func := "fenestra/fenestrakeep.GridGood", spec := "gridGood", unfollowed := true, recurses := true, apart := false }
def GridGoodSaid : Prop := gridGoodRow.holds Try.pinned (OpenSpec.ofChange gridGoodSpec)

/-- ITS FALSE NEIGHBOUR: 'it returns false'. Refute it at one input. -/
def gridGoodWrong : ChangeSpec := { name := "gridGood", fn := fun _ => fun
  | [d1, d2] => { results := [.lit (.bool false)], args := [d1, d2] }
  | _ => none }
def GridGoodWrongFalsely : Prop := gridGoodRow.holds Try.pinned (OpenSpec.ofChange gridGoodWrong)

/-- 'fenestrakeep.GridErases': WHATEVER THE INPUT: true; the input reads as it did. -/
def gridErasesSpec : ChangeSpec := { name := "gridErases", fn := fun _ => fun
  | [d1, d2] => { results := [.lit (.bool true)], args := [d1, d2] }
  | _ => none }
def gridErasesRow : OpenClaim := { program := "ytkmmphkjmamckaa", sum := "60432501013db24faec8325c243ab9a6ae64e9d46c6ea4d8fee5632e9f22e4a9", func := "fenestra/fenestrakeep.GridErases", spec := "gridErases", unfollowed := true, recurses := true, apart := false }
def GridErasesSaid : Prop := gridErasesRow.holds Try.pinned (OpenSpec.ofChange gridErasesSpec)

/-- ITS FALSE NEIGHBOUR: 'it returns false'. Refute it at one input. -/
def gridErasesWrong : ChangeSpec := { name := "gridErases", fn := fun _ => fun
  | [d1, d2] => { results := [.lit (.bool false)], args := [d1, d2] }
  | _ => none }
def GridErasesWrongFalsely : Prop := gridErasesRow.holds Try.pinned (OpenSpec.ofChange gridErasesWrong)

/-- 'fenestrakeep.GridPrints': WHATEVER THE INPUT: true; the input reads as it did. -/
def gridPrintsSpec : ChangeSpec := { name := "gridPrints", fn := fun _ => fun
  | [d1, d2] => { results := [.lit (.bool true)], args := [d1, d2] }
  | _ => none }
def gridPrintsRow : OpenClaim := { program := "ytkmmphkjmamckaa", sum := "60432501013db24faec8325c243ab9a6ae64e9d46c6ea4d8fee5632e9f22e4a9", func := "fenestra/fenestrakeep.GridPrints", spec := "gridPrints", unfollowed := true, recurses := true, apart := false }
def GridPrintsSaid : Prop := gridPrintsRow.holds Try.pinned (OpenSpec.ofChange gridPrintsSpec)

/-- ITS FALSE NEIGHBOUR: 'it returns false'. Refute it at one input. -/
def gridPrintsWrong : ChangeSpec := { name := "gridPrints", fn := fun _ => fun
  | [d1, d2] => { results := [.lit (.bool false)], args := [d1, d2] }
  | _ => none }
def GridPrintsWrongFalsely : Prop := gridPrintsRow.holds Try.pinned (OpenSpec.ofChange gridPrintsWrong)

/- THE SECOND FORM. 'bulk': how many values and letters a reading holds, each counted each time it is reached (what is shared counts as often as it is met; a slice's spare places count too). A statement '..UptoSaid' is the law's where the arguments, and the package variables that the reading takes, are together of bulk at most 1048576: NARROWER than '..Said'. Prove '..Said' where nothing that the law and all that it calls make is longer than what came in: it says more and counts as full. Else prove '..UptoSaid'. A law counts once. -/
mutual
def uptoBulk {H : Type} : DataW H → Nat
  | .lit (.string bytes) => bytes.length + 1
  | .lit _ => 1
  | .nil => 1
  | .ptr d => uptoBulk d + 1
  | .slice elems spare => uptoBulkAll elems + uptoBulkAll spare + 1
  | .agg parts => uptoBulkAll parts + 1
  | .iface _ d => uptoBulk d + 1
  | .map entries => uptoBulkEntries entries + 1
  | .held _ => 1
def uptoBulkAll {H : Type} : List (DataW H) → Nat
  | [] => 0
  | d :: r => uptoBulk d + uptoBulkAll r
def uptoBulkEntries {H : Type} : List (Lit × DataW H) → Nat
  | [] => 0
  | x :: r => uptoBulkEntry x + uptoBulkEntries r
def uptoBulkEntry {H : Type} : Lit × DataW H → Nat
  | (.string bytes, d) => bytes.length + uptoBulk d + 1
  | (_, d) => uptoBulk d + 1
 end
def uptoSmall : (H : Type) → List (DataW H) → Bool := fun _ ds => decide (uptoBulkAll ds ≤ 1048576)
def OpenSpec.upto (s : _root_.Go.ChangeSpec) : _root_.Go.OpenSpec := { _root_.Go.OpenSpec.ofChange s with cond := some uptoSmall }

/-- 'fenestralaw.Names', WHERE WHAT IT READS IS OF BULK AT MOST 1048576: true; the input reads as it did. -/
def namesUptoRow : OpenClaim := { program := "ytkmmphkjmamckaa", sum := "60432501013db24faec8325c243ab9a6ae64e9d46c6ea4d8fee5632e9f22e4a9", func := "fenestra/fenestralaw.Names", spec := "names", apart := false, narrowed := true }
def NamesUptoSaid : Prop := namesUptoRow.holds Try.pinned (OpenSpec.upto namesSpec)

/-- 'fenestralaw.ParseFeeds', WHERE WHAT IT READS IS OF BULK AT MOST 1048576: true; the input reads as it did. -/
def parseFeedsUptoRow : OpenClaim := { program := "ytkmmphkjmamckaa", sum := "60432501013db24faec8325c243ab9a6ae64e9d46c6ea4d8fee5632e9f22e4a9", func := "fenestra/fenestralaw.ParseFeeds", spec := "parseFeeds", unfollowed := true, recurses := true, apart := false, narrowed := true }
def ParseFeedsUptoSaid : Prop := parseFeedsUptoRow.holds Try.pinned (OpenSpec.upto parseFeedsSpec)

/-- 'fenestrakeep.ParseParts', WHERE WHAT IT READS IS OF BULK AT MOST 1048576: true; the input reads as it did. -/
def parsePartsUptoRow : OpenClaim := { program := "ytkmmphkjmamckaa", sum := "60432501013db24faec8325c243ab9a6ae64e9d46c6ea4d8fee5632e9f22e4a9", func := "fenestra/fenestrakeep.ParseParts", spec := "parseParts", apart := false, narrowed := true }
def ParsePartsUptoSaid : Prop := parsePartsUptoRow.holds Try.pinned (OpenSpec.upto parsePartsSpec)

/-- 'fenestrakeep.ParsePlain', WHERE WHAT IT READS IS OF BULK AT MOST 1048576: true; the input reads as it did. -/
def parsePlainUptoRow : OpenClaim := { program := "ytkmmphkjmamckaa", sum := "60432501013db24faec8325c243ab9a6ae64e9d46c6ea4d8fee5632e9f22e4a9", func := "fenestra/fenestrakeep.ParsePlain", spec := "parsePlain", apart := false, narrowed := true }
def ParsePlainUptoSaid : Prop := parsePlainUptoRow.holds Try.pinned (OpenSpec.upto parsePlainSpec)

/-- 'fenestrakeep.ParseStops', WHERE WHAT IT READS IS OF BULK AT MOST 1048576: true; the input reads as it did. -/
def parseStopsUptoRow : OpenClaim := { program := "ytkmmphkjmamckaa", sum := "60432501013db24faec8325c243ab9a6ae64e9d46c6ea4d8fee5632e9f22e4a9", func := "fenestra/fenestrakeep.ParseStops", spec := "parseStops", apart := false, narrowed := true }
def ParseStopsUptoSaid : Prop := parseStopsUptoRow.holds Try.pinned (OpenSpec.upto parseStopsSpec)

/-- 'fenestralaw.PaintSees', WHERE WHAT IT READS IS OF BULK AT MOST 1048576: true; the input reads as it did. -/
def paintSeesUptoRow : OpenClaim := { program := "ytkmmphkjmamckaa", sum := "60432501013db24faec8325c243ab9a6ae64e9d46c6ea4d8fee5632e9f22e4a9", func := "fenestra/fenestralaw.PaintSees", spec := "paintSees", apart := false, narrowed := true }
def PaintSeesUptoSaid : Prop := paintSeesUptoRow.holds Try.pinned (OpenSpec.upto paintSeesSpec)

/-- 'fenestralaw.PaintScreens', WHERE WHAT IT READS IS OF BULK AT MOST 1048576: true; the input reads as it did. -/
def paintScreensUptoRow : OpenClaim := { program := "ytkmmphkjmamckaa", sum := "60432501013db24faec8325c243ab9a6ae64e9d46c6ea4d8fee5632e9f22e4a9", func := "fenestra/fenestralaw.PaintScreens", spec := "paintScreens", apart := false, narrowed := true }
def PaintScreensUptoSaid : Prop := paintScreensUptoRow.holds Try.pinned (OpenSpec.upto paintScreensSpec)

/-- 'fenestralaw.GridDoes', WHERE WHAT IT READS IS OF BULK AT MOST 1048576: true; the input reads as it did. -/
def gridDoesUptoRow : OpenClaim := { program := "ytkmmphkjmamckaa", sum := "60432501013db24faec8325c243ab9a6ae64e9d46c6ea4d8fee5632e9f22e4a9", func := "fenestra/fenestralaw.GridDoes", spec := "gridDoes", unfollowed := true, recurses := true, apart := false, narrowed := true }
def GridDoesUptoSaid : Prop := gridDoesUptoRow.holds Try.pinned (OpenSpec.upto gridDoesSpec)

/-- 'fenestrakeep.GridGood', WHERE WHAT IT READS IS OF BULK AT MOST 1048576: true; the input reads as it did. -/
def gridGoodUptoRow : OpenClaim := { program := "ytkmmphkjmamckaa", sum := "60432501013db24faec8325c243ab9a6ae64e9d46c6ea4d8fee5632e9f22e4a9", func := "fenestra/fenestrakeep.GridGood", spec := "gridGood", unfollowed := true, recurses := true, apart := false, narrowed := true }
def GridGoodUptoSaid : Prop := gridGoodUptoRow.holds Try.pinned (OpenSpec.upto gridGoodSpec)

/-- 'fenestrakeep.GridErases', WHERE WHAT IT READS IS OF BULK AT MOST 1048576: true; the input reads as it did. -/
def gridErasesUptoRow : OpenClaim := { program := "ytkmmphkjmamckaa", sum := "60432501013db24faec8325c243ab9a6ae64e9d46c6ea4d8fee5632e9f22e4a9", func := "fenestra/fenestrakeep.GridErases", spec := "gridErases", unfollowed := true, recurses := true, apart := false, narrowed := true }
def GridErasesUptoSaid : Prop := gridErasesUptoRow.holds Try.pinned (OpenSpec.upto gridErasesSpec)

/-- 'fenestrakeep.GridPrints', WHERE WHAT IT READS IS OF BULK AT MOST 1048576: true; the input reads as it did. -/
def gridPrintsUptoRow : OpenClaim := { program := "ytkmmphkjmamckaa", sum := "60432501013db24faec8325c243ab9a6ae64e9d46c6ea4d8fee5632e9f22e4a9", func := "fenestra/fenestrakeep.GridPrints", spec := "gridPrints", unfollowed := true, recurses := true, apart := false, narrowed := true }
def GridPrintsUptoSaid : Prop := gridPrintsUptoRow.holds Try.pinned (OpenSpec.upto gridPrintsSpec)

end Rows
end Go.Proofs.Ytkmmphkjmamckaa
