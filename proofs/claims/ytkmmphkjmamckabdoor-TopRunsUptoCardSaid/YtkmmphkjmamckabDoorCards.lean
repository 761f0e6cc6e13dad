/-
  DERIVED. GIVEN WITH THE SEED: THE CARDS: each row of YtkmmphkjmamckabDoorRows.lean that lists a variable, with what it lists TIED to the program's text (the seventh form; the later family's looks); each row that meets fmt, with fmt's text TOLD by the authors' own Lean function (tested against real Go, not proved from fmt's source: count such statements apart). THE CARD IS WHAT COUNTS. Prove the row's statement (the work); the ties are given (YtkmmphkjmamckabDoorTie.lean); close each card by the builder's one call (the guide's Derived/Test/ToyasCard.lean, 'card_holds'). Laid BY PROGRAM, IN A SANDBOX (cutbox-door.mjs). By AI agents, Wed Nov 11 2026. No macro, syntax, notation, axiom, sorry.
-/
import Derived.Test.YtkmmphkjmamckabDoorRows
import GoSem.ClaimSeven
namespace Go.Proofs.YtkmmphkjmamckabDoor
namespace Rows

/-- THE TIED CARD OF 'fenestratop.TopRuns'. -/
def topRunsCard : Claim7 := { stood := { row := topRunsRow, standIns := [], harness := (true, "f1e0a155ca746afb36a06ad1594ad4914c6dc505f83d7b85ad3bea4a991415ca"), looks := false }, kinds := [], alts := [], laidByText := true, laidKinds := [.data, .data, .data], laidTests := true, laidLooks := .later }
def TopRunsCardSaid : Prop := Claim7.holds Tryd.pinned (.plain (OpenSpec.ofChange topRunsSpec)) topRunsCard

/-- THE TIED CARD OF 'fenestratop.TopShown'. -/
def topShownCard : Claim7 := { stood := { row := topShownRow, standIns := [], harness := (true, "f1e0a155ca746afb36a06ad1594ad4914c6dc505f83d7b85ad3bea4a991415ca"), looks := false }, kinds := [], alts := [], laidByText := true, laidKinds := [.data, .data, .data], laidTests := true, laidLooks := .later }
def TopShownCardSaid : Prop := Claim7.holds Tryd.pinned (.plain (OpenSpec.ofChange topShownSpec)) topShownCard

/-- THE SECOND FORM's CARD OF 'fenestratop.TopRuns'. -/
def topRunsUptoCard : Claim7 := { stood := { row := topRunsUptoRow, standIns := [], harness := (true, "f1e0a155ca746afb36a06ad1594ad4914c6dc505f83d7b85ad3bea4a991415ca"), looks := false }, kinds := [], alts := [], laidByText := true, laidKinds := [.data, .data, .data], laidTests := true, laidLooks := .later }
def TopRunsUptoCardSaid : Prop := Claim7.holds Tryd.pinned (.plain (OpenSpec.upto topRunsSpec)) topRunsUptoCard

/-- THE SECOND FORM's CARD OF 'fenestratop.TopShown'. -/
def topShownUptoCard : Claim7 := { stood := { row := topShownUptoRow, standIns := [], harness := (true, "f1e0a155ca746afb36a06ad1594ad4914c6dc505f83d7b85ad3bea4a991415ca"), looks := false }, kinds := [], alts := [], laidByText := true, laidKinds := [.data, .data, .data], laidTests := true, laidLooks := .later }
def TopShownUptoCardSaid : Prop := Claim7.holds Tryd.pinned (.plain (OpenSpec.upto topShownSpec)) topShownUptoCard
end Rows
end Go.Proofs.YtkmmphkjmamckabDoor
