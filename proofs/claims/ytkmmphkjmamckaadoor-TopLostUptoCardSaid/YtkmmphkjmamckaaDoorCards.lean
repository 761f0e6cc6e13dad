/-
  DERIVED. GIVEN WITH THE SEED: THE CARDS: each row of YtkmmphkjmamckaaDoorRows.lean that lists a variable, with what it lists TIED to the program's text (the seventh form; the later family's looks); each row that meets fmt, with fmt's text TOLD by the authors' own Lean function (tested against real Go, not proved from fmt's source: count such statements apart). THE CARD IS WHAT COUNTS. Prove the row's statement (the work); the ties are given (YtkmmphkjmamckaaDoorTie.lean); close each card by the builder's one call (the guide's Derived/Test/ToyasCard.lean, 'card_holds'). Laid BY PROGRAM, IN A SANDBOX (cutbox-door.mjs). By AI agents, Wed Nov 11 2026. No macro, syntax, notation, axiom, sorry.
-/
import Derived.Test.YtkmmphkjmamckaaDoorRows
import GoSem.ClaimSeven
namespace Go.Proofs.YtkmmphkjmamckaaDoor
namespace Rows

/-- THE TIED CARD OF 'fenestratop.TopLost'. -/
def topLostCard : Claim7 := { stood := { row := topLostRow, standIns := [], harness := (true, "6d1b9e928996a899ec7771770fa3bc0012c4f8eab70233abddd9bb39af1425f3"), looks := false }, kinds := [], alts := [], laidByText := true, laidKinds := [.data, .data, .data], laidTests := true, laidLooks := .later }
def TopLostCardSaid : Prop := Claim7.holds Tryd.pinned (.plain (OpenSpec.ofChange topLostSpec)) topLostCard

/-- THE SECOND FORM's CARD OF 'fenestratop.TopLost'. -/
def topLostUptoCard : Claim7 := { stood := { row := topLostUptoRow, standIns := [], harness := (true, "6d1b9e928996a899ec7771770fa3bc0012c4f8eab70233abddd9bb39af1425f3"), looks := false }, kinds := [], alts := [], laidByText := true, laidKinds := [.data, .data, .data], laidTests := true, laidLooks := .later }
def TopLostUptoCardSaid : Prop := Claim7.holds Tryd.pinned (.plain (OpenSpec.upto topLostSpec)) topLostUptoCard
end Rows
end Go.Proofs.YtkmmphkjmamckaaDoor
