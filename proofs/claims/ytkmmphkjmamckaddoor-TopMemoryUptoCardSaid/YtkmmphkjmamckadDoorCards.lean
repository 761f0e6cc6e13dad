/-
  DERIVED. GIVEN WITH THE SEED: THE CARDS: each row of YtkmmphkjmamckadDoorRows.lean that lists a variable, with what it lists TIED to the program's text (the seventh form; the later family's looks); each row that meets fmt, with fmt's text TOLD by the authors' own Lean function (tested against real Go, not proved from fmt's source: count such statements apart). THE CARD IS WHAT COUNTS. Prove the row's statement (the work); the ties are given (YtkmmphkjmamckadDoorTie.lean); close each card by the builder's one call (the guide's Derived/Test/ToyasCard.lean, 'card_holds'). Laid BY PROGRAM, IN A SANDBOX (cutbox-door.mjs). By AI agents, Wed Nov 11 2026. No macro, syntax, notation, axiom, sorry.
-/
import Derived.Test.YtkmmphkjmamckadDoorRows
import GoSem.ClaimSeven
namespace Go.Proofs.YtkmmphkjmamckadDoor
namespace Rows

/-- THE TIED CARD OF 'fenestratop.TopMemory'. -/
def topMemoryCard : Claim7 := { stood := { row := topMemoryRow, standIns := [], harness := (true, "9e37f3a0e1c172d5df40b2c2c4725f9b3d103cc3227a72539192a9e771a78007"), looks := false }, kinds := [], alts := [], laidByText := true, laidKinds := [.data, .data, .data], laidTests := true, laidLooks := .later }
def TopMemoryCardSaid : Prop := Claim7.holds Tryd.pinned (.plain (OpenSpec.ofChange topMemorySpec)) topMemoryCard

/-- THE TIED CARD OF 'fenestratop.TopEnds'. -/
def topEndsCard : Claim7 := { stood := { row := topEndsRow, standIns := [], harness := (true, "9e37f3a0e1c172d5df40b2c2c4725f9b3d103cc3227a72539192a9e771a78007"), looks := false }, kinds := [], alts := [], laidByText := true, laidKinds := [.data, .data, .data], laidTests := true, laidLooks := .later }
def TopEndsCardSaid : Prop := Claim7.holds Tryd.pinned (.plain (OpenSpec.ofChange topEndsSpec)) topEndsCard

/-- THE SECOND FORM's CARD OF 'fenestratop.TopMemory'. -/
def topMemoryUptoCard : Claim7 := { stood := { row := topMemoryUptoRow, standIns := [], harness := (true, "9e37f3a0e1c172d5df40b2c2c4725f9b3d103cc3227a72539192a9e771a78007"), looks := false }, kinds := [], alts := [], laidByText := true, laidKinds := [.data, .data, .data], laidTests := true, laidLooks := .later }
def TopMemoryUptoCardSaid : Prop := Claim7.holds Tryd.pinned (.plain (OpenSpec.upto topMemorySpec)) topMemoryUptoCard

/-- THE SECOND FORM's CARD OF 'fenestratop.TopEnds'. -/
def topEndsUptoCard : Claim7 := { stood := { row := topEndsUptoRow, standIns := [], harness := (true, "9e37f3a0e1c172d5df40b2c2c4725f9b3d103cc3227a72539192a9e771a78007"), looks := false }, kinds := [], alts := [], laidByText := true, laidKinds := [.data, .data, .data], laidTests := true, laidLooks := .later }
def TopEndsUptoCardSaid : Prop := Claim7.holds Tryd.pinned (.plain (OpenSpec.upto topEndsSpec)) topEndsUptoCard
end Rows
end Go.Proofs.YtkmmphkjmamckadDoor
