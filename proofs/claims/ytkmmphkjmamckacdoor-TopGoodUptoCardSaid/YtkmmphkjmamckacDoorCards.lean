/-
  DERIVED. GIVEN WITH THE SEED: THE CARDS: each row of YtkmmphkjmamckacDoorRows.lean that lists a variable, with what it lists TIED to the program's text (the seventh form; the later family's looks); each row that meets fmt, with fmt's text TOLD by the authors' own Lean function (tested against real Go, not proved from fmt's source: count such statements apart). THE CARD IS WHAT COUNTS. Prove the row's statement (the work); the ties are given (YtkmmphkjmamckacDoorTie.lean); close each card by the builder's one call (the guide's Derived/Test/ToyasCard.lean, 'card_holds'). Laid BY PROGRAM, IN A SANDBOX (cutbox-door.mjs). By AI agents, Wed Nov 11 2026. No macro, syntax, notation, axiom, sorry.
-/
import Derived.Test.YtkmmphkjmamckacDoorRows
import GoSem.ClaimSeven
namespace Go.Proofs.YtkmmphkjmamckacDoor
namespace Rows

/-- THE TIED CARD OF 'fenestrakeep.DrawTurns'. -/
def drawTurnsCard : Claim7 := { stood := { row := drawTurnsRow, standIns := [], harness := (true, "07636399ee7b52448c971d7ba55bba7909eb2bcd3f02d619ab134eb4d2ba527e"), looks := false }, kinds := [], alts := [], laidByText := true, laidKinds := [.data, .data, .data], laidTests := true, laidLooks := .later }
def DrawTurnsCardSaid : Prop := Claim7.holds Tryd.pinned (.plain (OpenSpec.ofChange drawTurnsSpec)) drawTurnsCard

/-- THE TIED CARD OF 'fenestrakeep.DrawSame'. -/
def drawSameCard : Claim7 := { stood := { row := drawSameRow, standIns := [], harness := (true, "07636399ee7b52448c971d7ba55bba7909eb2bcd3f02d619ab134eb4d2ba527e"), looks := false }, kinds := [], alts := [], laidByText := true, laidKinds := [.data, .data, .data], laidTests := true, laidLooks := .later }
def DrawSameCardSaid : Prop := Claim7.holds Tryd.pinned (.plain (OpenSpec.ofChange drawSameSpec)) drawSameCard

/-- THE TIED CARD OF 'fenestrakeep.DrawAnew'. -/
def drawAnewCard : Claim7 := { stood := { row := drawAnewRow, standIns := [], harness := (true, "07636399ee7b52448c971d7ba55bba7909eb2bcd3f02d619ab134eb4d2ba527e"), looks := false }, kinds := [], alts := [], laidByText := true, laidKinds := [.data, .data, .data], laidTests := true, laidLooks := .later }
def DrawAnewCardSaid : Prop := Claim7.holds Tryd.pinned (.plain (OpenSpec.ofChange drawAnewSpec)) drawAnewCard

/-- THE TIED CARD OF 'fenestralaw.ServerNil'. -/
def serverNilCard : Claim7 := { stood := { row := serverNilRow, standIns := [], harness := (true, "07636399ee7b52448c971d7ba55bba7909eb2bcd3f02d619ab134eb4d2ba527e"), looks := false }, kinds := [], alts := [], laidByText := true, laidKinds := [.data, .data, .data], laidTests := true, laidLooks := .later }
def ServerNilCardSaid : Prop := Claim7.holds Tryd.pinned (.plain (OpenSpec.ofChange serverNilSpec)) serverNilCard

/-- THE TIED CARD OF 'fenestratop.TopCatches'. -/
def topCatchesCard : Claim7 := { stood := { row := topCatchesRow, standIns := [], harness := (true, "07636399ee7b52448c971d7ba55bba7909eb2bcd3f02d619ab134eb4d2ba527e"), looks := false }, kinds := [], alts := [], laidByText := true, laidKinds := [.data, .data, .data], laidTests := true, laidLooks := .later }
def TopCatchesCardSaid : Prop := Claim7.holds Tryd.pinned (.plain (OpenSpec.ofChange topCatchesSpec)) topCatchesCard

/-- THE TIED CARD OF 'fenestratop.TopParts'. -/
def topPartsCard : Claim7 := { stood := { row := topPartsRow, standIns := [], harness := (true, "07636399ee7b52448c971d7ba55bba7909eb2bcd3f02d619ab134eb4d2ba527e"), looks := false }, kinds := [], alts := [], laidByText := true, laidKinds := [.data, .data, .data], laidTests := true, laidLooks := .later }
def TopPartsCardSaid : Prop := Claim7.holds Tryd.pinned (.plain (OpenSpec.ofChange topPartsSpec)) topPartsCard

/-- THE TIED CARD OF 'fenestratop.TopApart'. -/
def topApartCard : Claim7 := { stood := { row := topApartRow, standIns := [], harness := (true, "07636399ee7b52448c971d7ba55bba7909eb2bcd3f02d619ab134eb4d2ba527e"), looks := false }, kinds := [], alts := [], laidByText := true, laidKinds := [.data, .data, .data], laidTests := true, laidLooks := .later }
def TopApartCardSaid : Prop := Claim7.holds Tryd.pinned (.plain (OpenSpec.ofChange topApartSpec)) topApartCard

/-- THE TIED CARD OF 'fenestratop.TopGood'. -/
def topGoodCard : Claim7 := { stood := { row := topGoodRow, standIns := [], harness := (true, "07636399ee7b52448c971d7ba55bba7909eb2bcd3f02d619ab134eb4d2ba527e"), looks := false }, kinds := [], alts := [], laidByText := true, laidKinds := [.data, .data, .data], laidTests := true, laidLooks := .later }
def TopGoodCardSaid : Prop := Claim7.holds Tryd.pinned (.plain (OpenSpec.ofChange topGoodSpec)) topGoodCard

/-- THE TIED CARD OF 'fenestratop.TopOthers'. -/
def topOthersCard : Claim7 := { stood := { row := topOthersRow, standIns := [], harness := (true, "07636399ee7b52448c971d7ba55bba7909eb2bcd3f02d619ab134eb4d2ba527e"), looks := false }, kinds := [], alts := [], laidByText := true, laidKinds := [.data, .data, .data], laidTests := true, laidLooks := .later }
def TopOthersCardSaid : Prop := Claim7.holds Tryd.pinned (.plain (OpenSpec.ofChange topOthersSpec)) topOthersCard

/-- THE TIED CARD OF 'fenestratop.TopRefused'. -/
def topRefusedCard : Claim7 := { stood := { row := topRefusedRow, standIns := [], harness := (true, "07636399ee7b52448c971d7ba55bba7909eb2bcd3f02d619ab134eb4d2ba527e"), looks := false }, kinds := [], alts := [], laidByText := true, laidKinds := [.data, .data, .data], laidTests := true, laidLooks := .later }
def TopRefusedCardSaid : Prop := Claim7.holds Tryd.pinned (.plain (OpenSpec.ofChange topRefusedSpec)) topRefusedCard

/-- THE SECOND FORM's CARD OF 'fenestrakeep.DrawTurns'. -/
def drawTurnsUptoCard : Claim7 := { stood := { row := drawTurnsUptoRow, standIns := [], harness := (true, "07636399ee7b52448c971d7ba55bba7909eb2bcd3f02d619ab134eb4d2ba527e"), looks := false }, kinds := [], alts := [], laidByText := true, laidKinds := [.data, .data, .data], laidTests := true, laidLooks := .later }
def DrawTurnsUptoCardSaid : Prop := Claim7.holds Tryd.pinned (.plain (OpenSpec.upto drawTurnsSpec)) drawTurnsUptoCard

/-- THE SECOND FORM's CARD OF 'fenestrakeep.DrawSame'. -/
def drawSameUptoCard : Claim7 := { stood := { row := drawSameUptoRow, standIns := [], harness := (true, "07636399ee7b52448c971d7ba55bba7909eb2bcd3f02d619ab134eb4d2ba527e"), looks := false }, kinds := [], alts := [], laidByText := true, laidKinds := [.data, .data, .data], laidTests := true, laidLooks := .later }
def DrawSameUptoCardSaid : Prop := Claim7.holds Tryd.pinned (.plain (OpenSpec.upto drawSameSpec)) drawSameUptoCard

/-- THE SECOND FORM's CARD OF 'fenestrakeep.DrawAnew'. -/
def drawAnewUptoCard : Claim7 := { stood := { row := drawAnewUptoRow, standIns := [], harness := (true, "07636399ee7b52448c971d7ba55bba7909eb2bcd3f02d619ab134eb4d2ba527e"), looks := false }, kinds := [], alts := [], laidByText := true, laidKinds := [.data, .data, .data], laidTests := true, laidLooks := .later }
def DrawAnewUptoCardSaid : Prop := Claim7.holds Tryd.pinned (.plain (OpenSpec.upto drawAnewSpec)) drawAnewUptoCard

/-- THE SECOND FORM's CARD OF 'fenestralaw.ServerNil'. -/
def serverNilUptoCard : Claim7 := { stood := { row := serverNilUptoRow, standIns := [], harness := (true, "07636399ee7b52448c971d7ba55bba7909eb2bcd3f02d619ab134eb4d2ba527e"), looks := false }, kinds := [], alts := [], laidByText := true, laidKinds := [.data, .data, .data], laidTests := true, laidLooks := .later }
def ServerNilUptoCardSaid : Prop := Claim7.holds Tryd.pinned (.plain (OpenSpec.upto serverNilSpec)) serverNilUptoCard

/-- THE SECOND FORM's CARD OF 'fenestratop.TopCatches'. -/
def topCatchesUptoCard : Claim7 := { stood := { row := topCatchesUptoRow, standIns := [], harness := (true, "07636399ee7b52448c971d7ba55bba7909eb2bcd3f02d619ab134eb4d2ba527e"), looks := false }, kinds := [], alts := [], laidByText := true, laidKinds := [.data, .data, .data], laidTests := true, laidLooks := .later }
def TopCatchesUptoCardSaid : Prop := Claim7.holds Tryd.pinned (.plain (OpenSpec.upto topCatchesSpec)) topCatchesUptoCard

/-- THE SECOND FORM's CARD OF 'fenestratop.TopParts'. -/
def topPartsUptoCard : Claim7 := { stood := { row := topPartsUptoRow, standIns := [], harness := (true, "07636399ee7b52448c971d7ba55bba7909eb2bcd3f02d619ab134eb4d2ba527e"), looks := false }, kinds := [], alts := [], laidByText := true, laidKinds := [.data, .data, .data], laidTests := true, laidLooks := .later }
def TopPartsUptoCardSaid : Prop := Claim7.holds Tryd.pinned (.plain (OpenSpec.upto topPartsSpec)) topPartsUptoCard

/-- THE SECOND FORM's CARD OF 'fenestratop.TopApart'. -/
def topApartUptoCard : Claim7 := { stood := { row := topApartUptoRow, standIns := [], harness := (true, "07636399ee7b52448c971d7ba55bba7909eb2bcd3f02d619ab134eb4d2ba527e"), looks := false }, kinds := [], alts := [], laidByText := true, laidKinds := [.data, .data, .data], laidTests := true, laidLooks := .later }
def TopApartUptoCardSaid : Prop := Claim7.holds Tryd.pinned (.plain (OpenSpec.upto topApartSpec)) topApartUptoCard

/-- THE SECOND FORM's CARD OF 'fenestratop.TopGood'. -/
def topGoodUptoCard : Claim7 := { stood := { row := topGoodUptoRow, standIns := [], harness := (true, "07636399ee7b52448c971d7ba55bba7909eb2bcd3f02d619ab134eb4d2ba527e"), looks := false }, kinds := [], alts := [], laidByText := true, laidKinds := [.data, .data, .data], laidTests := true, laidLooks := .later }
def TopGoodUptoCardSaid : Prop := Claim7.holds Tryd.pinned (.plain (OpenSpec.upto topGoodSpec)) topGoodUptoCard

/-- THE SECOND FORM's CARD OF 'fenestratop.TopOthers'. -/
def topOthersUptoCard : Claim7 := { stood := { row := topOthersUptoRow, standIns := [], harness := (true, "07636399ee7b52448c971d7ba55bba7909eb2bcd3f02d619ab134eb4d2ba527e"), looks := false }, kinds := [], alts := [], laidByText := true, laidKinds := [.data, .data, .data], laidTests := true, laidLooks := .later }
def TopOthersUptoCardSaid : Prop := Claim7.holds Tryd.pinned (.plain (OpenSpec.upto topOthersSpec)) topOthersUptoCard

/-- THE SECOND FORM's CARD OF 'fenestratop.TopRefused'. -/
def topRefusedUptoCard : Claim7 := { stood := { row := topRefusedUptoRow, standIns := [], harness := (true, "07636399ee7b52448c971d7ba55bba7909eb2bcd3f02d619ab134eb4d2ba527e"), looks := false }, kinds := [], alts := [], laidByText := true, laidKinds := [.data, .data, .data], laidTests := true, laidLooks := .later }
def TopRefusedUptoCardSaid : Prop := Claim7.holds Tryd.pinned (.plain (OpenSpec.upto topRefusedSpec)) topRefusedUptoCard
end Rows
end Go.Proofs.YtkmmphkjmamckacDoor
