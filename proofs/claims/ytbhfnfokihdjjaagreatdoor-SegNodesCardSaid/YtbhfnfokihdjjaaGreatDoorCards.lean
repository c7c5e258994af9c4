/-
  DERIVED. GIVEN WITH THE SEED: THE CARDS: each row of YtbhfnfokihdjjaaGreatDoorRows.lean that lists a variable, with what it lists TIED to the program's text (the seventh form; the later family's looks); each row that meets fmt, with fmt's text TOLD by the authors' own Lean function (tested against real Go, not proved from fmt's source: count such statements apart). THE CARD IS WHAT COUNTS. Prove the row's statement (the work); the ties are given (YtbhfnfokihdjjaaGreatDoorTie.lean); close each card by the builder's one call (the guide's Derived/Test/ToyasCard.lean, 'card_holds'). Laid BY PROGRAM, IN A SANDBOX (cutbox-door.mjs). By AI agents, Wed Nov 11 2026. No macro, syntax, notation, axiom, sorry.
-/
import Derived.Test.YtbhfnfokihdjjaaGreatDoorRows
import GoSem.ClaimSeven
namespace Go.Proofs.YtbhfnfokihdjjaaGreatDoor
namespace Rows

/-- THE TIED CARD OF 'merestonelaw04.SegTurns'. -/
def segTurnsCard : Claim7 := { stood := { row := segTurnsRow, standIns := [], harness := (true, "91509204c5ee0edaf4efb03f8fcaede4e718da8ab1afecf3850b3fe6e8eac65f"), looks := true }, kinds := [], alts := [], laidByText := true, laidKinds := [.data, .data, .data, .sentinel, .sentinel], laidTests := true, laidLooks := .later }
def SegTurnsCardSaid : Prop := Claim7.holds Tryz.pinned (.plain (OpenSpec.ofChange segTurnsSpec)) segTurnsCard

/-- THE TIED CARD OF 'merestonelaw04.SegSides'. -/
def segSidesCard : Claim7 := { stood := { row := segSidesRow, standIns := [], harness := (true, "91509204c5ee0edaf4efb03f8fcaede4e718da8ab1afecf3850b3fe6e8eac65f"), looks := true }, kinds := [], alts := [], laidByText := true, laidKinds := [.data, .data, .data, .sentinel, .sentinel], laidTests := true, laidLooks := .later }
def SegSidesCardSaid : Prop := Claim7.holds Tryz.pinned (.plain (OpenSpec.ofChange segSidesSpec)) segSidesCard

/-- THE TIED CARD OF 'merestonelaw04.SegMoves'. -/
def segMovesCard : Claim7 := { stood := { row := segMovesRow, standIns := [], harness := (true, "91509204c5ee0edaf4efb03f8fcaede4e718da8ab1afecf3850b3fe6e8eac65f"), looks := true }, kinds := [], alts := [], laidByText := true, laidKinds := [.data, .data, .data, .sentinel, .sentinel], laidTests := true, laidLooks := .later }
def SegMovesCardSaid : Prop := Claim7.holds Tryz.pinned (.plain (OpenSpec.ofChange segMovesSpec)) segMovesCard

/-- THE TIED CARD OF 'merestonelaw04.SegMirrors'. -/
def segMirrorsCard : Claim7 := { stood := { row := segMirrorsRow, standIns := [], harness := (true, "91509204c5ee0edaf4efb03f8fcaede4e718da8ab1afecf3850b3fe6e8eac65f"), looks := true }, kinds := [], alts := [], laidByText := true, laidKinds := [.data, .data, .data, .sentinel, .sentinel], laidTests := true, laidLooks := .later }
def SegMirrorsCardSaid : Prop := Claim7.holds Tryz.pinned (.plain (OpenSpec.ofChange segMirrorsSpec)) segMirrorsCard

/-- THE TIED CARD OF 'merestonelaw04.SegTexts'. -/
def segTextsCard : Claim7 := { stood := { row := segTextsRow, standIns := [], harness := (true, "91509204c5ee0edaf4efb03f8fcaede4e718da8ab1afecf3850b3fe6e8eac65f"), looks := true }, kinds := [], alts := [], laidByText := true, laidKinds := [.data, .data, .data, .sentinel, .sentinel], laidTests := true, laidLooks := .later }
def SegTextsCardSaid : Prop := Claim7.holds Tryz.pinned (.plain (OpenSpec.ofChange segTextsSpec)) segTextsCard

/-- THE TIED CARD OF 'merestonelaw04.SegHolds'. -/
def segHoldsCard : Claim7 := { stood := { row := segHoldsRow, standIns := [], harness := (true, "91509204c5ee0edaf4efb03f8fcaede4e718da8ab1afecf3850b3fe6e8eac65f"), looks := true }, kinds := [], alts := [], laidByText := true, laidKinds := [.data, .data, .data, .sentinel, .sentinel], laidTests := true, laidLooks := .later }
def SegHoldsCardSaid : Prop := Claim7.holds Tryz.pinned (.plain (OpenSpec.ofChange segHoldsSpec)) segHoldsCard

/-- THE TIED CARD OF 'merestonelaw04.SegNodes'. -/
def segNodesCard : Claim7 := { stood := { row := segNodesRow, standIns := [], harness := (true, "91509204c5ee0edaf4efb03f8fcaede4e718da8ab1afecf3850b3fe6e8eac65f"), looks := true }, kinds := [], alts := [], laidByText := true, laidKinds := [.data, .data, .data, .sentinel, .sentinel], laidTests := true, laidLooks := .later }
def SegNodesCardSaid : Prop := Claim7.holds Tryz.pinned (.plain (OpenSpec.ofChange segNodesSpec)) segNodesCard

/-- THE SECOND FORM's CARD OF 'merestonelaw04.SegTurns'. -/
def segTurnsUptoCard : Claim7 := { stood := { row := segTurnsUptoRow, standIns := [], harness := (true, "91509204c5ee0edaf4efb03f8fcaede4e718da8ab1afecf3850b3fe6e8eac65f"), looks := true }, kinds := [], alts := [], laidByText := true, laidKinds := [.data, .data, .data, .sentinel, .sentinel], laidTests := true, laidLooks := .later }
def SegTurnsUptoCardSaid : Prop := Claim7.holds Tryz.pinned (.plain (OpenSpec.upto segTurnsSpec)) segTurnsUptoCard

/-- THE SECOND FORM's CARD OF 'merestonelaw04.SegSides'. -/
def segSidesUptoCard : Claim7 := { stood := { row := segSidesUptoRow, standIns := [], harness := (true, "91509204c5ee0edaf4efb03f8fcaede4e718da8ab1afecf3850b3fe6e8eac65f"), looks := true }, kinds := [], alts := [], laidByText := true, laidKinds := [.data, .data, .data, .sentinel, .sentinel], laidTests := true, laidLooks := .later }
def SegSidesUptoCardSaid : Prop := Claim7.holds Tryz.pinned (.plain (OpenSpec.upto segSidesSpec)) segSidesUptoCard

/-- THE SECOND FORM's CARD OF 'merestonelaw04.SegMoves'. -/
def segMovesUptoCard : Claim7 := { stood := { row := segMovesUptoRow, standIns := [], harness := (true, "91509204c5ee0edaf4efb03f8fcaede4e718da8ab1afecf3850b3fe6e8eac65f"), looks := true }, kinds := [], alts := [], laidByText := true, laidKinds := [.data, .data, .data, .sentinel, .sentinel], laidTests := true, laidLooks := .later }
def SegMovesUptoCardSaid : Prop := Claim7.holds Tryz.pinned (.plain (OpenSpec.upto segMovesSpec)) segMovesUptoCard

/-- THE SECOND FORM's CARD OF 'merestonelaw04.SegMirrors'. -/
def segMirrorsUptoCard : Claim7 := { stood := { row := segMirrorsUptoRow, standIns := [], harness := (true, "91509204c5ee0edaf4efb03f8fcaede4e718da8ab1afecf3850b3fe6e8eac65f"), looks := true }, kinds := [], alts := [], laidByText := true, laidKinds := [.data, .data, .data, .sentinel, .sentinel], laidTests := true, laidLooks := .later }
def SegMirrorsUptoCardSaid : Prop := Claim7.holds Tryz.pinned (.plain (OpenSpec.upto segMirrorsSpec)) segMirrorsUptoCard

/-- THE SECOND FORM's CARD OF 'merestonelaw04.SegTexts'. -/
def segTextsUptoCard : Claim7 := { stood := { row := segTextsUptoRow, standIns := [], harness := (true, "91509204c5ee0edaf4efb03f8fcaede4e718da8ab1afecf3850b3fe6e8eac65f"), looks := true }, kinds := [], alts := [], laidByText := true, laidKinds := [.data, .data, .data, .sentinel, .sentinel], laidTests := true, laidLooks := .later }
def SegTextsUptoCardSaid : Prop := Claim7.holds Tryz.pinned (.plain (OpenSpec.upto segTextsSpec)) segTextsUptoCard

/-- THE SECOND FORM's CARD OF 'merestonelaw04.SegHolds'. -/
def segHoldsUptoCard : Claim7 := { stood := { row := segHoldsUptoRow, standIns := [], harness := (true, "91509204c5ee0edaf4efb03f8fcaede4e718da8ab1afecf3850b3fe6e8eac65f"), looks := true }, kinds := [], alts := [], laidByText := true, laidKinds := [.data, .data, .data, .sentinel, .sentinel], laidTests := true, laidLooks := .later }
def SegHoldsUptoCardSaid : Prop := Claim7.holds Tryz.pinned (.plain (OpenSpec.upto segHoldsSpec)) segHoldsUptoCard

/-- THE SECOND FORM's CARD OF 'merestonelaw04.SegNodes'. -/
def segNodesUptoCard : Claim7 := { stood := { row := segNodesUptoRow, standIns := [], harness := (true, "91509204c5ee0edaf4efb03f8fcaede4e718da8ab1afecf3850b3fe6e8eac65f"), looks := true }, kinds := [], alts := [], laidByText := true, laidKinds := [.data, .data, .data, .sentinel, .sentinel], laidTests := true, laidLooks := .later }
def SegNodesUptoCardSaid : Prop := Claim7.holds Tryz.pinned (.plain (OpenSpec.upto segNodesSpec)) segNodesUptoCard
end Rows
end Go.Proofs.YtbhfnfokihdjjaaGreatDoor
