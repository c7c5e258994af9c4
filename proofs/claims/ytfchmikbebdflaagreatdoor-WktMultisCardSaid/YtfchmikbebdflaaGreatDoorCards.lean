/-
  DERIVED. GIVEN WITH THE SEED: THE CARDS: each row of YtfchmikbebdflaaGreatDoorRows.lean that lists a variable, with what it lists TIED to the program's text (the seventh form; the later family's looks); each row that meets fmt, with fmt's text TOLD by the authors' own Lean function (tested against real Go, not proved from fmt's source: count such statements apart). THE CARD IS WHAT COUNTS. Prove the row's statement (the work); the ties are given (YtfchmikbebdflaaGreatDoorTie.lean); close each card by the builder's one call (the guide's Derived/Test/ToyasCard.lean, 'card_holds'). Laid BY PROGRAM, IN A SANDBOX (cutbox-door.mjs). By AI agents, Wed Nov 11 2026. No macro, syntax, notation, axiom, sorry.
-/
import Derived.Test.YtfchmikbebdflaaGreatDoorRows
import GoSem.ClaimSeven
namespace Go.Proofs.YtfchmikbebdflaaGreatDoor
namespace Rows

/-- THE TIED CARD OF 'merestonelaw09.WktMany'. -/
def wktManyCard : Claim7 := { stood := { row := wktManyRow, standIns := [], harness := (true, "2218c24599c3642c09420676d5c966ee2135614e863a5e1b5b45cc0b4f8a60fd"), looks := true }, kinds := [], alts := [], laidByText := true, laidKinds := [.data, .data, .data, .data, .sentinel, .sentinel, .pinned], laidTests := true, laidLooks := .later }
def WktManyCardSaid : Prop := Claim7.holds Tryz.pinned (.plain (OpenSpec.ofChange wktManySpec)) wktManyCard

/-- THE TIED CARD OF 'merestonelaw09.WktParses'. -/
def wktParsesCard : Claim7 := { stood := { row := wktParsesRow, standIns := [], harness := (true, "2218c24599c3642c09420676d5c966ee2135614e863a5e1b5b45cc0b4f8a60fd"), looks := true }, kinds := [], alts := [], laidByText := true, laidKinds := [.data, .data, .data, .data, .sentinel, .sentinel, .pinned], laidTests := true, laidLooks := .later }
def WktParsesCardSaid : Prop := Claim7.holds Tryz.pinned (.plain (OpenSpec.ofChange wktParsesSpec)) wktParsesCard

/-- THE TIED CARD OF 'merestonelaw09.WktMultis'. -/
def wktMultisCard : Claim7 := { stood := { row := wktMultisRow, standIns := [], harness := (true, "2218c24599c3642c09420676d5c966ee2135614e863a5e1b5b45cc0b4f8a60fd"), looks := true }, kinds := [], alts := [], laidByText := true, laidKinds := [.data, .data, .data, .data, .sentinel, .sentinel, .pinned], laidTests := true, laidLooks := .later }
def WktMultisCardSaid : Prop := Claim7.holds Tryz.pinned (.plain (OpenSpec.ofChange wktMultisSpec)) wktMultisCard

/-- THE TIED CARD OF 'merestonelaw09.WktBack'. -/
def wktBackCard : Claim7 := { stood := { row := wktBackRow, standIns := [], harness := (true, "2218c24599c3642c09420676d5c966ee2135614e863a5e1b5b45cc0b4f8a60fd"), looks := true }, kinds := [], alts := [], laidByText := true, laidKinds := [.data, .data, .data, .data, .sentinel, .sentinel, .pinned], laidTests := true, laidLooks := .later }
def WktBackCardSaid : Prop := Claim7.holds Tryz.pinned (.plain (OpenSpec.ofChange wktBackSpec)) wktBackCard

/-- THE SECOND FORM's CARD OF 'merestonelaw09.WktMany'. -/
def wktManyUptoCard : Claim7 := { stood := { row := wktManyUptoRow, standIns := [], harness := (true, "2218c24599c3642c09420676d5c966ee2135614e863a5e1b5b45cc0b4f8a60fd"), looks := true }, kinds := [], alts := [], laidByText := true, laidKinds := [.data, .data, .data, .data, .sentinel, .sentinel, .pinned], laidTests := true, laidLooks := .later }
def WktManyUptoCardSaid : Prop := Claim7.holds Tryz.pinned (.plain (OpenSpec.upto wktManySpec)) wktManyUptoCard

/-- THE SECOND FORM's CARD OF 'merestonelaw09.WktParses'. -/
def wktParsesUptoCard : Claim7 := { stood := { row := wktParsesUptoRow, standIns := [], harness := (true, "2218c24599c3642c09420676d5c966ee2135614e863a5e1b5b45cc0b4f8a60fd"), looks := true }, kinds := [], alts := [], laidByText := true, laidKinds := [.data, .data, .data, .data, .sentinel, .sentinel, .pinned], laidTests := true, laidLooks := .later }
def WktParsesUptoCardSaid : Prop := Claim7.holds Tryz.pinned (.plain (OpenSpec.upto wktParsesSpec)) wktParsesUptoCard

/-- THE SECOND FORM's CARD OF 'merestonelaw09.WktMultis'. -/
def wktMultisUptoCard : Claim7 := { stood := { row := wktMultisUptoRow, standIns := [], harness := (true, "2218c24599c3642c09420676d5c966ee2135614e863a5e1b5b45cc0b4f8a60fd"), looks := true }, kinds := [], alts := [], laidByText := true, laidKinds := [.data, .data, .data, .data, .sentinel, .sentinel, .pinned], laidTests := true, laidLooks := .later }
def WktMultisUptoCardSaid : Prop := Claim7.holds Tryz.pinned (.plain (OpenSpec.upto wktMultisSpec)) wktMultisUptoCard

/-- THE SECOND FORM's CARD OF 'merestonelaw09.WktBack'. -/
def wktBackUptoCard : Claim7 := { stood := { row := wktBackUptoRow, standIns := [], harness := (true, "2218c24599c3642c09420676d5c966ee2135614e863a5e1b5b45cc0b4f8a60fd"), looks := true }, kinds := [], alts := [], laidByText := true, laidKinds := [.data, .data, .data, .data, .sentinel, .sentinel, .pinned], laidTests := true, laidLooks := .later }
def WktBackUptoCardSaid : Prop := Claim7.holds Tryz.pinned (.plain (OpenSpec.upto wktBackSpec)) wktBackUptoCard
end Rows
end Go.Proofs.YtfchmikbebdflaaGreatDoor
