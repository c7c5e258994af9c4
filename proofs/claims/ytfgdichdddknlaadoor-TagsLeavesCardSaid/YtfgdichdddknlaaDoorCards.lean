/-
  DERIVED. GIVEN WITH THE SEED: THE CARDS: each row of YtfgdichdddknlaaDoorRows.lean that lists a variable, with what it lists TIED to the program's text (the seventh form; the later family's looks); each row that meets fmt, with fmt's text TOLD by the authors' own Lean function (tested against real Go, not proved from fmt's source: count such statements apart). THE CARD IS WHAT COUNTS. Prove the row's statement (the work); the ties are given (YtfgdichdddknlaaDoorTie.lean); close each card by the builder's one call (the guide's Derived/Test/ToyasCard.lean, 'card_holds'). Laid BY PROGRAM, IN A SANDBOX (cutbox-door.mjs). By AI agents, Wed Nov 11 2026. No macro, syntax, notation, axiom, sorry.
-/
import Derived.Test.YtfgdichdddknlaaDoorRows
import GoSem.ClaimSeven
namespace Go.Proofs.YtfgdichdddknlaaDoor
namespace Rows

/-- THE TIED CARD OF 'merestonelaw10.TagsLeaves'. -/
def tagsLeavesCard : Claim7 := { stood := { row := tagsLeavesRow, standIns := [], harness := (true, "27d14773b3d295beae85d1bb2fc8b57b9adcfea27d992250a05332b514c00a3e"), looks := true }, kinds := [], alts := [], laidByText := true, laidKinds := [.data, .data, .data, .data, .sentinel, .sentinel, .pinned], laidTests := true, laidLooks := .later }
def TagsLeavesCardSaid : Prop := Claim7.holds Tryd.pinned (.plain (OpenSpec.ofChange tagsLeavesSpec)) tagsLeavesCard

/-- THE SECOND FORM's CARD OF 'merestonelaw10.TagsLeaves'. -/
def tagsLeavesUptoCard : Claim7 := { stood := { row := tagsLeavesUptoRow, standIns := [], harness := (true, "27d14773b3d295beae85d1bb2fc8b57b9adcfea27d992250a05332b514c00a3e"), looks := true }, kinds := [], alts := [], laidByText := true, laidKinds := [.data, .data, .data, .data, .sentinel, .sentinel, .pinned], laidTests := true, laidLooks := .later }
def TagsLeavesUptoCardSaid : Prop := Claim7.holds Tryd.pinned (.plain (OpenSpec.upto tagsLeavesSpec)) tagsLeavesUptoCard
end Rows
end Go.Proofs.YtfgdichdddknlaaDoor
