/-
  No cell of these rows narrows 'for every input' (looked for: loops, veiled, ifaces, maps, wideKeys, modest, calm, conditions, laid).
  DERIVED. THE GIVEN ROWS OF THIS SEAT. 8 by the template 'for every input the law returns true; each argument reads behind the call as it read before'; 0 by the template 'total and deterministic' (their statements: YteibcklcegkbcaaTotals.lean).
  GIVEN WITH THE SEED: the statements are not yours to turn. If you find one false, say at which input.
  Laid BY PROGRAM, IN A SANDBOX (cutbox-rows.mjs): the forced cells as the released guide's own fill.sh prints them over the translation 9e2dd4d3a364fa24… (all of the seat's roots in one cut). By AI agents, Wed Nov 11 2026. No macro, syntax, notation, axiom, sorry.
-/
import Derived.Test.YteibcklcegkbcaaChecked
import GoSem.Claim
import GoSem.ClaimJoined
import GoSem.ClaimMapViews
import Derived.JoinedTies
import Derived.KernelRfl
namespace Go.Proofs.Yteibcklcegkbcaa
/- THE CELL 'sum', in the pinned program and in every row, IS THE sha256 OF THE DUMP (.gsa) THAT YteibcklcegkbcaaProg.lean LOADS. Nothing in Lean hashes anything: it is a label: what it is worth is what the hold of that sum in a sandbox is worth. -/
noncomputable def Try.pinned : Pinned := { name := "yteibcklcegkbcaa", sum := "9e2dd4d3a364fa2474cbc0894803dc1a46556774e92a45a6918d3700e48aa284", checked := Try.checked }
namespace Rows
def none {H : Type} : Left H := { results := [], args := [] }

/-- 'merestonelaw01.LimbQuos': WHATEVER THE INPUT: true; the input reads as it did. -/
def limbQuosSpec : ChangeSpec := { name := "limbQuos", fn := fun _ => fun
  | [d1, d2] => { results := [.lit (.bool true)], args := [d1, d2] }
  | _ => none }
def limbQuosRow : OpenClaim := { program := "yteibcklcegkbcaa", sum := "9e2dd4d3a364fa2474cbc0894803dc1a46556774e92a45a6918d3700e48aa284", func := "merestone/merestonelaw01.LimbQuos", spec := "limbQuos", inPlace := ["math/bits.Sub64", "math/bits.Add64"], unfollowed := true, recurses := true, apart := false }
def LimbQuosSaid : Prop := limbQuosRow.holds Try.pinned (OpenSpec.ofChange limbQuosSpec)

/-- ITS FALSE NEIGHBOUR: 'it returns false'. Refute it at one input. -/
def limbQuosWrong : ChangeSpec := { name := "limbQuos", fn := fun _ => fun
  | [d1, d2] => { results := [.lit (.bool false)], args := [d1, d2] }
  | _ => none }
def LimbQuosWrongFalsely : Prop := limbQuosRow.holds Try.pinned (OpenSpec.ofChange limbQuosWrong)

/-- 'merestonelaw01.LimbTexts': WHATEVER THE INPUT: true; the input reads as it did. -/
def limbTextsSpec : ChangeSpec := { name := "limbTexts", fn := fun _ => fun
  | [d1, d2] => { results := [.lit (.bool true)], args := [d1, d2] }
  | _ => none }
def limbTextsRow : OpenClaim := { program := "yteibcklcegkbcaa", sum := "9e2dd4d3a364fa2474cbc0894803dc1a46556774e92a45a6918d3700e48aa284", func := "merestone/merestonelaw01.LimbTexts", spec := "limbTexts", inPlace := ["math/bits.Sub64", "math/bits.Add64"], unfollowed := true, recurses := true, apart := false }
def LimbTextsSaid : Prop := limbTextsRow.holds Try.pinned (OpenSpec.ofChange limbTextsSpec)

/-- ITS FALSE NEIGHBOUR: 'it returns false'. Refute it at one input. -/
def limbTextsWrong : ChangeSpec := { name := "limbTexts", fn := fun _ => fun
  | [d1, d2] => { results := [.lit (.bool false)], args := [d1, d2] }
  | _ => none }
def LimbTextsWrongFalsely : Prop := limbTextsRow.holds Try.pinned (OpenSpec.ofChange limbTextsWrong)

/-- 'merestonelaw01.LimbBits': WHATEVER THE INPUT: true; the input reads as it did. -/
def limbBitsSpec : ChangeSpec := { name := "limbBits", fn := fun _ => fun
  | [d1, d2] => { results := [.lit (.bool true)], args := [d1, d2] }
  | _ => none }
def limbBitsRow : OpenClaim := { program := "yteibcklcegkbcaa", sum := "9e2dd4d3a364fa2474cbc0894803dc1a46556774e92a45a6918d3700e48aa284", func := "merestone/merestonelaw01.LimbBits", spec := "limbBits", inPlace := ["math/bits.Sub64", "math/bits.Add64"], unfollowed := true, recurses := true, apart := false }
def LimbBitsSaid : Prop := limbBitsRow.holds Try.pinned (OpenSpec.ofChange limbBitsSpec)

/-- ITS FALSE NEIGHBOUR: 'it returns false'. Refute it at one input. -/
def limbBitsWrong : ChangeSpec := { name := "limbBits", fn := fun _ => fun
  | [d1, d2] => { results := [.lit (.bool false)], args := [d1, d2] }
  | _ => none }
def LimbBitsWrongFalsely : Prop := limbBitsRow.holds Try.pinned (OpenSpec.ofChange limbBitsWrong)

/-- 'merestonelaw01.LimbMirrors': WHATEVER THE INPUT: true; the input reads as it did. -/
def limbMirrorsSpec : ChangeSpec := { name := "limbMirrors", fn := fun _ => fun
  | [d1, d2] => { results := [.lit (.bool true)], args := [d1, d2] }
  | _ => none }
def limbMirrorsRow : OpenClaim := { program := "yteibcklcegkbcaa", sum := "9e2dd4d3a364fa2474cbc0894803dc1a46556774e92a45a6918d3700e48aa284", func := "merestone/merestonelaw01.LimbMirrors", spec := "limbMirrors", inPlace := ["math/bits.Sub64", "math/bits.Add64"], unfollowed := true, recurses := true, apart := false }
def LimbMirrorsSaid : Prop := limbMirrorsRow.holds Try.pinned (OpenSpec.ofChange limbMirrorsSpec)

/-- ITS FALSE NEIGHBOUR: 'it returns false'. Refute it at one input. -/
def limbMirrorsWrong : ChangeSpec := { name := "limbMirrors", fn := fun _ => fun
  | [d1, d2] => { results := [.lit (.bool false)], args := [d1, d2] }
  | _ => none }
def LimbMirrorsWrongFalsely : Prop := limbMirrorsRow.holds Try.pinned (OpenSpec.ofChange limbMirrorsWrong)

/-- 'merestonelaw01.LimbOfs': WHATEVER THE INPUT: true; the input reads as it did. -/
def limbOfsSpec : ChangeSpec := { name := "limbOfs", fn := fun _ => fun
  | [d1, d2] => { results := [.lit (.bool true)], args := [d1, d2] }
  | _ => none }
def limbOfsRow : OpenClaim := { program := "yteibcklcegkbcaa", sum := "9e2dd4d3a364fa2474cbc0894803dc1a46556774e92a45a6918d3700e48aa284", func := "merestone/merestonelaw01.LimbOfs", spec := "limbOfs", inPlace := ["math/bits.Sub64", "math/bits.Add64"], unfollowed := true, recurses := true, apart := false }
def LimbOfsSaid : Prop := limbOfsRow.holds Try.pinned (OpenSpec.ofChange limbOfsSpec)

/-- ITS FALSE NEIGHBOUR: 'it returns false'. Refute it at one input. -/
def limbOfsWrong : ChangeSpec := { name := "limbOfs", fn := fun _ => fun
  | [d1, d2] => { results := [.lit (.bool false)], args := [d1, d2] }
  | _ => none }
def LimbOfsWrongFalsely : Prop := limbOfsRow.holds Try.pinned (OpenSpec.ofChange limbOfsWrong)

/-- 'merestonelaw01.LimbSums': WHATEVER THE INPUT: true; the input reads as it did. -/
def limbSumsSpec : ChangeSpec := { name := "limbSums", fn := fun _ => fun
  | [d1, d2, d3] => { results := [.lit (.bool true)], args := [d1, d2, d3] }
  | _ => none }
def limbSumsRow : OpenClaim := { program := "yteibcklcegkbcaa", sum := "9e2dd4d3a364fa2474cbc0894803dc1a46556774e92a45a6918d3700e48aa284", func := "merestone/merestonelaw01.LimbSums", spec := "limbSums", inPlace := ["math/bits.Sub64", "math/bits.Add64"], unfollowed := true, recurses := true, apart := false }
def LimbSumsSaid : Prop := limbSumsRow.holds Try.pinned (OpenSpec.ofChange limbSumsSpec)

/-- ITS FALSE NEIGHBOUR: 'it returns false'. Refute it at one input. -/
def limbSumsWrong : ChangeSpec := { name := "limbSums", fn := fun _ => fun
  | [d1, d2, d3] => { results := [.lit (.bool false)], args := [d1, d2, d3] }
  | _ => none }
def LimbSumsWrongFalsely : Prop := limbSumsRow.holds Try.pinned (OpenSpec.ofChange limbSumsWrong)

/-- 'merestonelaw01.LimbOrders': WHATEVER THE INPUT: true; the input reads as it did. -/
def limbOrdersSpec : ChangeSpec := { name := "limbOrders", fn := fun _ => fun
  | [d1, d2] => { results := [.lit (.bool true)], args := [d1, d2] }
  | _ => none }
def limbOrdersRow : OpenClaim := { program := "yteibcklcegkbcaa", sum := "9e2dd4d3a364fa2474cbc0894803dc1a46556774e92a45a6918d3700e48aa284", func := "merestone/merestonelaw01.LimbOrders", spec := "limbOrders", inPlace := ["math/bits.Add64", "math/bits.Sub64"], unfollowed := true, recurses := true, apart := false }
def LimbOrdersSaid : Prop := limbOrdersRow.holds Try.pinned (OpenSpec.ofChange limbOrdersSpec)

/-- ITS FALSE NEIGHBOUR: 'it returns false'. Refute it at one input. -/
def limbOrdersWrong : ChangeSpec := { name := "limbOrders", fn := fun _ => fun
  | [d1, d2] => { results := [.lit (.bool false)], args := [d1, d2] }
  | _ => none }
def LimbOrdersWrongFalsely : Prop := limbOrdersRow.holds Try.pinned (OpenSpec.ofChange limbOrdersWrong)

/-- 'merestonelaw01.LimbHolds': WHATEVER THE INPUT: true; the input reads as it did. -/
def limbHoldsSpec : ChangeSpec := { name := "limbHolds", fn := fun _ => fun
  | [d1, d2, d3] => { results := [.lit (.bool true)], args := [d1, d2, d3] }
  | _ => none }
def limbHoldsRow : OpenClaim := { program := "yteibcklcegkbcaa", sum := "9e2dd4d3a364fa2474cbc0894803dc1a46556774e92a45a6918d3700e48aa284", func := "merestone/merestonelaw01.LimbHolds", spec := "limbHolds", inPlace := ["math/bits.Add64", "math/bits.Sub64"], unfollowed := true, recurses := true, apart := false }
def LimbHoldsSaid : Prop := limbHoldsRow.holds Try.pinned (OpenSpec.ofChange limbHoldsSpec)

/-- ITS FALSE NEIGHBOUR: 'it returns false'. Refute it at one input. -/
def limbHoldsWrong : ChangeSpec := { name := "limbHolds", fn := fun _ => fun
  | [d1, d2, d3] => { results := [.lit (.bool false)], args := [d1, d2, d3] }
  | _ => none }
def LimbHoldsWrongFalsely : Prop := limbHoldsRow.holds Try.pinned (OpenSpec.ofChange limbHoldsWrong)

/- THE SECOND FORM. 'bulk': how many values and letters a reading holds, each counted each time it is reached (what is shared counts as often as it is met; a slice's spare places count too). A statement '..UptoSaid' is the law's where the arguments, and the package variables that the reading takes, are together of bulk at most 1048576: NARROWER than '..Said'. Prove '..Said' where nothing that the law and all that it calls make is longer than what came in: it says more and counts as full. Else prove '..UptoSaid'. A law counts once. -/
mutual
def uptoBulk {H : Type} : DataW H → Nat
  | .lit (.string bytes) => bytes.length + 1
  | .lit _ => 1
  | .nil => 1
  | .ptr d => uptoBulk d + 1
  | .slice elems spare => uptoBulkAll elems + uptoBulkAll spare + 1
  | .agg parts => uptoBulkAll parts + 1
  | .iface _ d => uptoBulk d + 1
  | .map entries => uptoBulkEntries entries + 1
  | .held _ => 1
def uptoBulkAll {H : Type} : List (DataW H) → Nat
  | [] => 0
  | d :: r => uptoBulk d + uptoBulkAll r
def uptoBulkEntries {H : Type} : List (Lit × DataW H) → Nat
  | [] => 0
  | x :: r => uptoBulkEntry x + uptoBulkEntries r
def uptoBulkEntry {H : Type} : Lit × DataW H → Nat
  | (.string bytes, d) => bytes.length + uptoBulk d + 1
  | (_, d) => uptoBulk d + 1
 end
def uptoSmall : (H : Type) → List (DataW H) → Bool := fun _ ds => decide (uptoBulkAll ds ≤ 1048576)
def OpenSpec.upto (s : _root_.Go.ChangeSpec) : _root_.Go.OpenSpec := { _root_.Go.OpenSpec.ofChange s with cond := some uptoSmall }

/-- 'merestonelaw01.LimbQuos', WHERE WHAT IT READS IS OF BULK AT MOST 1048576: true; the input reads as it did. -/
def limbQuosUptoRow : OpenClaim := { program := "yteibcklcegkbcaa", sum := "9e2dd4d3a364fa2474cbc0894803dc1a46556774e92a45a6918d3700e48aa284", func := "merestone/merestonelaw01.LimbQuos", spec := "limbQuos", inPlace := ["math/bits.Sub64", "math/bits.Add64"], unfollowed := true, recurses := true, apart := false, narrowed := true }
def LimbQuosUptoSaid : Prop := limbQuosUptoRow.holds Try.pinned (OpenSpec.upto limbQuosSpec)

/-- 'merestonelaw01.LimbTexts', WHERE WHAT IT READS IS OF BULK AT MOST 1048576: true; the input reads as it did. -/
def limbTextsUptoRow : OpenClaim := { program := "yteibcklcegkbcaa", sum := "9e2dd4d3a364fa2474cbc0894803dc1a46556774e92a45a6918d3700e48aa284", func := "merestone/merestonelaw01.LimbTexts", spec := "limbTexts", inPlace := ["math/bits.Sub64", "math/bits.Add64"], unfollowed := true, recurses := true, apart := false, narrowed := true }
def LimbTextsUptoSaid : Prop := limbTextsUptoRow.holds Try.pinned (OpenSpec.upto limbTextsSpec)

/-- 'merestonelaw01.LimbBits', WHERE WHAT IT READS IS OF BULK AT MOST 1048576: true; the input reads as it did. -/
def limbBitsUptoRow : OpenClaim := { program := "yteibcklcegkbcaa", sum := "9e2dd4d3a364fa2474cbc0894803dc1a46556774e92a45a6918d3700e48aa284", func := "merestone/merestonelaw01.LimbBits", spec := "limbBits", inPlace := ["math/bits.Sub64", "math/bits.Add64"], unfollowed := true, recurses := true, apart := false, narrowed := true }
def LimbBitsUptoSaid : Prop := limbBitsUptoRow.holds Try.pinned (OpenSpec.upto limbBitsSpec)

/-- 'merestonelaw01.LimbMirrors', WHERE WHAT IT READS IS OF BULK AT MOST 1048576: true; the input reads as it did. -/
def limbMirrorsUptoRow : OpenClaim := { program := "yteibcklcegkbcaa", sum := "9e2dd4d3a364fa2474cbc0894803dc1a46556774e92a45a6918d3700e48aa284", func := "merestone/merestonelaw01.LimbMirrors", spec := "limbMirrors", inPlace := ["math/bits.Sub64", "math/bits.Add64"], unfollowed := true, recurses := true, apart := false, narrowed := true }
def LimbMirrorsUptoSaid : Prop := limbMirrorsUptoRow.holds Try.pinned (OpenSpec.upto limbMirrorsSpec)

/-- 'merestonelaw01.LimbOfs', WHERE WHAT IT READS IS OF BULK AT MOST 1048576: true; the input reads as it did. -/
def limbOfsUptoRow : OpenClaim := { program := "yteibcklcegkbcaa", sum := "9e2dd4d3a364fa2474cbc0894803dc1a46556774e92a45a6918d3700e48aa284", func := "merestone/merestonelaw01.LimbOfs", spec := "limbOfs", inPlace := ["math/bits.Sub64", "math/bits.Add64"], unfollowed := true, recurses := true, apart := false, narrowed := true }
def LimbOfsUptoSaid : Prop := limbOfsUptoRow.holds Try.pinned (OpenSpec.upto limbOfsSpec)

/-- 'merestonelaw01.LimbSums', WHERE WHAT IT READS IS OF BULK AT MOST 1048576: true; the input reads as it did. -/
def limbSumsUptoRow : OpenClaim := { program := "yteibcklcegkbcaa", sum := "9e2dd4d3a364fa2474cbc0894803dc1a46556774e92a45a6918d3700e48aa284", func := "merestone/merestonelaw01.LimbSums", spec := "limbSums", inPlace := ["math/bits.Sub64", "math/bits.Add64"], unfollowed := true, recurses := true, apart := false, narrowed := true }
def LimbSumsUptoSaid : Prop := limbSumsUptoRow.holds Try.pinned (OpenSpec.upto limbSumsSpec)

/-- 'merestonelaw01.LimbOrders', WHERE WHAT IT READS IS OF BULK AT MOST 1048576: true; the input reads as it did. -/
def limbOrdersUptoRow : OpenClaim := { program := "yteibcklcegkbcaa", sum := "9e2dd4d3a364fa2474cbc0894803dc1a46556774e92a45a6918d3700e48aa284", func := "merestone/merestonelaw01.LimbOrders", spec := "limbOrders", inPlace := ["math/bits.Add64", "math/bits.Sub64"], unfollowed := true, recurses := true, apart := false, narrowed := true }
def LimbOrdersUptoSaid : Prop := limbOrdersUptoRow.holds Try.pinned (OpenSpec.upto limbOrdersSpec)

/-- 'merestonelaw01.LimbHolds', WHERE WHAT IT READS IS OF BULK AT MOST 1048576: true; the input reads as it did. -/
def limbHoldsUptoRow : OpenClaim := { program := "yteibcklcegkbcaa", sum := "9e2dd4d3a364fa2474cbc0894803dc1a46556774e92a45a6918d3700e48aa284", func := "merestone/merestonelaw01.LimbHolds", spec := "limbHolds", inPlace := ["math/bits.Add64", "math/bits.Sub64"], unfollowed := true, recurses := true, apart := false, narrowed := true }
def LimbHoldsUptoSaid : Prop := limbHoldsUptoRow.holds Try.pinned (OpenSpec.upto limbHoldsSpec)

end Rows
end Go.Proofs.Yteibcklcegkbcaa
