/-
  The law SegNodes for any segments. Conditions stand in each theorem.
-/
import Derived.Test.YtbhfnfokihdjjaaGreatDoorNd3
import Derived.Test.YtbhfnfokihdjjaaGreatDoorNd5
namespace Go.Proofs.YtbhfnfokihdjjaaGreatDoor
open Go.RowKit Go.BigFrame Go.Shelf
theorem nodeslaw_any (L : List Sgm) (A : Option Addr) (cap : Nat) (many : Int) (w : World) (hV : Vars w) (hA : SegsAt w A L) :
    Calls Tryz.prog 9 #[.slice A L.length cap, .int .i64 many] w fun e w' => e = .returned (.bool true) ∧ Below w.heap.size w w' := by
  by_cases h : L.length ≤ 20
  · exact nodeslaw_short L h A cap many w hV hA
  · exact nodeslaw_long A L.length (by omega) cap many w hV
end Go.Proofs.YtbhfnfokihdjjaaGreatDoor
