/-
  Walks: sums and differences of magnitudes, their order. Conditions stand in each theorem.
-/
import Derived.BigQuiet
import Derived.Deep.RegionHeld3
import Derived.Laws.Externs
import Derived.Test.YtfgdichdddknlaaDoorProg
import Derived.Test.YtfgdichdddknlaaDoorBase2
import Derived.Test.YtfgdichdddknlaaDoorBase3
import Derived.Test.YtfgdichdddknlaaDoorLm0
namespace Go.Proofs.YtfgdichdddknlaaDoor
open Go.RowKit Go.BigFrame

theorem cells22 : Tryd.prog.cellsOf 96 = 1 := by kernel_rfl
theorem info22 : ∃ i, Tryd.prog.info? 96 = some i := by
  cases h : Tryd.prog.info? 96 with
  | some i => exact ⟨i, rfl⟩
  | none => exact absurd h (by intro h; have : (Tryd.prog.info? 96).isSome = true := (by kernel_rfl); rw [h] at this; cases this)
end Go.Proofs.YtfgdichdddknlaaDoor

namespace Go.Proofs.YtfgdichdddknlaaDoor
open Go.RowKit Go.BigFrame

/-- What the sum's cells hold behind k rounds. -/
def part4 (s k j : Nat) : Int := if j < k then dg s j else 0

def PlusPost (a b : Nat) (w : World) (e : Ending) (w' : World) : Prop :=
  e = (if a + b < 2 ^ 256 then .returned (.agg #[.int .u64 (dg (a + b) 0), .int .u64 (dg (a + b) 1), .int .u64 (dg (a + b) 2), .int .u64 (dg (a + b) 3)]) else .panicked [{ v := .iface 27 (.int .i64 110), recovered := false }]) ∧ Below w.heap.size w w'

end Go.Proofs.YtfgdichdddknlaaDoor
