/-
  The walk of the law package's steps. Conditions stand in each theorem.
-/
import Derived.Test.YtbhfnfokihdjjaaGreatDoorRf13
namespace Go.Proofs.YtbhfnfokihdjjaaGreatDoor
open Go.RowKit Go.BigFrame

/-- A Big of value z in a block of its own. -/
def BigIn (W : World) (b : Nat) (z : Int) : Prop :=
  ∃ (A : Option Addr) (c : Nat), W.heap[b]? = some (.cells #[.bool (ng z), .slice A (dd (ab z)).length c] 53 (0, 0)) ∧ (dd (ab z)).length ≤ c ∧ DigAt W A (dd (ab z))
theorem BigIn.below {W W1 : World} {b : Nat} {z : Int} (h : BigIn W b z) (hb : Below W.heap.size W W1) : BigIn W1 b z := by
  obtain ⟨A, c, h1, h2, h3⟩ := h
  exact ⟨A, c, heap_below hb h1, h2, h3.below hb⟩
theorem dd_small {z : Int} (h : ab z < 2 ^ 256) : (dd (ab z)).length ≤ 1000 := Nat.le_trans ((dd_len16 _).2 h) (by omega)
end Go.Proofs.YtbhfnfokihdjjaaGreatDoor
