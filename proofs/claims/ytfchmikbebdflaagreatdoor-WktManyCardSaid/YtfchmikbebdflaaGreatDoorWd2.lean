/-
  Walks of ratio: the wide product of two Ints. Conditions stand in each theorem.
-/
import Derived.Test.YtfchmikbebdflaaGreatDoorLm9
import Derived.Test.YtfchmikbebdflaaGreatDoorWd1
namespace Go.Proofs.YtfchmikbebdflaaGreatDoor
open Go.RowKit Go.BigFrame

def allD (a b i k : Nat) : Array Value := #[.int .u64 (allT a b i k 0), .int .u64 (allT a b i k 1), .int .u64 (allT a b i k 2), .int .u64 (allT a b i k 3), .int .u64 (allT a b i k 4), .int .u64 (allT a b i k 5), .int .u64 (allT a b i k 6), .int .u64 (allT a b i k 7), .int .u64 (allT a b i k 8)]
theorem allD_at (a b i k j : Nat) (hj : j < 9) : (allD a b i k)[j]? = some (.int .u64 (allT a b i k j)) := by
  obtain rfl | rfl | rfl | rfl | rfl | rfl | rfl | rfl | rfl : j = 0 ∨ j = 1 ∨ j = 2 ∨ j = 3 ∨ j = 4 ∨ j = 5 ∨ j = 6 ∨ j = 7 ∨ j = 8 := by omega
  all_goals rfl
theorem allD_set (a b i k i' k' j : Nat) (hj : j < 9) (h : ∀ m, m < 9 → m ≠ j → allT a b i k m = allT a b i' k' m) : (allD a b i k).setIfInBounds j (.int .u64 (allT a b i' k' j)) = allD a b i' k' := by
  have e0 := h 0 (by omega); have e1 := h 1 (by omega); have e2 := h 2 (by omega); have e3 := h 3 (by omega)
  have e4 := h 4 (by omega); have e5 := h 5 (by omega); have e6 := h 6 (by omega); have e7 := h 7 (by omega); have e8 := h 8 (by omega)
  unfold allD
  obtain rfl | rfl | rfl | rfl | rfl | rfl | rfl | rfl | rfl : j = 0 ∨ j = 1 ∨ j = 2 ∨ j = 3 ∨ j = 4 ∨ j = 5 ∨ j = 6 ∨ j = 7 ∨ j = 8 := by omega
  all_goals simp_all
theorem all_top (a b i : Nat) (hb : b < 2 ^ 256) : allT a b i 4 (i + 4) = 0 := by
  unfold allT
  rw [if_neg (by omega), dg_high (accT_lt a b i hb) (Nat.le_refl _)]
theorem carT_wrap (a b i : Nat) : IntKind.u64.wrap ((carT a b i 4 : Nat) : Int) = (carT a b i 4 : Nat) := by
  have := carT_lt a b i 4
  rw [IntKind.wrap_u64]
  omega
theorem idxArr0 (x0 x1 x2 x3 : Int) (w : World) : (Instr.index 87 (.agg #[.int .u64 x0, .int .u64 x1, .int .u64 x2, .int .u64 x3]) (.int .i64 0)).run Tryz.prog w = .ok (.int .u64 x0) w := by kernel_rfl
theorem idxArr1 (x0 x1 x2 x3 : Int) (w : World) : (Instr.index 87 (.agg #[.int .u64 x0, .int .u64 x1, .int .u64 x2, .int .u64 x3]) (.int .i64 1)).run Tryz.prog w = .ok (.int .u64 x1) w := by kernel_rfl
theorem idxArr2 (x0 x1 x2 x3 : Int) (w : World) : (Instr.index 87 (.agg #[.int .u64 x0, .int .u64 x1, .int .u64 x2, .int .u64 x3]) (.int .i64 2)).run Tryz.prog w = .ok (.int .u64 x2) w := by kernel_rfl
theorem idxArr3 (x0 x1 x2 x3 : Int) (w : World) : (Instr.index 87 (.agg #[.int .u64 x0, .int .u64 x1, .int .u64 x2, .int .u64 x3]) (.int .i64 3)).run Tryz.prog w = .ok (.int .u64 x3) w := by kernel_rfl
theorem idx_arr (a i : Nat) (hi : i < 4) (w : World) : (Instr.index 87 (.agg #[.int .u64 (dg (a) 0), .int .u64 (dg (a) 1), .int .u64 (dg (a) 2), .int .u64 (dg (a) 3)]) (.int .i64 (i : Int))).run Tryz.prog w = .ok (.int .u64 (dg a i)) w := by
  obtain rfl | rfl | rfl | rfl : i = 0 ∨ i = 1 ∨ i = 2 ∨ i = 3 := by omega
  · exact idxArr0 _ _ _ _ w
  · exact idxArr1 _ _ _ _ w
  · exact idxArr2 _ _ _ _ w
  · exact idxArr3 _ _ _ _ w

end Go.Proofs.YtfchmikbebdflaaGreatDoor
