/-
  Walks of ratio: the wide product of two Ints. Conditions stand in each theorem.
-/
import Derived.Test.YtfgdichdddknlaaDoorLm9
import Derived.Test.YtfgdichdddknlaaDoorWd1
namespace Go.Proofs.YtfgdichdddknlaaDoor
open Go.RowKit Go.BigFrame

def allD (a b i k : Nat) : Array Value := #[.int .u64 (allT a b i k 0), .int .u64 (allT a b i k 1), .int .u64 (allT a b i k 2), .int .u64 (allT a b i k 3), .int .u64 (allT a b i k 4), .int .u64 (allT a b i k 5), .int .u64 (allT a b i k 6), .int .u64 (allT a b i k 7), .int .u64 (allT a b i k 8)]
theorem allD_at (a b i k j : Nat) (hj : j < 9) : (allD a b i k)[j]? = some (.int .u64 (allT a b i k j)) := by
  obtain rfl | rfl | rfl | rfl | rfl | rfl | rfl | rfl | rfl : j = 0 ∨ j = 1 ∨ j = 2 ∨ j = 3 ∨ j = 4 ∨ j = 5 ∨ j = 6 ∨ j = 7 ∨ j = 8 := by omega
  all_goals rfl
theorem allD_set (a b i k i' k' j : Nat) (hj : j < 9) (h : ∀ m, m < 9 → m ≠ j → allT a b i k m = allT a b i' k' m) : (allD a b i k).setIfInBounds j (.int .u64 (allT a b i' k' j)) = allD a b i' k' := by
  have e0 := h 0 (by omega); have e1 := h 1 (by omega); have e2 := h 2 (by omega); have e3 := h 3 (by omega)
  have e4 := h 4 (by omega); have e5 := h 5 (by omega); have e6 := h 6 (by omega); have e7 := h 7 (by omega); have e8 := h 8 (by omega)
  unfold allD
  obtain rfl | rfl | rfl | rfl | rfl | rfl | rfl | rfl | rfl : j = 0 ∨ j = 1 ∨ j = 2 ∨ j = 3 ∨ j = 4 ∨ j = 5 ∨ j = 6 ∨ j = 7 ∨ j = 8 := by omega
  all_goals simp_all
theorem all_top (a b i : Nat) (hb : b < 2 ^ 256) : allT a b i 4 (i + 4) = 0 := by
  unfold allT
  rw [if_neg (by omega), dg_high (accT_lt a b i hb) (Nat.le_refl _)]
theorem carT_wrap (a b i : Nat) : IntKind.u64.wrap ((carT a b i 4 : Nat) : Int) = (carT a b i 4 : Nat) := by
  have := carT_lt a b i 4
  rw [IntKind.wrap_u64]
  omega
end Go.Proofs.YtfgdichdddknlaaDoor
