/-
  Walks: differences of magnitudes, their order, doubles, bits. Conditions stand in each theorem.
-/
import Derived.Test.YtfgdichdddknlaaDoorLm2
import Derived.Test.YtfgdichdddknlaaDoorWd0
namespace Go.Proofs.YtfgdichdddknlaaDoor
open Go.RowKit Go.BigFrame

/-! ### cmp.Compare, cmp.Or, first -/
def cmpI (x y : Int) : Int := if x < y then -1 else if x > y then 1 else 0
def orI (x y : Int) : Int := if x = 0 then y else x
/-! ### mags -/
/-- What mags holds behind k rounds. -/
def cmpP (a b k : Nat) : Int := cmpN (a % 2 ^ (64 * k)) (b % 2 ^ (64 * k))
theorem or_cmp (a b k : Nat) : orI (cmpI (dg a k) (dg b k)) (cmpP a b k) = cmpP a b (k + 1) := by
  unfold cmpP
  rw [cmp_step]
  unfold orI cmpI
  by_cases h1 : dg a k < dg b k
  · simp [h1]
  · by_cases h2 : dg a k > dg b k
    · simp [h1, h2]
    · simp [h1, h2]
end Go.Proofs.YtfgdichdddknlaaDoor
