/-
  Walks of ratio: the sign of a signed wide number. Conditions stand in each theorem.
-/
import Derived.Test.YtfchmikbebdflaaGreatDoorWd3
namespace Go.Proofs.YtfchmikbebdflaaGreatDoor
open Go.RowKit Go.BigFrame

end Go.Proofs.YtfchmikbebdflaaGreatDoor

namespace Go.Proofs.YtfchmikbebdflaaGreatDoor
open Go.RowKit Go.BigFrame

theorem mod_zero (n : Nat) : ∀ k, (∀ i, i < k → dg n i = 0) → n % 2 ^ (64 * k) = 0
  | 0, _ => by simp [Nat.mod_one]
  | k + 1, h => by
    rw [pow_step, mod_step, mod_zero n k (fun i hi => h i (by omega)), ← dg_toNat, h k (by omega)]
    rfl
theorem nine_zeroK {n K : Nat} (hK : K = 9) (h : n < 2 ^ (64 * K)) : (dg n 0 == 0 && (dg n 1 == 0 && (dg n 2 == 0 && (dg n 3 == 0 && (dg n 4 == 0 && (dg n 5 == 0 && (dg n 6 == 0 && (dg n 7 == 0 && (dg n 8 == 0))))))))) = decide (n = 0) := by
  rw [Bool.eq_iff_iff]
  simp only [Bool.and_eq_true, beq_iff_eq, decide_eq_true_eq]
  constructor
  · rintro ⟨h0, h1, h2, h3, h4, h5, h6, h7, h8⟩
    have := mod_zero n K (fun i hi => by
      clear h
      obtain rfl | rfl | rfl | rfl | rfl | rfl | rfl | rfl | rfl : i = 0 ∨ i = 1 ∨ i = 2 ∨ i = 3 ∨ i = 4 ∨ i = 5 ∨ i = 6 ∨ i = 7 ∨ i = 8 := by omega
      · exact h0
      · exact h1
      · exact h2
      · exact h3
      · exact h4
      · exact h5
      · exact h6
      · exact h7
      · exact h8)
    rwa [Nat.mod_eq_of_lt h] at this
  · rintro rfl
    clear h
    simp only [dg_zero, and_self]
theorem nine_zero {n : Nat} (h : n < 2 ^ (64 * 9)) : (dg n 0 == 0 && (dg n 1 == 0 && (dg n 2 == 0 && (dg n 3 == 0 && (dg n 4 == 0 && (dg n 5 == 0 && (dg n 6 == 0 && (dg n 7 == 0 && (dg n 8 == 0))))))))) = decide (n = 0) := nine_zeroK rfl h
/-- -1, 0, 1. -/
def sgI (z : Int) : Int := if z < 0 then -1 else if z = 0 then 0 else 1
end Go.Proofs.YtfchmikbebdflaaGreatDoor
