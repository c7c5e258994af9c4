/-
  Walks of ratio: a wide magnitude's half. Conditions stand in each theorem.
-/
import Derived.Test.YtfchmikbebdflaaGreatDoorWd3
namespace Go.Proofs.YtfchmikbebdflaaGreatDoor
open Go.RowKit Go.BigFrame

theorem half_div (a k : Nat) : a / 2 / 2 ^ (64 * k) = a / 2 ^ (64 * k) / 2 := by
  rw [Nat.div_div_eq_div_mul, Nat.div_div_eq_div_mul, Nat.mul_comm]
theorem half_digit (a k : Nat) : bits .or .u64 (dg a k / 2) (IntKind.u64.wrap (dg a (k + 1) * 9223372036854775808)) = dg (a / 2) k := by
  have h1 : a / 2 ^ (64 * (k + 1)) = a / 2 ^ (64 * k) / 18446744073709551616 := by rw [pow_step, Nat.div_div_eq_div_mul]
  have e1 : dg a k / 2 = ((a / 2 ^ (64 * k) % 18446744073709551616 / 2 : Nat) : Int) := by unfold dg; omega
  have e2 : IntKind.u64.wrap (dg a (k + 1) * 9223372036854775808) = ((2 ^ 63 * (a / 2 ^ (64 * k) / 18446744073709551616 % 2) : Nat) : Int) := by
    rw [IntKind.wrap_u64]; unfold dg; rw [h1]; omega
  have e3 : dg (a / 2) k = ((a / 2 ^ (64 * k) / 2 % 18446744073709551616 : Nat) : Int) := by unfold dg; rw [half_div]
  rw [e1, e2, e3, bits_or_u64_nat _ _ (by omega) (by omega), Nat.or_comm, ← Nat.two_pow_add_eq_or_of_lt]
  · congr 1
    omega
  · omega
theorem half_last (a n m : Nat) (hn : n = 8) (hm : n + 1 = m) (h : a < 2 ^ (64 * m)) : dg a 8 / 2 = dg (a / 2) 8 := by
  have h2 : a / 2 ^ (64 * n) < 18446744073709551616 := by
    rw [Nat.div_lt_iff_lt_mul (Nat.two_pow_pos _), Nat.mul_comm, ← pow_step, hm]; exact h
  rw [← hn]
  unfold dg
  rw [half_div]
  generalize a / 2 ^ (64 * n) = A at *
  omega

end Go.Proofs.YtfchmikbebdflaaGreatDoor
