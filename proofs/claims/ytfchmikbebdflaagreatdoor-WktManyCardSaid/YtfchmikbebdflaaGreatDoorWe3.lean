/-
  Walks of ratio: how often 2 divides a wide magnitude. Conditions stand in each theorem.
-/
import Derived.Test.YtfchmikbebdflaaGreatDoorWe1
import Derived.Test.YtfchmikbebdflaaGreatDoorWe2
namespace Go.Proofs.YtfchmikbebdflaaGreatDoor
open Go.RowKit Go.BigFrame

theorem mod_up {a k : Nat} (h : a % 2 ^ (64 * k) = 0) (hd : dg a k = 0) : a % 2 ^ (64 * (k + 1)) = 0 := by
  rw [pow_step, mod_step, h]
  have := dg_toNat a k
  rw [hd] at this
  rw [← this]
  rfl
theorem mod_one_zero (a : Nat) : a % 2 ^ (64 * 0) = 0 := by simp [Nat.mod_one]
theorem ctz_lt {x : Nat} (h0 : 0 < x) (h : x < 18446744073709551616) : Lib.ctz 64 x < 64 := by
  unfold Lib.ctz
  rw [if_neg (by omega)]
  obtain ⟨m, _, h⟩ := Lib.ctzFrom_spec 64 x h0 h
  exact h

end Go.Proofs.YtfchmikbebdflaaGreatDoor
