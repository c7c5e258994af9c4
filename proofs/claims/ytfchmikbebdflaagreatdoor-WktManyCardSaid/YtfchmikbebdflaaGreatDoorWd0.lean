/-
  Wide magnitudes (nine digits): plain laws on numbers. No condition besides those that stand in each theorem.
-/
import Derived.Test.YtfchmikbebdflaaGreatDoorLm2b
namespace Go.Proofs.YtfchmikbebdflaaGreatDoor

/-- A difference of n digits, digit by digit. -/
theorem dg_lessW (n a b i : Nat) (hb : b < 2 ^ (64 * n)) (hi : i < n) :
    ((dg a i).toNat + 18446744073709551616 - (dg b i).toNat - bor a b i) % 18446744073709551616 = (dg (a + 2 ^ (64 * n) - b) i).toNat ∧ (if (dg a i).toNat < (dg b i).toNat + bor a b i then 1 else 0) = bor a b (i + 1) := by
  have hp : 0 < 2 ^ (64 * i) := Nat.two_pow_pos _
  have hlt : (dg b i).toNat < 18446744073709551616 := by rw [dg_toNat]; omega
  have hlta : (dg a i).toNat < 18446744073709551616 := by rw [dg_toNat]; omega
  constructor
  · rw [dg_toNat (a + 2 ^ (64 * n) - b)]
    obtain ⟨m, hm⟩ : ∃ m, 2 ^ (64 * n) = 2 ^ (64 * i) * (18446744073709551616 * m) := ⟨2 ^ (64 * (n - 1 - i)), by
      rw [show 18446744073709551616 = 2 ^ 64 from by decide, ← Nat.pow_add, ← Nat.pow_add]; congr 1; omega⟩
    have hbs : b / 2 ^ (64 * i) < 18446744073709551616 * m := by
      rw [Nat.div_lt_iff_lt_mul hp, Nat.mul_comm, ← hm]; exact hb
    have key : (a + 2 ^ (64 * n) - b) / 2 ^ (64 * i) = a / 2 ^ (64 * i) + 18446744073709551616 * m - b / 2 ^ (64 * i) - bor a b i := by
      have ha := split_at a (2 ^ (64 * i))
      have hb' := split_at b (2 ^ (64 * i))
      have hra := Nat.mod_lt a hp
      have hrb := Nat.mod_lt b hp
      rw [hm]
      unfold bor
      generalize 2 ^ (64 * i) = p at *
      generalize hA : a / p = A at *
      generalize hR : a % p = R at *
      generalize hB : b / p = B at *
      generalize hS : b % p = S at *
      rw [Nat.div_eq_iff hp]
      have e1 : p * (18446744073709551616 * m) = p * B + p * (18446744073709551616 * m - B) := by rw [← Nat.mul_add]; congr 1; omega
      have hposm : 1 ≤ 18446744073709551616 * m - B := by omega
      split
      · have e2 : (A + 18446744073709551616 * m - B - 1) * p + p = p * A + p * (18446744073709551616 * m - B) := by
          rw [← Nat.mul_add, ← Nat.succ_mul, Nat.mul_comm]; congr 1; omega
        have hpp : p ≤ p * (18446744073709551616 * m - B) := Nat.le_mul_of_pos_right _ hposm
        omega
      · have e2 : (A + 18446744073709551616 * m - B - 0) * p = p * A + p * (18446744073709551616 * m - B) := by
          rw [← Nat.mul_add, Nat.mul_comm]; congr 1; omega
        omega
    rw [key, dg_toNat, dg_toNat]
    have h2 := bor_le a b i
    clear key hlt hlta hm hp
    generalize a / 2 ^ (64 * i) = A at *
    generalize b / 2 ^ (64 * i) = B at *
    omega
  · unfold bor
    rw [pow_step, mod_step a, mod_step b, dg_toNat, dg_toNat]
    have hra := Nat.mod_lt a hp
    have hrb := Nat.mod_lt b hp
    generalize a / 2 ^ (64 * i) % 18446744073709551616 = x
    generalize b / 2 ^ (64 * i) % 18446744073709551616 = y
    generalize a % 2 ^ (64 * i) = r at *
    generalize b % 2 ^ (64 * i) = s at *
    generalize 2 ^ (64 * i) = p at *
    rcases Nat.lt_trichotomy x y with h | h | h
    · have : p * x + p ≤ p * y := by rw [← Nat.mul_succ]; exact Nat.mul_le_mul_left _ h
      rw [if_pos (by split <;> omega), if_pos (by omega)]
    · subst h
      split <;> rename_i h1 <;> (try split) <;> first | omega | (rw [if_pos (by omega)]) | (rw [if_neg (by omega)]) | skip
      all_goals first | omega | rfl
    · have : p * y + p ≤ p * x := by rw [← Nat.mul_succ]; exact Nat.mul_le_mul_left _ h
      rw [if_neg (by split <;> omega), if_neg (by omega)]
/-- Digits below n do not see what is beyond. -/
theorem dg_modW (n a i : Nat) (hi : i < n) : dg (a % 2 ^ (64 * n)) i = dg a i := by
  unfold dg
  congr 1
  have h : 2 ^ (64 * n) = 2 ^ (64 * i) * (18446744073709551616 * 2 ^ (64 * (n - 1 - i))) := by
    rw [show 18446744073709551616 = 2 ^ 64 from by decide, ← Nat.pow_add, ← Nat.pow_add]; congr 1; omega
  rw [h, Nat.mod_mul_right_div_self, Nat.mod_mul_right_mod]
theorem bor_end {a b : Nat} (n : Nat) (ha : a < 2 ^ (64 * n)) (hb : b < 2 ^ (64 * n)) : bor a b n = if a < b then 1 else 0 := by
  unfold bor
  rw [Nat.mod_eq_of_lt ha, Nat.mod_eq_of_lt hb]
/-- The difference's digits, where there is one. -/
theorem dg_sub_ge {a b : Nat} (n i : Nat) (ha : a < 2 ^ (64 * n)) (h : b ≤ a) (hi : i < n) : dg (a + 2 ^ (64 * n) - b) i = dg (a - b) i := by
  rw [← dg_modW n _ i hi, show a + 2 ^ (64 * n) - b = (a - b) + 2 ^ (64 * n) by omega, Nat.add_mod_right, dg_modW n _ i hi]
end Go.Proofs.YtfchmikbebdflaaGreatDoor
