/-
  Wide magnitudes (nine digits): plain laws on numbers. No condition besides those that stand in each theorem.
-/
import Derived.Test.YtfgdichdddknlaaDoorLm0
namespace Go.Proofs.YtfgdichdddknlaaDoor

theorem dg_toNat (n i : Nat) : (dg n i).toNat = n / 2 ^ (64 * i) % 18446744073709551616 := by unfold dg; omega

/-! ### Differences -/
def lessN (a b : Nat) : Nat := (a + 2 ^ 256 - b) % 2 ^ 256
theorem lessN_lt (a b : Nat) : lessN a b < 2 ^ 256 := Nat.mod_lt _ (Nat.two_pow_pos _)
theorem lessN_eq {a b : Nat} (ha : a < 2 ^ 256) (h : b ≤ a) : lessN a b = a - b := by
  unfold lessN
  rw [show a + 2 ^ 256 - b = (a - b) + 2 ^ 256 by omega, Nat.add_mod_right, Nat.mod_eq_of_lt (by omega)]
/-- What is borrowed at digit i. -/
def bor (a b i : Nat) : Nat := if a % 2 ^ (64 * i) < b % 2 ^ (64 * i) then 1 else 0
theorem bor_zero (a b : Nat) : bor a b 0 = 0 := by simp [bor, Nat.mod_one]
theorem bor_le (a b i : Nat) : bor a b i ≤ 1 := by unfold bor; split <;> omega
theorem dg_less (a b i : Nat) (hb : b < 2 ^ 256) (hi : i < 4) :
    ((dg a i).toNat + 18446744073709551616 - (dg b i).toNat - bor a b i) % 18446744073709551616 = (dg (lessN a b) i).toNat ∧ (if (dg a i).toNat < (dg b i).toNat + bor a b i then 1 else 0) = bor a b (i + 1) := by
  have hp : 0 < 2 ^ (64 * i) := Nat.two_pow_pos _
  have hlt : (dg b i).toNat < 18446744073709551616 := by rw [dg_toNat]; omega
  have hlta : (dg a i).toNat < 18446744073709551616 := by rw [dg_toNat]; omega
  constructor
  · have h1 : dg (lessN a b) i = dg (a + 2 ^ 256 - b) i := dg_mod _ _ hi
    rw [h1, dg_toNat (a + 2 ^ 256 - b)]
    obtain ⟨m, hm⟩ : ∃ m, 2 ^ 256 = 2 ^ (64 * i) * (18446744073709551616 * m) := ⟨2 ^ (64 * (3 - i)), by
      rw [show 18446744073709551616 = 2 ^ 64 from by decide, ← Nat.pow_add, ← Nat.pow_add]; congr 1; omega⟩
    have hbs : b / 2 ^ (64 * i) < 18446744073709551616 * m := by
      rw [Nat.div_lt_iff_lt_mul hp, Nat.mul_comm, ← hm]; exact hb
    have key : (a + 2 ^ 256 - b) / 2 ^ (64 * i) = a / 2 ^ (64 * i) + 18446744073709551616 * m - b / 2 ^ (64 * i) - bor a b i := by
      have ha := split_at a (2 ^ (64 * i))
      have hb' := split_at b (2 ^ (64 * i))
      have hra := Nat.mod_lt a hp
      have hrb := Nat.mod_lt b hp
      rw [hm]
      unfold bor
      generalize 2 ^ (64 * i) = p at *
      generalize hA : a / p = A at *
      generalize hR : a % p = R at *
      generalize hB : b / p = B at *
      generalize hS : b % p = S at *
      rw [Nat.div_eq_iff hp]
      have e1 : p * (18446744073709551616 * m) = p * B + p * (18446744073709551616 * m - B) := by rw [← Nat.mul_add]; congr 1; omega
      have hposm : 1 ≤ 18446744073709551616 * m - B := by omega
      split
      · have e2 : (A + 18446744073709551616 * m - B - 1) * p + p = p * A + p * (18446744073709551616 * m - B) := by
          rw [← Nat.mul_add, ← Nat.succ_mul, Nat.mul_comm]; congr 1; omega
        have hpp : p ≤ p * (18446744073709551616 * m - B) := Nat.le_mul_of_pos_right _ hposm
        omega
      · have e2 : (A + 18446744073709551616 * m - B - 0) * p = p * A + p * (18446744073709551616 * m - B) := by
          rw [← Nat.mul_add, Nat.mul_comm]; congr 1; omega
        omega
    rw [key, dg_toNat, dg_toNat]
    have h2 := bor_le a b i
    clear key hlt hlta h1 hm hp
    generalize a / 2 ^ (64 * i) = A at *
    generalize b / 2 ^ (64 * i) = B at *
    omega
  · unfold bor
    rw [pow_step, mod_step a, mod_step b, dg_toNat, dg_toNat]
    have hra := Nat.mod_lt a hp
    have hrb := Nat.mod_lt b hp
    generalize a / 2 ^ (64 * i) % 18446744073709551616 = x
    generalize b / 2 ^ (64 * i) % 18446744073709551616 = y
    generalize a % 2 ^ (64 * i) = r at *
    generalize b % 2 ^ (64 * i) = s at *
    generalize 2 ^ (64 * i) = p at *
    rcases Nat.lt_trichotomy x y with h | h | h
    · have : p * x + p ≤ p * y := by rw [← Nat.mul_succ]; exact Nat.mul_le_mul_left _ h
      rw [if_pos (by split <;> omega), if_pos (by omega)]
    · subst h
      split <;> rename_i h1 <;> (try split) <;> first | omega | (rw [if_pos (by omega)]) | (rw [if_neg (by omega)]) | skip
      all_goals first | omega | rfl
    · have : p * y + p ≤ p * x := by rw [← Nat.mul_succ]; exact Nat.mul_le_mul_left _ h
      rw [if_neg (by split <;> omega), if_neg (by omega)]

/-! ### The order -/
def cmpN (a b : Nat) : Int := if a < b then -1 else if a = b then 0 else 1
theorem cmp_step (a b i : Nat) : cmpN (a % 2 ^ (64 * (i + 1))) (b % 2 ^ (64 * (i + 1))) =
    (if dg a i < dg b i then -1 else if dg a i > dg b i then 1 else cmpN (a % 2 ^ (64 * i)) (b % 2 ^ (64 * i))) := by
  have hp : 0 < 2 ^ (64 * i) := Nat.two_pow_pos _
  have hra := Nat.mod_lt a hp
  have hrb := Nat.mod_lt b hp
  unfold cmpN dg
  rw [pow_step, mod_step a, mod_step b]
  generalize a / 2 ^ (64 * i) % 18446744073709551616 = x
  generalize b / 2 ^ (64 * i) % 18446744073709551616 = y
  generalize a % 2 ^ (64 * i) = r at *
  generalize b % 2 ^ (64 * i) = s at *
  generalize 2 ^ (64 * i) = p at *
  rcases Nat.lt_trichotomy x y with h | h | h
  · have : p * x + p ≤ p * y := by rw [← Nat.mul_succ]; exact Nat.mul_le_mul_left _ h
    rw [if_pos (by omega), if_pos (by omega)]
  · subst h
    rw [if_neg (by omega : ¬ ((x : Int) < x)), if_neg (by omega : ¬ ((x : Int) > x))]
    by_cases h1 : r < s
    · rw [if_pos (by omega), if_pos h1]
    · rw [if_neg (by omega), if_neg h1]
      by_cases h2 : r = s
      · rw [if_pos (by omega), if_pos h2]
      · rw [if_neg (by omega), if_neg h2]
  · have : p * y + p ≤ p * x := by rw [← Nat.mul_succ]; exact Nat.mul_le_mul_left _ h
    rw [if_neg (by omega), if_neg (by omega), if_neg (by omega), if_pos (by omega)]
theorem cmp_zero (a b : Nat) : cmpN (a % 2 ^ (64 * 0)) (b % 2 ^ (64 * 0)) = 0 := by simp [cmpN, Nat.mod_one]
theorem cmp_full {a b : Nat} (ha : a < 2 ^ 256) (hb : b < 2 ^ 256) : cmpN (a % 2 ^ (64 * 4)) (b % 2 ^ (64 * 4)) = cmpN a b := by
  rw [show 64 * 4 = 256 from rfl, Nat.mod_eq_of_lt ha, Nat.mod_eq_of_lt hb]
theorem cmp_range (a b : Nat) : -1 ≤ cmpN a b ∧ cmpN a b ≤ 1 := by unfold cmpN; split <;> (try split) <;> omega

/-! ### Bits and doubles -/
def bitN (a i : Nat) : Nat := a / 2 ^ i % 2
theorem bitN_le (a i : Nat) : bitN a i ≤ 1 := by unfold bitN; omega
def dblN (a c : Nat) : Nat := (2 * a + c) % 2 ^ 256
theorem dblN_lt (a c : Nat) : dblN a c < 2 ^ 256 := Nat.mod_lt _ (Nat.two_pow_pos _)
/-- The bit that goes over from digit i - 1 to digit i. -/
def ovr (a c i : Nat) : Nat := (2 * (a % 2 ^ (64 * i)) + c) / 2 ^ (64 * i)
theorem ovr_zero (a c : Nat) : ovr a c 0 = c := by simp [ovr, Nat.mod_one]
theorem ovr_le {a c : Nat} (hc : c ≤ 1) (i : Nat) : ovr a c i ≤ 1 := by
  unfold ovr
  have hp : 0 < 2 ^ (64 * i) := Nat.two_pow_pos _
  have h1 := Nat.mod_lt a hp
  apply Nat.le_of_lt_succ
  rw [Nat.div_lt_iff_lt_mul hp]
  omega
theorem dg_dbl (a c i : Nat) (hi : i < 4) : (2 * (dg a i).toNat + ovr a c i) % 18446744073709551616 = (dg (dblN a c) i).toNat ∧ (2 * (dg a i).toNat + ovr a c i) / 18446744073709551616 = ovr a c (i + 1) := by
  have hp : 0 < 2 ^ (64 * i) := Nat.two_pow_pos _
  have h1 : dg (dblN a c) i = dg (2 * a + c) i := dg_mod _ _ hi
  rw [h1, dg_toNat, dg_toNat]
  have ha := split_at a (2 ^ (64 * i))
  have key : (2 * a + c) / 2 ^ (64 * i) = 2 * (a / 2 ^ (64 * i)) + ovr a c i := by
    unfold ovr
    have : 2 * a + c = (2 * (a % 2 ^ (64 * i)) + c) + 2 ^ (64 * i) * (2 * (a / 2 ^ (64 * i))) := by
      rw [Nat.mul_left_comm]; omega
    rw [this, Nat.add_mul_div_left _ _ hp]; omega
  constructor
  · rw [key]; omega
  · show _ = (2 * (a % 2 ^ (64 * (i + 1))) + c) / 2 ^ (64 * (i + 1))
    rw [pow_step, mod_step a, ← Nat.div_div_eq_div_mul]
    congr 1
    unfold ovr
    have : 2 * (2 ^ (64 * i) * (a / 2 ^ (64 * i) % 18446744073709551616) + a % 2 ^ (64 * i)) + c = (2 * (a % 2 ^ (64 * i)) + c) + 2 ^ (64 * i) * (2 * (a / 2 ^ (64 * i) % 18446744073709551616)) := by
      rw [Nat.mul_left_comm (2 ^ (64 * i)) 2]; omega
    rw [this, Nat.add_mul_div_left _ _ hp]; omega
theorem ovr_last {a : Nat} (c : Nat) (ha : a < 2 ^ 256) : ovr a c 4 = (2 * a + c) / 2 ^ 256 := by
  unfold ovr
  rw [show 64 * 4 = 256 from rfl, Nat.mod_eq_of_lt ha]
/-- A bit out of its digit. -/
theorem bit_dg (a i : Nat) : (dg a (i / 64)).toNat / 2 ^ (i % 64) % 2 = bitN a i := by
  rw [dg_toNat]
  unfold bitN
  have h : (18446744073709551616 : Nat) = 2 ^ (i % 64) * (2 * 2 ^ (63 - i % 64)) := by
    rw [show (18446744073709551616 : Nat) = 2 ^ 64 from by decide, ← Nat.pow_succ', ← Nat.pow_add]; congr 1; omega
  have h2 : a / 2 ^ i = a / 2 ^ (64 * (i / 64)) / 2 ^ (i % 64) := by
    rw [Nat.div_div_eq_div_mul, ← Nat.pow_add]; congr 2; omega
  rw [h2]
  generalize a / 2 ^ (64 * (i / 64)) = x
  rw [h, Nat.mod_mul_right_div_self, Nat.mod_mul_right_mod]
end Go.Proofs.YtfgdichdddknlaaDoor

namespace Go.Proofs.YtfgdichdddknlaaDoor

/-- A difference of n digits, digit by digit. -/
theorem dg_lessW (n a b i : Nat) (hb : b < 2 ^ (64 * n)) (hi : i < n) :
    ((dg a i).toNat + 18446744073709551616 - (dg b i).toNat - bor a b i) % 18446744073709551616 = (dg (a + 2 ^ (64 * n) - b) i).toNat ∧ (if (dg a i).toNat < (dg b i).toNat + bor a b i then 1 else 0) = bor a b (i + 1) := by
  have hp : 0 < 2 ^ (64 * i) := Nat.two_pow_pos _
  have hlt : (dg b i).toNat < 18446744073709551616 := by rw [dg_toNat]; omega
  have hlta : (dg a i).toNat < 18446744073709551616 := by rw [dg_toNat]; omega
  constructor
  · rw [dg_toNat (a + 2 ^ (64 * n) - b)]
    obtain ⟨m, hm⟩ : ∃ m, 2 ^ (64 * n) = 2 ^ (64 * i) * (18446744073709551616 * m) := ⟨2 ^ (64 * (n - 1 - i)), by
      rw [show 18446744073709551616 = 2 ^ 64 from by decide, ← Nat.pow_add, ← Nat.pow_add]; congr 1; omega⟩
    have hbs : b / 2 ^ (64 * i) < 18446744073709551616 * m := by
      rw [Nat.div_lt_iff_lt_mul hp, Nat.mul_comm, ← hm]; exact hb
    have key : (a + 2 ^ (64 * n) - b) / 2 ^ (64 * i) = a / 2 ^ (64 * i) + 18446744073709551616 * m - b / 2 ^ (64 * i) - bor a b i := by
      have ha := split_at a (2 ^ (64 * i))
      have hb' := split_at b (2 ^ (64 * i))
      have hra := Nat.mod_lt a hp
      have hrb := Nat.mod_lt b hp
      rw [hm]
      unfold bor
      generalize 2 ^ (64 * i) = p at *
      generalize hA : a / p = A at *
      generalize hR : a % p = R at *
      generalize hB : b / p = B at *
      generalize hS : b % p = S at *
      rw [Nat.div_eq_iff hp]
      have e1 : p * (18446744073709551616 * m) = p * B + p * (18446744073709551616 * m - B) := by rw [← Nat.mul_add]; congr 1; omega
      have hposm : 1 ≤ 18446744073709551616 * m - B := by omega
      split
      · have e2 : (A + 18446744073709551616 * m - B - 1) * p + p = p * A + p * (18446744073709551616 * m - B) := by
          rw [← Nat.mul_add, ← Nat.succ_mul, Nat.mul_comm]; congr 1; omega
        have hpp : p ≤ p * (18446744073709551616 * m - B) := Nat.le_mul_of_pos_right _ hposm
        omega
      · have e2 : (A + 18446744073709551616 * m - B - 0) * p = p * A + p * (18446744073709551616 * m - B) := by
          rw [← Nat.mul_add, Nat.mul_comm]; congr 1; omega
        omega
    rw [key, dg_toNat, dg_toNat]
    have h2 := bor_le a b i
    clear key hlt hlta hm hp
    generalize a / 2 ^ (64 * i) = A at *
    generalize b / 2 ^ (64 * i) = B at *
    omega
  · unfold bor
    rw [pow_step, mod_step a, mod_step b, dg_toNat, dg_toNat]
    have hra := Nat.mod_lt a hp
    have hrb := Nat.mod_lt b hp
    generalize a / 2 ^ (64 * i) % 18446744073709551616 = x
    generalize b / 2 ^ (64 * i) % 18446744073709551616 = y
    generalize a % 2 ^ (64 * i) = r at *
    generalize b % 2 ^ (64 * i) = s at *
    generalize 2 ^ (64 * i) = p at *
    rcases Nat.lt_trichotomy x y with h | h | h
    · have : p * x + p ≤ p * y := by rw [← Nat.mul_succ]; exact Nat.mul_le_mul_left _ h
      rw [if_pos (by split <;> omega), if_pos (by omega)]
    · subst h
      split <;> rename_i h1 <;> (try split) <;> first | omega | (rw [if_pos (by omega)]) | (rw [if_neg (by omega)]) | skip
      all_goals first | omega | rfl
    · have : p * y + p ≤ p * x := by rw [← Nat.mul_succ]; exact Nat.mul_le_mul_left _ h
      rw [if_neg (by split <;> omega), if_neg (by omega)]
/-- Digits below n do not see what is beyond. -/
theorem dg_modW (n a i : Nat) (hi : i < n) : dg (a % 2 ^ (64 * n)) i = dg a i := by
  unfold dg
  congr 1
  have h : 2 ^ (64 * n) = 2 ^ (64 * i) * (18446744073709551616 * 2 ^ (64 * (n - 1 - i))) := by
    rw [show 18446744073709551616 = 2 ^ 64 from by decide, ← Nat.pow_add, ← Nat.pow_add]; congr 1; omega
  rw [h, Nat.mod_mul_right_div_self, Nat.mod_mul_right_mod]
theorem bor_end {a b : Nat} (n : Nat) (ha : a < 2 ^ (64 * n)) (hb : b < 2 ^ (64 * n)) : bor a b n = if a < b then 1 else 0 := by
  unfold bor
  rw [Nat.mod_eq_of_lt ha, Nat.mod_eq_of_lt hb]
/-- The difference's digits, where there is one. -/
theorem dg_sub_ge {a b : Nat} (n i : Nat) (ha : a < 2 ^ (64 * n)) (h : b ≤ a) (hi : i < n) : dg (a + 2 ^ (64 * n) - b) i = dg (a - b) i := by
  rw [← dg_modW n _ i hi, show a + 2 ^ (64 * n) - b = (a - b) + 2 ^ (64 * n) by omega, Nat.add_mod_right, dg_modW n _ i hi]
end Go.Proofs.YtfgdichdddknlaaDoor
