/-
  Magnitudes by their digits to the base 2^64: plain laws on numbers. No condition besides those that stand in each theorem.
-/
namespace Go.Proofs.YtfgdichdddknlaaDoor

/-- Digit number i of n to the base 2^64. -/
def dg (n i : Nat) : Int := ((n / 2 ^ (64 * i) % 18446744073709551616 : Nat) : Int)
theorem dg_nonneg (n i : Nat) : 0 ≤ dg n i := by unfold dg; omega
theorem dg_lt (n i : Nat) : dg n i < 18446744073709551616 := by unfold dg; omega
theorem dg_zero (i : Nat) : dg 0 i = 0 := by simp [dg]

/-- The number of four digits. -/
def mg (a0 a1 a2 a3 : Int) : Nat := (a0 + 18446744073709551616 * (a1 + 18446744073709551616 * (a2 + 18446744073709551616 * a3))).toNat

theorem pow0 : (2 : Nat) ^ (64 * 0) = 1 := by decide
theorem pow1 : (2 : Nat) ^ (64 * 1) = 18446744073709551616 := by decide
theorem pow2 : (2 : Nat) ^ (64 * 2) = 18446744073709551616 * 18446744073709551616 := by decide
theorem pow3 : (2 : Nat) ^ (64 * 3) = 18446744073709551616 * (18446744073709551616 * 18446744073709551616) := by decide
theorem pow4 : (2 : Nat) ^ 256 = 18446744073709551616 * (18446744073709551616 * (18446744073709551616 * 18446744073709551616)) := by decide

theorem mg_lt {a0 a1 a2 a3 : Int} (h0 : 0 ≤ a0) (h1 : 0 ≤ a1) (h2 : 0 ≤ a2) (h3 : 0 ≤ a3) (l0 : a0 < 18446744073709551616) (l1 : a1 < 18446744073709551616) (l2 : a2 < 18446744073709551616) (l3 : a3 < 18446744073709551616) :
    mg a0 a1 a2 a3 < 2 ^ 256 := by
  unfold mg; rw [pow4]; omega
theorem dg_mg {a0 a1 a2 a3 : Int} (h0 : 0 ≤ a0) (h1 : 0 ≤ a1) (h2 : 0 ≤ a2) (h3 : 0 ≤ a3) (l0 : a0 < 18446744073709551616) (l1 : a1 < 18446744073709551616) (l2 : a2 < 18446744073709551616) (l3 : a3 < 18446744073709551616) :
    dg (mg a0 a1 a2 a3) 0 = a0 ∧ dg (mg a0 a1 a2 a3) 1 = a1 ∧ dg (mg a0 a1 a2 a3) 2 = a2 ∧ dg (mg a0 a1 a2 a3) 3 = a3 := by
  unfold dg mg
  rw [pow0, pow1, pow2, pow3, ← Nat.div_div_eq_div_mul, ← Nat.div_div_eq_div_mul, ← Nat.div_div_eq_div_mul]
  omega
/-- A number is that of its digits. -/
theorem mg_dg {n : Nat} (h : n < 2 ^ 256) : mg (dg n 0) (dg n 1) (dg n 2) (dg n 3) = n := by
  unfold dg mg
  rw [pow4] at h
  rw [pow0, pow1, pow2, pow3, ← Nat.div_div_eq_div_mul, ← Nat.div_div_eq_div_mul, ← Nat.div_div_eq_div_mul]
  omega
theorem dg_eq_zero {n : Nat} (h : n < 2 ^ 256) : (dg n 0 = 0 ∧ dg n 1 = 0 ∧ dg n 2 = 0 ∧ dg n 3 = 0) ↔ n = 0 := by
  constructor
  · rintro ⟨h0, h1, h2, h3⟩
    have := mg_dg h
    rw [h0, h1, h2, h3] at this
    rw [← this]; rfl
  · rintro rfl
    simp [dg_zero]
theorem dg_inj {n m : Nat} (h : n < 2 ^ 256) (k : m < 2 ^ 256) (h0 : dg n 0 = dg m 0) (h1 : dg n 1 = dg m 1) (h2 : dg n 2 = dg m 2) (h3 : dg n 3 = dg m 3) : n = m := by
  rw [← mg_dg h, ← mg_dg k, h0, h1, h2, h3]

/-! ### Sums, digit by digit -/
/-- What is carried into digit i. -/
def car (a b i : Nat) : Nat := (a % 2 ^ (64 * i) + b % 2 ^ (64 * i)) / 2 ^ (64 * i)
theorem car_zero (a b : Nat) : car a b 0 = 0 := by simp [car, Nat.mod_one]
theorem car_le (a b i : Nat) : car a b i ≤ 1 := by
  unfold car
  have hp : 0 < 2 ^ (64 * i) := Nat.two_pow_pos _
  have h1 := Nat.mod_lt a hp
  have h2 := Nat.mod_lt b hp
  apply Nat.le_of_lt_succ
  rw [Nat.div_lt_iff_lt_mul hp]
  omega
theorem split_at (a p : Nat) : a = p * (a / p) + a % p := (Nat.div_add_mod a p).symm
theorem mod_step (a p q : Nat) : a % (p * q) = p * (a / p % q) + a % p := by rw [Nat.mod_mul]; omega
theorem sum_div (a b p : Nat) : (a + b) / p = a / p + b / p + (a % p + b % p) / p := by
  rcases Nat.eq_zero_or_pos p with rfl | hp
  · simp
  have h : a + b = (a % p + b % p) + p * (a / p + b / p) := by
    have h1 := split_at a p
    have h2 := split_at b p
    rw [Nat.mul_add]; omega
  rw [h, Nat.add_mul_div_left _ _ hp]; omega
theorem pow_step (i : Nat) : 2 ^ (64 * (i + 1)) = 2 ^ (64 * i) * 18446744073709551616 := by rw [Nat.mul_add, Nat.pow_add]
/-- A digit of a sum, and the carry. -/
theorem dg_add (a b i : Nat) : ((dg a i).toNat + (dg b i).toNat + car a b i) % 18446744073709551616 = (dg (a + b) i).toNat ∧ ((dg a i).toNat + (dg b i).toNat + car a b i) / 18446744073709551616 = car a b (i + 1) := by
  have ha : (dg a i).toNat = a / 2 ^ (64 * i) % 18446744073709551616 := by unfold dg; omega
  have hb : (dg b i).toNat = b / 2 ^ (64 * i) % 18446744073709551616 := by unfold dg; omega
  have hab : (dg (a + b) i).toNat = (a + b) / 2 ^ (64 * i) % 18446744073709551616 := by unfold dg; omega
  rw [ha, hb, hab]
  constructor
  · rw [sum_div a b (2 ^ (64 * i))]
    show _ = (a / 2 ^ (64 * i) + b / 2 ^ (64 * i) + car a b i) % 18446744073709551616
    omega
  · have hp : 0 < 2 ^ (64 * i) := Nat.two_pow_pos _
    unfold car
    rw [pow_step, mod_step a, mod_step b, ← Nat.div_div_eq_div_mul]
    congr 1
    have : 2 ^ (64 * i) * (a / 2 ^ (64 * i) % 18446744073709551616) + a % 2 ^ (64 * i) + (2 ^ (64 * i) * (b / 2 ^ (64 * i) % 18446744073709551616) + b % 2 ^ (64 * i)) =
      (a % 2 ^ (64 * i) + b % 2 ^ (64 * i)) + 2 ^ (64 * i) * (a / 2 ^ (64 * i) % 18446744073709551616 + b / 2 ^ (64 * i) % 18446744073709551616) := by rw [Nat.mul_add]; omega
    rw [this, Nat.add_mul_div_left _ _ hp]
    omega
theorem car_last {a b : Nat} (ha : a < 2 ^ 256) (hb : b < 2 ^ 256) : car a b 4 = 0 ↔ a + b < 2 ^ 256 := by
  unfold car
  rw [show (64 * 4) = 256 from rfl, Nat.mod_eq_of_lt ha, Nat.mod_eq_of_lt hb, Nat.div_eq_zero_iff]
  have : (2 : Nat) ^ 256 ≠ 0 := by decide
  constructor
  · rintro (h | h)
    · exact absurd h this
    · exact h
  · exact .inr
theorem dg_mod (a i : Nat) (h : i < 4) : dg (a % 2 ^ 256) i = dg a i := by
  unfold dg
  have h2 : (2 : Nat) ^ 256 = 2 ^ (64 * i) * (18446744073709551616 * 2 ^ (64 * (3 - i))) := by
    rw [show 18446744073709551616 = 2 ^ 64 from by decide, ← Nat.pow_add, ← Nat.pow_add]; congr 1; omega
  rw [h2, Nat.mod_mul_right_div_self, Nat.mod_mul_right_mod]
end Go.Proofs.YtfgdichdddknlaaDoor
