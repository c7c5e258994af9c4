/-
  Plain laws on numbers: a magnitude halved till it is odd, the greatest that divides both by halving, a quotient bit by bit. Conditions stand in each theorem.
-/
import Derived.Test.YtfchmikbebdflaaGreatDoorWe1
import Derived.Test.YtfchmikbebdflaaGreatDoorWe2
namespace Go.Proofs.YtfchmikbebdflaaGreatDoor
open Go.RowKit Go.BigFrame

theorem mod_up {a k : Nat} (h : a % 2 ^ (64 * k) = 0) (hd : dg a k = 0) : a % 2 ^ (64 * (k + 1)) = 0 := by
  rw [pow_step, mod_step, h]
  have := dg_toNat a k
  rw [hd] at this
  rw [← this]
  rfl
theorem mod_one_zero (a : Nat) : a % 2 ^ (64 * 0) = 0 := by simp [Nat.mod_one]
theorem ctz_lt {x : Nat} (h0 : 0 < x) (h : x < 18446744073709551616) : Lib.ctz 64 x < 64 := by
  unfold Lib.ctz
  rw [if_neg (by omega)]
  obtain ⟨m, _, h⟩ := Lib.ctzFrom_spec 64 x h0 h
  exact h

end Go.Proofs.YtfchmikbebdflaaGreatDoor

namespace Go.Proofs.YtfchmikbebdflaaGreatDoor

/-- A magnitude halved till it is odd. -/
def od (n : Nat) : Nat := n / 2 ^ tz n
theorem od_zero : od 0 = 0 := Nat.zero_div _
theorem od_le (n : Nat) : od n ≤ n := Nat.div_le_self _ _
theorem od_spec {n : Nat} (e : Nat) (he : e = 576) (h0 : 0 < n) (h : n < 2 ^ e) : (∃ m, od n = 2 * m + 1) ∧ n = 2 ^ tz n * od n ∧ tz n < 576 := by
  obtain ⟨m, hm, hl⟩ := tz_spec e he h0 h
  have h1 : od n = 2 * m + 1 := by
    unfold od
    rw [Nat.div_eq_iff_eq_mul_left (Nat.two_pow_pos _) ⟨_, hm⟩, Nat.mul_comm]
    exact hm
  exact ⟨⟨m, h1⟩, by rw [h1]; exact hm, hl⟩
theorem cop_two (k m : Nat) : Nat.Coprime (2 ^ k) (2 * m + 1) := by
  refine Nat.Coprime.pow_left k ?_
  unfold Nat.Coprime
  rw [Nat.gcd_rec, show (2 * m + 1) % 2 = 1 from by omega]
  rfl
theorem gcd_od {a b m : Nat} (hb : b = 2 * m + 1) (e : Nat) (he : e = 576) (h0 : 0 < a) (h : a < 2 ^ e) : Nat.gcd (od a) b = Nat.gcd a b := by
  obtain ⟨_, h1, _⟩ := od_spec e he h0 h
  have h2 : Nat.gcd (2 ^ tz a * od a) b = Nat.gcd (od a) b := Nat.Coprime.gcd_mul_left_cancel _ (by rw [hb]; exact cop_two _ _)
  rw [← h1] at h2
  exact h2.symm
theorem gcd_step {a b m : Nat} (hb : b = 2 * m + 1) (e : Nat) (he : e = 576) (h : b < a) (ha : a < 2 ^ e) : Nat.gcd (od (a - b)) b = Nat.gcd a b := by
  rw [gcd_od hb e he (by omega) (by omega)]
  exact Nat.gcd_sub_self_left (Nat.le_of_lt h)
theorem gcd_pows {i j x y : Nat} (hx : ∃ m, x = 2 * m + 1) (h : i ≤ j) : Nat.gcd (2 ^ i * x) (2 ^ j * y) = 2 ^ i * Nat.gcd x y := by
  obtain ⟨m, rfl⟩ := hx
  obtain ⟨d, rfl⟩ : ∃ d, j = i + d := ⟨j - i, by omega⟩
  rw [Nat.pow_add, Nat.mul_assoc, Nat.gcd_mul_left]
  congr 1
  rw [Nat.gcd_comm, Nat.Coprime.gcd_mul_left_cancel _ (cop_two d m), Nat.gcd_comm]
theorem gcd_twos {a b : Nat} (e : Nat) (he : e = 576) (ha0 : 0 < a) (hb0 : 0 < b) (ha : a < 2 ^ e) (hb : b < 2 ^ e) : Nat.gcd (od a) (od b) * 2 ^ (min (tz a) (tz b)) = Nat.gcd a b := by
  obtain ⟨ha1, ha2, _⟩ := od_spec e he ha0 ha
  obtain ⟨hb1, hb2, _⟩ := od_spec e he hb0 hb
  rcases Nat.le_total (tz a) (tz b) with h | h
  · rw [Nat.min_eq_left h]
    have := gcd_pows (y := od b) ha1 h
    rw [← ha2, ← hb2] at this
    rw [this, Nat.mul_comm]
  · rw [Nat.min_eq_right h]
    have := gcd_pows (y := od a) hb1 h
    rw [← ha2, ← hb2] at this
    rw [Nat.gcd_comm a b, this, Nat.mul_comm, Nat.gcd_comm]

/-! ### A quotient, bit by bit -/
theorem half_up (a i : Nat) : a / 2 ^ i = 2 * (a / 2 ^ (i + 1)) + a / 2 ^ i % 2 := by
  rw [Nat.pow_succ, ← Nat.div_div_eq_div_mul]
  omega
theorem div_up {A b bit r : Nat} (hb : 0 < b) (hbit : bit ≤ 1) (hr : r = A % b) :
    (b ≤ 2 * r + bit → (2 * A + bit) / b = 2 * (A / b) + 1 ∧ (2 * A + bit) % b = 2 * r + bit - b) ∧
    (2 * r + bit < b → (2 * A + bit) / b = 2 * (A / b) ∧ (2 * A + bit) % b = 2 * r + bit) := by
  have hA := Nat.div_add_mod A b
  have hlt := Nat.mod_lt A hb
  rw [← hr] at hA hlt
  generalize A / b = q at hA ⊢
  clear hr
  subst hA
  constructor
  · intro h
    have e : 2 * (b * q + r) + bit = (2 * r + bit - b) + b * (2 * q + 1) := by rw [Nat.mul_add b, Nat.mul_one, Nat.mul_left_comm b 2 q]; omega
    rw [e, Nat.add_mul_div_left _ _ hb, Nat.add_mul_mod_self_left, Nat.div_eq_of_lt (by omega), Nat.mod_eq_of_lt (by omega)]
    exact ⟨by omega, rfl⟩
  · intro h
    have e : 2 * (b * q + r) + bit = (2 * r + bit) + b * (2 * q) := by rw [Nat.mul_left_comm b 2 q]; omega
    rw [e, Nat.add_mul_div_left _ _ hb, Nat.add_mul_mod_self_left, Nat.div_eq_of_lt h, Nat.mod_eq_of_lt h]
    exact ⟨by omega, rfl⟩
theorem dg_bit (a q r : Nat) (hr : r < 64) : ((dg a q).toNat / 2 ^ r) % 2 = a / 2 ^ (64 * q + r) % 2 := by
  rw [dg_toNat, Nat.pow_add, ← Nat.div_div_eq_div_mul]
  generalize a / 2 ^ (64 * q) = A
  have h : 18446744073709551616 = 2 ^ r * (2 * 2 ^ (63 - r)) := by
    rw [← Nat.pow_succ', ← Nat.pow_add, show r + (63 - r).succ = 64 from by omega]
  rw [h, Nat.mod_mul_right_div_self, Nat.mod_mul_right_mod]
theorem dg_or (a b k : Nat) : dg (a ||| b) k = (((dg a k).toNat ||| (dg b k).toNat : Nat) : Int) := by
  rw [dg_toNat, dg_toNat]
  unfold dg
  congr 1
  rw [← Nat.shiftRight_eq_div_pow, ← Nat.shiftRight_eq_div_pow, ← Nat.shiftRight_eq_div_pow, Nat.shiftRight_or_distrib]
  exact Nat.or_mod_two_pow (n := 64)
theorem dg_wordk {b : Nat} (hb : b < 18446744073709551616) (k : Nat) : dg b k = if k = 0 then (b : Int) else 0 := by
  unfold dg
  split
  · rename_i h; subst h; rw [Nat.mul_zero, Nat.pow_zero, Nat.div_one, Nat.mod_eq_of_lt hb]
  · rename_i h
    have h2 : 2 ^ 64 ≤ 2 ^ (64 * k) := Nat.pow_le_pow_right (by decide) (by omega)
    rw [Nat.div_eq_of_lt (by omega)]; rfl
theorem dg_pow (q r : Nat) (hr : r < 64) (k : Nat) : dg (2 ^ (64 * q + r)) k = if k = q then ((2 ^ r : Nat) : Int) else 0 := by
  have hlt : 2 ^ r < 18446744073709551616 := Nat.pow_lt_pow_right (a := 2) (by decide) hr
  unfold dg
  by_cases h : k = q
  · subst h
    rw [if_pos rfl, Nat.pow_add, Nat.mul_comm, Nat.mul_div_cancel _ (Nat.two_pow_pos _), Nat.mod_eq_of_lt hlt]
  · rw [if_neg h]
    rcases Nat.lt_or_ge k q with h1 | h1
    · obtain ⟨d, rfl⟩ : ∃ d, q = k + (d + 1) := ⟨q - k - 1, by omega⟩
      have e : 2 ^ (64 * (k + (d + 1)) + r) = 2 ^ (64 * k) * (18446744073709551616 * 2 ^ (64 * d + r)) := by
        rw [show 18446744073709551616 = 2 ^ 64 from by decide, ← Nat.pow_add, ← Nat.pow_add]; congr 1; omega
      rw [e, Nat.mul_div_cancel_left _ (Nat.two_pow_pos _), Nat.mul_mod_right]; rfl
    · have h2 : 2 ^ (64 * q + r) < 2 ^ (64 * k) := Nat.pow_lt_pow_right (by decide) (by omega)
      rw [Nat.div_eq_of_lt h2]; rfl
/-- One bit more below a magnitude that is a multiple. -/
theorem add_or (x i b : Nat) (hb : b < 2 ^ i) : x * 2 ^ i + b = x * 2 ^ i ||| b := by
  rw [Nat.mul_comm]
  exact Nat.two_pow_add_eq_or_of_lt hb x
theorem dg_add_bit (r bit k : Nat) (hbit : bit ≤ 1) : dg (r + r + bit) k = if k = 0 then (((dg (r + r) 0).toNat ||| bit : Nat) : Int) else dg (r + r) k := by
  have h := add_or r 1 bit (by omega)
  rw [show r * 2 ^ 1 = r + r from by omega] at h
  rw [h, dg_or, dg_wordk (b := bit) (by omega)]
  split
  · rename_i h; subst h; rfl
  · rename_i h; have := dg_nonneg (r + r) k; rw [show (0 : Int).toNat = 0 from rfl, Nat.or_zero]; omega
theorem dg_add_pow (Q q r k : Nat) (hr : r < 64) : dg (Q * 2 ^ (64 * q + r + 1) + 2 ^ (64 * q + r)) k = if k = q then (((dg (Q * 2 ^ (64 * q + r + 1)) q).toNat ||| 2 ^ r : Nat) : Int) else dg (Q * 2 ^ (64 * q + r + 1)) k := by
  rw [add_or _ _ _ (Nat.pow_lt_pow_right (by decide) (by omega)), dg_or, dg_pow q r hr]
  split
  · rename_i h; subst h; rfl
  · rename_i h; have := dg_nonneg (Q * 2 ^ (64 * q + r + 1)) k; rw [show (0 : Int).toNat = 0 from rfl, Nat.or_zero]; omega
end Go.Proofs.YtfchmikbebdflaaGreatDoor
