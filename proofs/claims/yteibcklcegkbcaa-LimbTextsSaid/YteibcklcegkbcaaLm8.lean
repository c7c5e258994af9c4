/-
  Walks: math/bits.Mul64; the product of magnitudes. Conditions stand in each theorem.
-/
import Derived.Test.YteibcklcegkbcaaLm7
namespace Go.Proofs.Yteibcklcegkbcaa
open Go.RowKit Go.BigFrame

theorem wrap_nat {n : Nat} (h : n < 18446744073709551616) : IntKind.u64.wrap (n : Int) = n := by rw [IntKind.wrap_u64]; omega
theorem and_mask {n : Nat} (h : n < 18446744073709551616) : bits .and .u64 (n : Int) 4294967295 = ((n % 4294967296 : Nat) : Int) := by
  have := bits_and_u64_nat n 4294967295 h (by omega)
  rw [show ((4294967295 : Nat) : Int) = 4294967295 from rfl] at this
  rw [this, show (4294967295 : Nat) = 2 ^ 32 - 1 from by decide, Nat.and_two_pow_sub_one_eq_mod]
theorem mul_hi (x y : Nat) (hx : x < 18446744073709551616) (hy : y < 18446744073709551616) :
    IntKind.u64.wrap (IntKind.u64.wrap (IntKind.u64.wrap ((x : Int) / 4294967296 * ((y : Int) / 4294967296)) + IntKind.u64.wrap (IntKind.u64.wrap ((x : Int) / 4294967296 * bits .and .u64 (y : Int) 4294967295) + IntKind.u64.wrap (bits .and .u64 (x : Int) 4294967295 * bits .and .u64 (y : Int) 4294967295) / 4294967296) / 4294967296) +
      IntKind.u64.wrap (bits .and .u64 (IntKind.u64.wrap (IntKind.u64.wrap ((x : Int) / 4294967296 * bits .and .u64 (y : Int) 4294967295) + IntKind.u64.wrap (bits .and .u64 (x : Int) 4294967295 * bits .and .u64 (y : Int) 4294967295) / 4294967296)) 4294967295 + IntKind.u64.wrap (bits .and .u64 (x : Int) 4294967295 * ((y : Int) / 4294967296))) / 4294967296) =
      ((x * y / 18446744073709551616 : Nat) : Int) := by
  rw [and_mask hx, and_mask hy]
  have ex : (x : Int) / 4294967296 = ((x / 4294967296 : Nat) : Int) := by omega
  have ey : (y : Int) / 4294967296 = ((y / 4294967296 : Nat) : Int) := by omega
  rw [ex, ey]
  have hx1 : x / 4294967296 ≤ 4294967295 := by omega
  have hy1 : y / 4294967296 ≤ 4294967295 := by omega
  have hx0 : x % 4294967296 ≤ 4294967295 := by omega
  have hy0 : y % 4294967296 ≤ 4294967295 := by omega
  have hxs : x = 4294967296 * (x / 4294967296) + x % 4294967296 := by omega
  have hys : y = 4294967296 * (y / 4294967296) + y % 4294967296 := by omega
  generalize x / 4294967296 = x1 at *
  generalize x % 4294967296 = x0 at *
  generalize y / 4294967296 = y1 at *
  generalize y % 4294967296 = y0 at *
  have b11 : x1 * y1 ≤ 4294967295 * 4294967295 := Nat.mul_le_mul hx1 hy1
  have b10 : x1 * y0 ≤ 4294967295 * 4294967295 := Nat.mul_le_mul hx1 hy0
  have b01 : x0 * y1 ≤ 4294967295 * 4294967295 := Nat.mul_le_mul hx0 hy1
  have b00 : x0 * y0 ≤ 4294967295 * 4294967295 := Nat.mul_le_mul hx0 hy0
  have key : x * y = 18446744073709551616 * (x1 * y1) + 4294967296 * (x1 * y0 + x0 * y1) + x0 * y0 := by
    rw [hxs, hys, Nat.add_mul, Nat.mul_add, Nat.mul_add, Nat.mul_mul_mul_comm, Nat.mul_assoc 4294967296 x1 y0, Nat.mul_left_comm x0 4294967296 y1]
    omega
  rw [key, ← Int.natCast_mul, ← Int.natCast_mul, ← Int.natCast_mul, ← Int.natCast_mul]
  clear key hxs hys ex ey
  generalize x1 * y1 = p at *
  generalize x1 * y0 = q at *
  generalize x0 * y1 = r at *
  generalize x0 * y0 = s at *
  rw [wrap_nat (n := p) (by omega), wrap_nat (n := q) (by omega), wrap_nat (n := r) (by omega), wrap_nat (n := s) (by omega)]
  have e1 : (q : Int) + (s : Int) / 4294967296 = ((q + s / 4294967296 : Nat) : Int) := by omega
  rw [e1, wrap_nat (n := q + s / 4294967296) (by omega), and_mask (n := q + s / 4294967296) (by omega)]
  have e2 : (p : Int) + ((q + s / 4294967296 : Nat) : Int) / 4294967296 = ((p + (q + s / 4294967296) / 4294967296 : Nat) : Int) := by omega
  have e3 : (((q + s / 4294967296) % 4294967296 : Nat) : Int) + (r : Int) = (((q + s / 4294967296) % 4294967296 + r : Nat) : Int) := by omega
  rw [e2, e3, wrap_nat (n := p + (q + s / 4294967296) / 4294967296) (by omega), wrap_nat (n := (q + s / 4294967296) % 4294967296 + r) (by omega)]
  have e4 : ((p + (q + s / 4294967296) / 4294967296 : Nat) : Int) + (((q + s / 4294967296) % 4294967296 + r : Nat) : Int) / 4294967296 = ((p + (q + s / 4294967296) / 4294967296 + ((q + s / 4294967296) % 4294967296 + r) / 4294967296 : Nat) : Int) := by omega
  rw [e4, wrap_nat (by omega)]
  omega

set_option maxRecDepth 20000 in
set_option maxHeartbeats 1000000 in
theorem mul_any (x y : Nat) (hx : x < 18446744073709551616) (hy : y < 18446744073709551616) (w : World) :
    Calls Try.prog 79 #[.int .u64 x, .int .u64 y] w fun e w' => e = .returned (.tuple #[.int .u64 (x * y / 18446744073709551616 : Nat), .int .u64 (x * y % 18446744073709551616 : Nat)]) ∧ w = w' := by
  have HH := Hd.mk (mul_hi x y hx hy)
  have HL : Hd (IntKind.u64.wrap ((x : Int) * (y : Int)) = ((x * y % 18446744073709551616 : Nat) : Int)) := ⟨by rw [IntKind.wrap_u64, ← Int.natCast_mul]; omega⟩
  clear hx hy
  go_enter Try.func79, Try.ntmps79
  go_wp2
  go_ret2
  refine ⟨?_, rfl⟩
  rw [← HH.out, ← HL.out]
  rfl
/-- The two words of a product of digits. -/
def mulHi (a i b k : Nat) : Nat := (dg a i).toNat * (dg b k).toNat / 18446744073709551616
def mulLo (a i b k : Nat) : Nat := (dg a i).toNat * (dg b k).toNat % 18446744073709551616
/-- The same at digits. -/
theorem mul_dg (a i b k : Nat) (w : World) :
    Calls Try.prog 79 #[.int .u64 (dg a i), .int .u64 (dg b k)] w fun e w' => e = .returned (.tuple #[.int .u64 (mulHi a i b k : Nat), .int .u64 (mulLo a i b k : Nat)]) ∧ w = w' := by
  have h1 := dg_lt a i
  have h2 := dg_lt b k
  unfold mulHi mulLo
  obtain ⟨y, hy⟩ := Int.eq_ofNat_of_zero_le (dg_nonneg a i)
  obtain ⟨z, hz⟩ := Int.eq_ofNat_of_zero_le (dg_nonneg b k)
  rw [hy] at h1 ⊢
  rw [hz] at h2 ⊢
  exact mul_any y z (by omega) (by omega) w
end Go.Proofs.Yteibcklcegkbcaa
