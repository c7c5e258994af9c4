/-
  The product of magnitudes: plain laws on numbers, then the walk of times. Conditions stand in each theorem.
-/
import Derived.Deep.CutBlock
import Derived.Test.YtfgdichdddknlaaDoorLm6
namespace Go.Proofs.YtfgdichdddknlaaDoor
open Go.RowKit Go.BigFrame

def quoS (a b s : Nat) : Nat := a / 2 ^ s / b * 2 ^ s
def remS (a b s : Nat) : Nat := a / 2 ^ s % b
theorem quoS_zero (a b : Nat) : quoS a b 0 = a / b := by simp [quoS]
theorem remS_zero (a b : Nat) : remS a b 0 = a % b := by simp [remS]
theorem quoS_top (a b : Nat) : quoS a b (topN a) = 0 := by simp [quoS, Nat.div_eq_of_lt (topN_lt a)]
theorem remS_top (a b : Nat) : remS a b (topN a) = 0 := by simp [remS, Nat.div_eq_of_lt (topN_lt a)]
theorem quoS_dvd (a b s : Nat) : 2 ^ s ∣ quoS a b s := ⟨a / 2 ^ s / b, Nat.mul_comm _ _⟩
theorem quoS_le (a b s : Nat) : quoS a b s ≤ a := by
  unfold quoS
  exact Nat.le_trans (Nat.mul_le_mul_right _ (Nat.div_le_self _ _)) (Nat.div_mul_le_self _ _)
theorem remS_lt {a b : Nat} (hb : 0 < b) (s : Nat) : remS a b s < b := Nat.mod_lt _ hb
theorem half (a j : Nat) : a / 2 ^ j = 2 * (a / 2 ^ (j + 1)) + bitN a j := by
  unfold bitN
  rw [Nat.pow_succ, ← Nat.div_div_eq_div_mul]
  omega
/-- One more bit. -/
theorem div_step {a b : Nat} (hb : 0 < b) (j : Nat) :
    (b ≤ 2 * remS a b (j + 1) + bitN a j → quoS a b j = quoS a b (j + 1) + 2 ^ j ∧ remS a b j = 2 * remS a b (j + 1) + bitN a j - b) ∧
    (2 * remS a b (j + 1) + bitN a j < b → quoS a b j = quoS a b (j + 1) ∧ remS a b j = 2 * remS a b (j + 1) + bitN a j) := by
  have hh := half a j
  have hr := remS_lt (a := a) hb (j + 1)
  have hbit := bitN_le a j
  unfold quoS remS at *
  rw [hh]
  generalize a / 2 ^ (j + 1) = x at *
  generalize bitN a j = c at *
  have hx := split_at x b
  have e : 2 * x + c = (2 * (x % b) + c) + b * (2 * (x / b)) := by rw [Nat.mul_left_comm]; omega
  have e2 : x / b * 2 ^ (j + 1) = 2 * (x / b) * 2 ^ j := by rw [Nat.pow_succ, ← Nat.mul_assoc, Nat.mul_comm _ 2, ← Nat.mul_assoc]
  rw [e, Nat.add_mul_div_left _ _ hb, Nat.add_mul_mod_self_left, e2]
  constructor
  · intro h
    have h1 : (2 * (x % b) + c) / b = 1 := by rw [Nat.div_eq_iff hb]; omega
    have h2 : (2 * (x % b) + c) % b = 2 * (x % b) + c - b := by
      have := Nat.div_add_mod (2 * (x % b) + c) b
      rw [h1] at this; omega
    rw [h1, h2, Nat.add_mul]
    omega
  · intro h
    rw [Nat.div_eq_of_lt h, Nat.mod_eq_of_lt h, Nat.zero_add]
    exact ⟨rfl, rfl⟩

/-- A bit laid into a number that has none from there down. -/
theorem dg_lay (q j i : Nat) (hd : 2 ^ (j + 1) ∣ q) : dg (q + 2 ^ j) i = if i = j / 64 then (((dg q i).toNat ||| 2 ^ (j % 64) : Nat) : Int) else dg q i := by
  obtain ⟨m, rfl⟩ := hd
  have hj : 2 ^ j = 2 ^ (64 * (j / 64)) * 2 ^ (j % 64) := by rw [← Nat.pow_add]; congr 1; omega
  split
  · rename_i h
    subst h
    have h1 : (2 ^ (j + 1) * m + 2 ^ j) / 2 ^ (64 * (j / 64)) = 2 ^ (j % 64 + 1) * m + 2 ^ (j % 64) := by
      have : 2 ^ (j + 1) * m + 2 ^ j = 2 ^ (64 * (j / 64)) * (2 ^ (j % 64 + 1) * m + 2 ^ (j % 64)) := by
        rw [Nat.mul_add, ← hj, ← Nat.mul_assoc, ← Nat.pow_add]; congr 3; omega
      rw [this, Nat.mul_div_cancel_left _ (Nat.two_pow_pos _)]
    have h2 : 2 ^ (j + 1) * m / 2 ^ (64 * (j / 64)) = 2 ^ (j % 64 + 1) * m := by
      have : 2 ^ (j + 1) * m = 2 ^ (64 * (j / 64)) * (2 ^ (j % 64 + 1) * m) := by
        rw [← Nat.mul_assoc, ← Nat.pow_add]; congr 2; omega
      rw [this, Nat.mul_div_cancel_left _ (Nat.two_pow_pos _)]
    rw [dg_toNat, h2]
    unfold dg
    rw [h1]
    congr 1
    have h64 : (18446744073709551616 : Nat) = 2 ^ (j % 64 + 1) * 2 ^ (63 - j % 64) := by
      rw [show (18446744073709551616 : Nat) = 2 ^ 64 from by decide, ← Nat.pow_add]; congr 1; omega
    have h3 : 2 ^ (j % 64 + 1) * m % 18446744073709551616 = 2 ^ (j % 64 + 1) * (m % 2 ^ (63 - j % 64)) := by
      rw [h64, Nat.mul_mod_mul_left]
    have hlt : 2 ^ (j % 64) < 2 ^ (j % 64 + 1) := Nat.pow_lt_pow_right (by decide) (by omega)
    have h4 := Nat.two_pow_add_eq_or_of_lt hlt (m % 2 ^ (63 - j % 64))
    rw [h3, ← h4]
    have h5 : 2 ^ (j % 64 + 1) * (m % 2 ^ (63 - j % 64)) + 2 ^ (j % 64) < 18446744073709551616 := by
      have h6 := Nat.mod_lt m (Nat.two_pow_pos (63 - j % 64))
      have h7 : 2 ^ (j % 64 + 1) * (m % 2 ^ (63 - j % 64)) + 2 ^ (j % 64 + 1) ≤ 2 ^ (j % 64 + 1) * 2 ^ (63 - j % 64) := by
        rw [← Nat.mul_succ]; exact Nat.mul_le_mul_left _ h6
      rw [← h64] at h7
      omega
    rw [← Nat.mod_eq_of_lt h5, Nat.add_mod, Nat.add_mod (2 ^ (j % 64 + 1) * (m % 2 ^ (63 - j % 64))), ← h3, Nat.mod_mod]
  · rename_i h
    unfold dg
    congr 1
    rcases Nat.lt_or_gt_of_ne h with h | h
    · -- a lower digit: both are 0 there
      have h64 : (2 : Nat) ^ j = 2 ^ (64 * i) * (18446744073709551616 * 2 ^ (j - 64 * (i + 1))) := by
        rw [show (18446744073709551616 : Nat) = 2 ^ 64 from by decide, ← Nat.pow_add, ← Nat.pow_add]; congr 1; omega
      have e1 : 2 ^ (j + 1) * m + 2 ^ j = 2 ^ (64 * i) * (18446744073709551616 * (2 ^ (j - 64 * (i + 1)) * (2 * m + 1))) := by
        rw [Nat.pow_succ, Nat.mul_assoc, ← Nat.mul_succ, h64]; simp only [Nat.mul_assoc]
      have e2 : 2 ^ (j + 1) * m = 2 ^ (64 * i) * (18446744073709551616 * (2 ^ (j - 64 * (i + 1)) * (2 * m))) := by
        rw [Nat.pow_succ, Nat.mul_assoc, h64]; simp only [Nat.mul_assoc]
      rw [e1, e2, Nat.mul_div_cancel_left _ (Nat.two_pow_pos _), Nat.mul_div_cancel_left _ (Nat.two_pow_pos _), Nat.mul_mod_right, Nat.mul_mod_right]
    · -- a higher digit: nothing is carried
      have hp : 2 ^ (j + 1) ∣ 2 ^ (64 * i) := Nat.pow_dvd_pow 2 (by omega)
      obtain ⟨c, hc⟩ := hp
      have hlt : 2 ^ j < 2 ^ (j + 1) := Nat.pow_lt_pow_right (by decide) (by omega)
      have e1 : (2 ^ (j + 1) * m + 2 ^ j) / 2 ^ (64 * i) = 2 ^ (j + 1) * m / 2 ^ (64 * i) := by
        rw [hc, ← Nat.div_div_eq_div_mul, ← Nat.div_div_eq_div_mul, Nat.mul_add_div (Nat.two_pow_pos _), Nat.div_eq_of_lt hlt, Nat.add_zero, Nat.mul_div_cancel_left _ (Nat.two_pow_pos _)]
      rw [e1]

/-- The digit that the bit is laid into, as the walk has it. -/
theorem lay_bits (q j : Nat) (_hj : j < 256) : bits .or .u64 (dg q (j / 64)) (IntKind.u64.wrap (2 ^ (j % 64))) = (((dg q (j / 64)).toNat ||| 2 ^ (j % 64) : Nat) : Int) := by
  have h1 := dg_lt q (j / 64)
  obtain ⟨x, hx⟩ := Int.eq_ofNat_of_zero_le (dg_nonneg q (j / 64))
  rw [hx] at h1 ⊢
  have h2 : 2 ^ (j % 64) < 18446744073709551616 := by
    rw [show (18446744073709551616 : Nat) = 2 ^ 64 from by decide]
    exact Nat.pow_lt_pow_right (by decide) (by omega)
  have h4 : ((2 ^ (j % 64) : Nat) : Int) = (2 : Int) ^ (j % 64) := Int.natCast_pow 2 _
  rw [← h4]
  generalize 2 ^ (j % 64) = p at *
  have h3 : IntKind.u64.wrap (p : Int) = (p : Int) := by
    rw [IntKind.wrap_u64]
    omega
  rw [h3, bits_or_u64_nat _ _ (by omega) h2, Int.toNat_natCast]

theorem lay_cells (q j : Nat) (hj : j < 256) (hd : 2 ^ (j + 1) ∣ q) : (#[.int .u64 (dg (q) 0), .int .u64 (dg (q) 1), .int .u64 (dg (q) 2), .int .u64 (dg (q) 3)] : Array Value).setIfInBounds (j / 64) (.int .u64 (bits .or .u64 (dg q (j / 64)) (IntKind.u64.wrap (2 ^ (j % 64))))) = #[.int .u64 (dg (q + 2 ^ j) 0), .int .u64 (dg (q + 2 ^ j) 1), .int .u64 (dg (q + 2 ^ j) 2), .int .u64 (dg (q + 2 ^ j) 3)] := by
  rw [lay_bits q j hj]
  have h0 := dg_lay q j 0 hd
  have h1 := dg_lay q j 1 hd
  have h2 := dg_lay q j 2 hd
  have h3 := dg_lay q j 3 hd
  rw [h0, h1, h2, h3]
  obtain h | h | h | h : j / 64 = 0 ∨ j / 64 = 1 ∨ j / 64 = 2 ∨ j / 64 = 3 := by omega
  all_goals simp [h]

end Go.Proofs.YtfgdichdddknlaaDoor

namespace Go.Proofs.YtfgdichdddknlaaDoor
open Go.RowKit Go.BigFrame

theorem wrap_nat {n : Nat} (h : n < 18446744073709551616) : IntKind.u64.wrap (n : Int) = n := by rw [IntKind.wrap_u64]; omega
theorem and_mask {n : Nat} (h : n < 18446744073709551616) : bits .and .u64 (n : Int) 4294967295 = ((n % 4294967296 : Nat) : Int) := by
  have := bits_and_u64_nat n 4294967295 h (by omega)
  rw [show ((4294967295 : Nat) : Int) = 4294967295 from rfl] at this
  rw [this, show (4294967295 : Nat) = 2 ^ 32 - 1 from by decide, Nat.and_two_pow_sub_one_eq_mod]
theorem mul_hi (x y : Nat) (hx : x < 18446744073709551616) (hy : y < 18446744073709551616) :
    IntKind.u64.wrap (IntKind.u64.wrap (IntKind.u64.wrap ((x : Int) / 4294967296 * ((y : Int) / 4294967296)) + IntKind.u64.wrap (IntKind.u64.wrap ((x : Int) / 4294967296 * bits .and .u64 (y : Int) 4294967295) + IntKind.u64.wrap (bits .and .u64 (x : Int) 4294967295 * bits .and .u64 (y : Int) 4294967295) / 4294967296) / 4294967296) +
      IntKind.u64.wrap (bits .and .u64 (IntKind.u64.wrap (IntKind.u64.wrap ((x : Int) / 4294967296 * bits .and .u64 (y : Int) 4294967295) + IntKind.u64.wrap (bits .and .u64 (x : Int) 4294967295 * bits .and .u64 (y : Int) 4294967295) / 4294967296)) 4294967295 + IntKind.u64.wrap (bits .and .u64 (x : Int) 4294967295 * ((y : Int) / 4294967296))) / 4294967296) =
      ((x * y / 18446744073709551616 : Nat) : Int) := by
  rw [and_mask hx, and_mask hy]
  have ex : (x : Int) / 4294967296 = ((x / 4294967296 : Nat) : Int) := by omega
  have ey : (y : Int) / 4294967296 = ((y / 4294967296 : Nat) : Int) := by omega
  rw [ex, ey]
  have hx1 : x / 4294967296 ≤ 4294967295 := by omega
  have hy1 : y / 4294967296 ≤ 4294967295 := by omega
  have hx0 : x % 4294967296 ≤ 4294967295 := by omega
  have hy0 : y % 4294967296 ≤ 4294967295 := by omega
  have hxs : x = 4294967296 * (x / 4294967296) + x % 4294967296 := by omega
  have hys : y = 4294967296 * (y / 4294967296) + y % 4294967296 := by omega
  generalize x / 4294967296 = x1 at *
  generalize x % 4294967296 = x0 at *
  generalize y / 4294967296 = y1 at *
  generalize y % 4294967296 = y0 at *
  have b11 : x1 * y1 ≤ 4294967295 * 4294967295 := Nat.mul_le_mul hx1 hy1
  have b10 : x1 * y0 ≤ 4294967295 * 4294967295 := Nat.mul_le_mul hx1 hy0
  have b01 : x0 * y1 ≤ 4294967295 * 4294967295 := Nat.mul_le_mul hx0 hy1
  have b00 : x0 * y0 ≤ 4294967295 * 4294967295 := Nat.mul_le_mul hx0 hy0
  have key : x * y = 18446744073709551616 * (x1 * y1) + 4294967296 * (x1 * y0 + x0 * y1) + x0 * y0 := by
    rw [hxs, hys, Nat.add_mul, Nat.mul_add, Nat.mul_add, Nat.mul_mul_mul_comm, Nat.mul_assoc 4294967296 x1 y0, Nat.mul_left_comm x0 4294967296 y1]
    omega
  rw [key, ← Int.natCast_mul, ← Int.natCast_mul, ← Int.natCast_mul, ← Int.natCast_mul]
  clear key hxs hys ex ey
  generalize x1 * y1 = p at *
  generalize x1 * y0 = q at *
  generalize x0 * y1 = r at *
  generalize x0 * y0 = s at *
  rw [wrap_nat (n := p) (by omega), wrap_nat (n := q) (by omega), wrap_nat (n := r) (by omega), wrap_nat (n := s) (by omega)]
  have e1 : (q : Int) + (s : Int) / 4294967296 = ((q + s / 4294967296 : Nat) : Int) := by omega
  rw [e1, wrap_nat (n := q + s / 4294967296) (by omega), and_mask (n := q + s / 4294967296) (by omega)]
  have e2 : (p : Int) + ((q + s / 4294967296 : Nat) : Int) / 4294967296 = ((p + (q + s / 4294967296) / 4294967296 : Nat) : Int) := by omega
  have e3 : (((q + s / 4294967296) % 4294967296 : Nat) : Int) + (r : Int) = (((q + s / 4294967296) % 4294967296 + r : Nat) : Int) := by omega
  rw [e2, e3, wrap_nat (n := p + (q + s / 4294967296) / 4294967296) (by omega), wrap_nat (n := (q + s / 4294967296) % 4294967296 + r) (by omega)]
  have e4 : ((p + (q + s / 4294967296) / 4294967296 : Nat) : Int) + (((q + s / 4294967296) % 4294967296 + r : Nat) : Int) / 4294967296 = ((p + (q + s / 4294967296) / 4294967296 + ((q + s / 4294967296) % 4294967296 + r) / 4294967296 : Nat) : Int) := by omega
  rw [e4, wrap_nat (by omega)]
  omega

/-- The two words of a product of digits. -/
def mulHi (a i b k : Nat) : Nat := (dg a i).toNat * (dg b k).toNat / 18446744073709551616
def mulLo (a i b k : Nat) : Nat := (dg a i).toNat * (dg b k).toNat % 18446744073709551616
end Go.Proofs.YtfgdichdddknlaaDoor

namespace Go.Proofs.YtfgdichdddknlaaDoor
open Go.RowKit Go.BigFrame

def accT (a b i : Nat) : Nat := a % 2 ^ (64 * i) * b
def lowT (a b i k : Nat) : Nat := accT a b i % 2 ^ (64 * (i + k)) + (dg a i).toNat * 2 ^ (64 * i) * (b % 2 ^ (64 * k))
def carT (a b i k : Nat) : Nat := lowT a b i k / 2 ^ (64 * (i + k))
def allT (a b i k j : Nat) : Int := if j < i + k then dg (lowT a b i k) j else dg (accT a b i) j
def allC (a b i k : Nat) : Array Value := #[.int .u64 (allT a b i k 0), .int .u64 (allT a b i k 1), .int .u64 (allT a b i k 2), .int .u64 (allT a b i k 3), .int .u64 (allT a b i k 4), .int .u64 (allT a b i k 5), .int .u64 (allT a b i k 6), .int .u64 (allT a b i k 7)]

theorem allC_at (a b i k j : Nat) (hj : j < 8) : (allC a b i k)[j]? = some (.int .u64 (allT a b i k j)) := by
  obtain rfl | rfl | rfl | rfl | rfl | rfl | rfl | rfl : j = 0 ∨ j = 1 ∨ j = 2 ∨ j = 3 ∨ j = 4 ∨ j = 5 ∨ j = 6 ∨ j = 7 := by omega
  all_goals rfl
theorem allC_set (a b i k i' k' j : Nat) (hj : j < 8) (h : ∀ m, m < 8 → m ≠ j → allT a b i k m = allT a b i' k' m) : (allC a b i k).setIfInBounds j (.int .u64 (allT a b i' k' j)) = allC a b i' k' := by
  have e0 := h 0 (by omega); have e1 := h 1 (by omega); have e2 := h 2 (by omega); have e3 := h 3 (by omega)
  have e4 := h 4 (by omega); have e5 := h 5 (by omega); have e6 := h 6 (by omega); have e7 := h 7 (by omega)
  unfold allC
  obtain rfl | rfl | rfl | rfl | rfl | rfl | rfl | rfl : j = 0 ∨ j = 1 ∨ j = 2 ∨ j = 3 ∨ j = 4 ∨ j = 5 ∨ j = 6 ∨ j = 7 := by omega
  all_goals simp_all

theorem lowT_succ (a b i k : Nat) : lowT a b i (k + 1) = lowT a b i k + ((dg (accT a b i) (i + k)).toNat + (dg a i).toNat * (dg b k).toNat) * 2 ^ (64 * (i + k)) := by
  unfold lowT
  rw [show i + (k + 1) = (i + k) + 1 by omega, pow_step (i + k), mod_step (accT a b i), pow_step k, mod_step b, ← dg_toNat, ← dg_toNat]
  rw [Nat.mul_add ((dg a i).toNat * 2 ^ (64 * i)), Nat.add_mul]
  have e : (dg a i).toNat * 2 ^ (64 * i) * (2 ^ (64 * k) * (dg b k).toNat) = (dg a i).toNat * (dg b k).toNat * 2 ^ (64 * (i + k)) := by
    rw [Nat.mul_add 64, Nat.pow_add]
    simp only [Nat.mul_assoc, Nat.mul_left_comm, Nat.mul_comm]
  rw [e, Nat.mul_comm (2 ^ (64 * (i + k))) (dg (accT a b i) (i + k)).toNat]
  omega
theorem low_step (a b i k : Nat) : (dg (lowT a b i (k + 1)) (i + k)).toNat = (carT a b i k + ((dg (accT a b i) (i + k)).toNat + (dg a i).toNat * (dg b k).toNat)) % 18446744073709551616 ∧
    carT a b i (k + 1) = (carT a b i k + ((dg (accT a b i) (i + k)).toNat + (dg a i).toNat * (dg b k).toNat)) / 18446744073709551616 := by
  have hp := Nat.two_pow_pos (64 * (i + k))
  have h : lowT a b i (k + 1) / 2 ^ (64 * (i + k)) = carT a b i k + ((dg (accT a b i) (i + k)).toNat + (dg a i).toNat * (dg b k).toNat) := by
    rw [lowT_succ, Nat.add_mul_div_right _ _ hp]; rfl
  constructor
  · rw [dg_toNat, h]
  · rw [← h]
    unfold carT
    rw [show i + (k + 1) = (i + k) + 1 by omega, pow_step, Nat.div_div_eq_div_mul]
theorem dg_low (x m j p : Nat) (hj : j < p) : dg (x + m * 2 ^ (64 * p)) j = dg x j := by
  unfold dg
  congr 1
  have h : 2 ^ (64 * p) = 2 ^ (64 * j) * (18446744073709551616 * 2 ^ (64 * (p - j - 1))) := by
    rw [show (18446744073709551616 : Nat) = 2 ^ 64 from by decide, ← Nat.pow_add, ← Nat.pow_add]; congr 1; omega
  rw [h, show m * (2 ^ (64 * j) * (18446744073709551616 * 2 ^ (64 * (p - j - 1)))) = 2 ^ (64 * j) * (18446744073709551616 * (2 ^ (64 * (p - j - 1)) * m)) by
    simp only [Nat.mul_assoc, Nat.mul_left_comm, Nat.mul_comm], Nat.add_mul_div_left _ _ (Nat.two_pow_pos _), Nat.add_mul_mod_self_left]
theorem all_step (a b i k m : Nat) (h : m ≠ i + k) : allT a b i k m = allT a b i (k + 1) m := by
  unfold allT
  by_cases h1 : m < i + k
  · rw [if_pos h1, if_pos (by omega), lowT_succ, dg_low _ _ _ _ h1]
  · rw [if_neg h1, if_neg (by omega)]
theorem all_zero (a b i j : Nat) : allT a b i 0 j = dg (accT a b i) j := by
  unfold allT lowT
  simp only [Nat.add_zero, Nat.mul_zero, Nat.pow_zero, Nat.mod_one, Nat.mul_zero]
  split
  · rename_i h
    have := dg_low (accT a b i % 2 ^ (64 * i)) (accT a b i / 2 ^ (64 * i)) j i h
    rw [← this]
    congr 1
    rw [Nat.mul_comm (_ / _)]
    exact Nat.mod_add_div _ _
  · rfl
theorem car_zeroT (a b i : Nat) : carT a b i 0 = 0 := by
  unfold carT lowT
  simp only [Nat.add_zero, Nat.mul_zero, Nat.pow_zero, Nat.mod_one]
  exact Nat.div_eq_of_lt (Nat.mod_lt _ (Nat.two_pow_pos _))
theorem accT_lt (a b i : Nat) (hb : b < 2 ^ 256) : accT a b i < 2 ^ (64 * (i + 4)) := by
  unfold accT
  rw [Nat.mul_add 64, Nat.pow_add]
  exact Nat.mul_lt_mul'' (Nat.mod_lt _ (Nat.two_pow_pos _)) hb
theorem accT_succ (a b i : Nat) : accT a b (i + 1) = accT a b i + (dg a i).toNat * 2 ^ (64 * i) * b := by
  unfold accT
  rw [pow_step, mod_step a, ← dg_toNat, Nat.add_mul]
  simp only [Nat.mul_comm]
  omega
theorem low_end (a b i : Nat) (hb : b < 2 ^ 256) : lowT a b i 4 = accT a b (i + 1) := by
  unfold lowT
  rw [Nat.mod_eq_of_lt (accT_lt a b i hb), show 64 * 4 = 256 from rfl, Nat.mod_eq_of_lt hb, accT_succ]
theorem dg_high {n j p : Nat} (h : n < 2 ^ (64 * p)) (hj : p ≤ j) : dg n j = 0 := by
  unfold dg
  rw [Nat.div_eq_of_lt (Nat.lt_of_lt_of_le h (Nat.pow_le_pow_right (by decide) (by omega)))]
  rfl
theorem all_end (a b i m : Nat) (hb : b < 2 ^ 256) (h : m ≠ i + 4) : allT a b i 4 m = allT a b (i + 1) 0 m := by
  rw [all_zero]
  unfold allT
  by_cases h1 : m < i + 4
  · rw [if_pos h1, low_end _ _ _ hb]
  · rw [if_neg h1, dg_high (accT_lt a b i hb) (by omega), dg_high (accT_lt a b (i + 1) hb) (by omega)]
theorem car_end (a b i : Nat) (hb : b < 2 ^ 256) : ((carT a b i 4 : Nat) : Int) = allT a b (i + 1) 0 (i + 4) := by
  rw [all_zero]
  unfold carT dg
  rw [low_end _ _ _ hb]
  congr 1
  rw [Nat.mod_eq_of_lt]
  rw [Nat.div_lt_iff_lt_mul (Nat.two_pow_pos _), Nat.mul_comm, ← pow_step]
  have := accT_lt a b (i + 1) hb
  rwa [show (i + 1) + 4 = (i + 4) + 1 by omega] at this
theorem accT_full (a b : Nat) (ha : a < 2 ^ 256) : accT a b 4 = a * b := by
  unfold accT
  rw [show 64 * 4 = 256 from rfl, Nat.mod_eq_of_lt ha]
theorem accT_none (a b : Nat) : accT a b 0 = 0 := by simp [accT, Nat.mod_one]
/-- The upper half is nought just where the product fits. -/
theorem upper_zero {n : Nat} (h : n < 2 ^ 256 * 2 ^ 256) : (dg n 4 = 0 ∧ dg n 5 = 0 ∧ dg n 6 = 0 ∧ dg n 7 = 0) ↔ n < 2 ^ 256 := by
  have e : ∀ j, dg (n / 2 ^ 256) j = dg n (4 + j) := fun j => by
    unfold dg
    rw [Nat.div_div_eq_div_mul, ← Nat.pow_add, show 256 + 64 * j = 64 * (4 + j) by omega]
  have hlt : n / 2 ^ 256 < 2 ^ 256 := by
    rw [Nat.div_lt_iff_lt_mul (Nat.two_pow_pos _)]; exact h
  have h4 := dg_eq_zero hlt
  rw [e, e, e, e] at h4
  rw [h4, Nat.div_eq_zero_iff]
  have : (2 : Nat) ^ 256 ≠ 0 := by decide
  constructor
  · rintro (h | h)
    · exact absurd h this
    · exact h
  · exact .inr

theorem carT_lt (a b i k : Nat) : carT a b i k < 18446744073709551616 := by
  induction k with
  | zero => rw [car_zeroT]; omega
  | succ k ih =>
    have hs := (low_step a b i k).2
    have ha := dg_lt a i
    have hb := dg_lt b k
    have hy := dg_lt (accT a b i) (i + k)
    have ha' : (dg a i).toNat ≤ 18446744073709551615 := by omega
    have hb' : (dg b k).toNat ≤ 18446744073709551615 := by omega
    have hp := Nat.mul_le_mul ha' hb'
    rw [hs]
    generalize (dg a i).toNat * (dg b k).toNat = p at *
    omega

def TimesPost (a b : Nat) (w : World) (e : Ending) (w' : World) : Prop :=
  e = (if a * b < 2 ^ 256 then .returned (.agg #[.int .u64 (dg (a * b) 0), .int .u64 (dg (a * b) 1), .int .u64 (dg (a * b) 2), .int .u64 (dg (a * b) 3)]) else .panicked [{ v := .iface 27 (.int .i64 110), recovered := false }]) ∧ Below w.heap.size w w'

end Go.Proofs.YtfgdichdddknlaaDoor
