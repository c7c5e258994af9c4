/-
  The product of magnitudes: plain laws on numbers, then the walk of times. Conditions stand in each theorem.
-/
import Derived.Test.YteibcklcegkbcaaLm8
namespace Go.Proofs.Yteibcklcegkbcaa
open Go.RowKit Go.BigFrame

def accT (a b i : Nat) : Nat := a % 2 ^ (64 * i) * b
def lowT (a b i k : Nat) : Nat := accT a b i % 2 ^ (64 * (i + k)) + (dg a i).toNat * 2 ^ (64 * i) * (b % 2 ^ (64 * k))
def carT (a b i k : Nat) : Nat := lowT a b i k / 2 ^ (64 * (i + k))
def allT (a b i k j : Nat) : Int := if j < i + k then dg (lowT a b i k) j else dg (accT a b i) j
def allC (a b i k : Nat) : Array Value := #[.int .u64 (allT a b i k 0), .int .u64 (allT a b i k 1), .int .u64 (allT a b i k 2), .int .u64 (allT a b i k 3), .int .u64 (allT a b i k 4), .int .u64 (allT a b i k 5), .int .u64 (allT a b i k 6), .int .u64 (allT a b i k 7)]

theorem allC_at (a b i k j : Nat) (hj : j < 8) : (allC a b i k)[j]? = some (.int .u64 (allT a b i k j)) := by
  obtain rfl | rfl | rfl | rfl | rfl | rfl | rfl | rfl : j = 0 ∨ j = 1 ∨ j = 2 ∨ j = 3 ∨ j = 4 ∨ j = 5 ∨ j = 6 ∨ j = 7 := by omega
  all_goals rfl
theorem allC_set (a b i k i' k' j : Nat) (hj : j < 8) (h : ∀ m, m < 8 → m ≠ j → allT a b i k m = allT a b i' k' m) : (allC a b i k).setIfInBounds j (.int .u64 (allT a b i' k' j)) = allC a b i' k' := by
  have e0 := h 0 (by omega); have e1 := h 1 (by omega); have e2 := h 2 (by omega); have e3 := h 3 (by omega)
  have e4 := h 4 (by omega); have e5 := h 5 (by omega); have e6 := h 6 (by omega); have e7 := h 7 (by omega)
  unfold allC
  obtain rfl | rfl | rfl | rfl | rfl | rfl | rfl | rfl : j = 0 ∨ j = 1 ∨ j = 2 ∨ j = 3 ∨ j = 4 ∨ j = 5 ∨ j = 6 ∨ j = 7 := by omega
  all_goals simp_all

theorem lowT_succ (a b i k : Nat) : lowT a b i (k + 1) = lowT a b i k + ((dg (accT a b i) (i + k)).toNat + (dg a i).toNat * (dg b k).toNat) * 2 ^ (64 * (i + k)) := by
  unfold lowT
  rw [show i + (k + 1) = (i + k) + 1 by omega, pow_step (i + k), mod_step (accT a b i), pow_step k, mod_step b, ← dg_toNat, ← dg_toNat]
  rw [Nat.mul_add ((dg a i).toNat * 2 ^ (64 * i)), Nat.add_mul]
  have e : (dg a i).toNat * 2 ^ (64 * i) * (2 ^ (64 * k) * (dg b k).toNat) = (dg a i).toNat * (dg b k).toNat * 2 ^ (64 * (i + k)) := by
    rw [Nat.mul_add 64, Nat.pow_add]
    simp only [Nat.mul_assoc, Nat.mul_left_comm, Nat.mul_comm]
  rw [e, Nat.mul_comm (2 ^ (64 * (i + k))) (dg (accT a b i) (i + k)).toNat]
  omega
theorem low_step (a b i k : Nat) : (dg (lowT a b i (k + 1)) (i + k)).toNat = (carT a b i k + ((dg (accT a b i) (i + k)).toNat + (dg a i).toNat * (dg b k).toNat)) % 18446744073709551616 ∧
    carT a b i (k + 1) = (carT a b i k + ((dg (accT a b i) (i + k)).toNat + (dg a i).toNat * (dg b k).toNat)) / 18446744073709551616 := by
  have hp := Nat.two_pow_pos (64 * (i + k))
  have h : lowT a b i (k + 1) / 2 ^ (64 * (i + k)) = carT a b i k + ((dg (accT a b i) (i + k)).toNat + (dg a i).toNat * (dg b k).toNat) := by
    rw [lowT_succ, Nat.add_mul_div_right _ _ hp]; rfl
  constructor
  · rw [dg_toNat, h]
  · rw [← h]
    unfold carT
    rw [show i + (k + 1) = (i + k) + 1 by omega, pow_step, Nat.div_div_eq_div_mul]
theorem dg_low (x m j p : Nat) (hj : j < p) : dg (x + m * 2 ^ (64 * p)) j = dg x j := by
  unfold dg
  congr 1
  have h : 2 ^ (64 * p) = 2 ^ (64 * j) * (18446744073709551616 * 2 ^ (64 * (p - j - 1))) := by
    rw [show (18446744073709551616 : Nat) = 2 ^ 64 from by decide, ← Nat.pow_add, ← Nat.pow_add]; congr 1; omega
  rw [h, show m * (2 ^ (64 * j) * (18446744073709551616 * 2 ^ (64 * (p - j - 1)))) = 2 ^ (64 * j) * (18446744073709551616 * (2 ^ (64 * (p - j - 1)) * m)) by
    simp only [Nat.mul_assoc, Nat.mul_left_comm, Nat.mul_comm], Nat.add_mul_div_left _ _ (Nat.two_pow_pos _), Nat.add_mul_mod_self_left]
theorem all_step (a b i k m : Nat) (h : m ≠ i + k) : allT a b i k m = allT a b i (k + 1) m := by
  unfold allT
  by_cases h1 : m < i + k
  · rw [if_pos h1, if_pos (by omega), lowT_succ, dg_low _ _ _ _ h1]
  · rw [if_neg h1, if_neg (by omega)]
theorem all_zero (a b i j : Nat) : allT a b i 0 j = dg (accT a b i) j := by
  unfold allT lowT
  simp only [Nat.add_zero, Nat.mul_zero, Nat.pow_zero, Nat.mod_one, Nat.mul_zero]
  split
  · rename_i h
    have := dg_low (accT a b i % 2 ^ (64 * i)) (accT a b i / 2 ^ (64 * i)) j i h
    rw [← this]
    congr 1
    rw [Nat.mul_comm (_ / _)]
    exact Nat.mod_add_div _ _
  · rfl
theorem car_zeroT (a b i : Nat) : carT a b i 0 = 0 := by
  unfold carT lowT
  simp only [Nat.add_zero, Nat.mul_zero, Nat.pow_zero, Nat.mod_one]
  exact Nat.div_eq_of_lt (Nat.mod_lt _ (Nat.two_pow_pos _))
theorem accT_lt (a b i : Nat) (hb : b < 2 ^ 256) : accT a b i < 2 ^ (64 * (i + 4)) := by
  unfold accT
  rw [Nat.mul_add 64, Nat.pow_add]
  exact Nat.mul_lt_mul'' (Nat.mod_lt _ (Nat.two_pow_pos _)) hb
theorem accT_succ (a b i : Nat) : accT a b (i + 1) = accT a b i + (dg a i).toNat * 2 ^ (64 * i) * b := by
  unfold accT
  rw [pow_step, mod_step a, ← dg_toNat, Nat.add_mul]
  simp only [Nat.mul_assoc, Nat.mul_left_comm, Nat.mul_comm]
  omega
theorem low_end (a b i : Nat) (hb : b < 2 ^ 256) : lowT a b i 4 = accT a b (i + 1) := by
  unfold lowT
  rw [Nat.mod_eq_of_lt (accT_lt a b i hb), show 64 * 4 = 256 from rfl, Nat.mod_eq_of_lt hb, accT_succ]
theorem dg_high {n j p : Nat} (h : n < 2 ^ (64 * p)) (hj : p ≤ j) : dg n j = 0 := by
  unfold dg
  rw [Nat.div_eq_of_lt (Nat.lt_of_lt_of_le h (Nat.pow_le_pow_right (by decide) (by omega)))]
  rfl
theorem all_end (a b i m : Nat) (hb : b < 2 ^ 256) (h : m ≠ i + 4) : allT a b i 4 m = allT a b (i + 1) 0 m := by
  rw [all_zero]
  unfold allT
  by_cases h1 : m < i + 4
  · rw [if_pos h1, low_end _ _ _ hb]
  · rw [if_neg h1, dg_high (accT_lt a b i hb) (by omega), dg_high (accT_lt a b (i + 1) hb) (by omega)]
theorem car_end (a b i : Nat) (hb : b < 2 ^ 256) : ((carT a b i 4 : Nat) : Int) = allT a b (i + 1) 0 (i + 4) := by
  rw [all_zero]
  unfold carT dg
  rw [low_end _ _ _ hb]
  congr 1
  rw [Nat.mod_eq_of_lt]
  rw [Nat.div_lt_iff_lt_mul (Nat.two_pow_pos _), Nat.mul_comm, ← pow_step]
  have := accT_lt a b (i + 1) hb
  rwa [show (i + 1) + 4 = (i + 4) + 1 by omega] at this
theorem accT_full (a b : Nat) (ha : a < 2 ^ 256) : accT a b 4 = a * b := by
  unfold accT
  rw [show 64 * 4 = 256 from rfl, Nat.mod_eq_of_lt ha]
theorem accT_none (a b : Nat) : accT a b 0 = 0 := by simp [accT, Nat.mod_one]
/-- The upper half is nought just where the product fits. -/
theorem upper_zero {n : Nat} (h : n < 2 ^ 256 * 2 ^ 256) : (dg n 4 = 0 ∧ dg n 5 = 0 ∧ dg n 6 = 0 ∧ dg n 7 = 0) ↔ n < 2 ^ 256 := by
  have e : ∀ j, dg (n / 2 ^ 256) j = dg n (4 + j) := fun j => by
    unfold dg
    rw [Nat.div_div_eq_div_mul, ← Nat.pow_add, show 256 + 64 * j = 64 * (4 + j) by omega]
  have hlt : n / 2 ^ 256 < 2 ^ 256 := by
    rw [Nat.div_lt_iff_lt_mul (Nat.two_pow_pos _)]; exact h
  have h4 := dg_eq_zero hlt
  rw [e, e, e, e] at h4
  rw [h4, Nat.div_eq_zero_iff]
  have : (2 : Nat) ^ 256 ≠ 0 := by decide
  constructor
  · rintro (h | h)
    · exact absurd h this
    · exact h
  · exact .inr

theorem idx_mag (a i : Nat) (hi : i < 4) (w : World) : (Instr.index 82 (.agg #[.int .u64 (dg (a) 0), .int .u64 (dg (a) 1), .int .u64 (dg (a) 2), .int .u64 (dg (a) 3)]) (.int .i64 (i : Int))).run Try.prog w = .ok (.int .u64 (dg a i)) w := by
  obtain rfl | rfl | rfl | rfl : i = 0 ∨ i = 1 ∨ i = 2 ∨ i = 3 := by omega
  · exact idxMag0 _ _ _ _ w
  · exact idxMag1 _ _ _ _ w
  · exact idxMag2 _ _ _ _ w
  · exact idxMag3 _ _ _ _ w

theorem carT_lt (a b i k : Nat) : carT a b i k < 18446744073709551616 := by
  induction k with
  | zero => rw [car_zeroT]; omega
  | succ k ih =>
    have hs := (low_step a b i k).2
    have ha := dg_lt a i
    have hb := dg_lt b k
    have hy := dg_lt (accT a b i) (i + k)
    have ha' : (dg a i).toNat ≤ 18446744073709551615 := by omega
    have hb' : (dg b k).toNat ≤ 18446744073709551615 := by omega
    have hp := Nat.mul_le_mul ha' hb'
    rw [hs]
    generalize (dg a i).toNat * (dg b k).toNat = p at *
    omega

/-- The two sums with carry in one round. -/
theorem round_sums (a b i k : Nat) : ∃ s1 c1 s2 c2 : Nat,
    (∀ W, (callFunc 78 #[.int .u64 (mulLo a i b k : Nat), .int .u64 (allT a b i k (i + k)), .int .u64 0]).run Try.prog W = .ok (.value (.tuple #[.int .u64 s1, .int .u64 c1])) W) ∧
    (∀ W, (callFunc 78 #[.int .u64 s1, .int .u64 (carT a b i k : Nat), .int .u64 0]).run Try.prog W = .ok (.value (.tuple #[.int .u64 s2, .int .u64 c2])) W) ∧
    Hd ((s2 : Int) = allT a b i (k + 1) (i + k) ∧ IntKind.u64.wrap (IntKind.u64.wrap ((mulHi a i b k : Nat) + (c1 : Int)) + (c2 : Int)) = (carT a b i (k + 1) : Nat)) := by
  unfold mulHi mulLo
  have hs := low_step a b i k
  have ha := dg_lt a i
  have hb := dg_lt b k
  have hz : allT a b i k (i + k) = dg (accT a b i) (i + k) := by unfold allT; rw [if_neg (by omega)]
  have hy0 := dg_nonneg (accT a b i) (i + k)
  have hy1 := dg_lt (accT a b i) (i + k)
  have ha' : (dg a i).toNat ≤ 18446744073709551615 := by omega
  have hb' : (dg b k).toNat ≤ 18446744073709551615 := by omega
  have hp := Nat.mul_le_mul ha' hb'
  have hl0 := dg_nonneg (lowT a b i (k + 1)) (i + k)
  have hcl := carT_lt a b i k
  rw [hz]
  have hv : allT a b i (k + 1) (i + k) = dg (lowT a b i (k + 1)) (i + k) := by unfold allT; rw [if_pos (by omega)]
  rw [hv]
  generalize (dg a i).toNat * (dg b k).toNat = p at *
  generalize dg (accT a b i) (i + k) = y at *
  generalize carT a b i k = c at *
  refine ⟨(p % 18446744073709551616 + y.toNat) % 18446744073709551616, (p % 18446744073709551616 + y.toNat) / 18446744073709551616, ((p % 18446744073709551616 + y.toNat) % 18446744073709551616 + c) % 18446744073709551616, ((p % 18446744073709551616 + y.toNat) % 18446744073709551616 + c) / 18446744073709551616, fun W => ?_, fun W => ?_, ⟨?_, ?_⟩⟩
  · rw [add64 _ _ _ (by omega) hy0 (by omega) (by omega)]
    have e1 : (((p % 18446744073709551616 : Nat) : Int) + y + 0) % 18446744073709551616 = (((p % 18446744073709551616 + y.toNat) % 18446744073709551616 : Nat) : Int) := by omega
    have e2 : (((p % 18446744073709551616 : Nat) : Int) + y + 0) / 18446744073709551616 = (((p % 18446744073709551616 + y.toNat) / 18446744073709551616 : Nat) : Int) := by omega
    rw [e1, e2]
  · rw [add64 _ _ _ (by omega) (by omega) (by omega) (by omega)]
    generalize (p % 18446744073709551616 + y.toNat) % 18446744073709551616 = s
    have e1 : ((s : Int) + (c : Int) + 0) % 18446744073709551616 = (((s + c) % 18446744073709551616 : Nat) : Int) := by omega
    have e2 : ((s : Int) + (c : Int) + 0) / 18446744073709551616 = (((s + c) / 18446744073709551616 : Nat) : Int) := by omega
    rw [e1, e2]
  · omega
  · rw [hs.2, IntKind.wrap_u64, IntKind.wrap_u64]
    clear hs hl0 hv hz
    omega

@[go_sem] theorem arr_at (a : Option Addr) (c : Nat) (w : World) : (Instr.arrayAt 23 (.slice a 4 c)).run Try.prog w = .ok (.pointer a) w := by
  simp [Instr.arrayAt, run_underlying Try.underlying23]
@[go_sem] theorem mag_at (a : Option Addr) (c : Nat) (w : World) : (Instr.arrayAt 82 (.slice a 4 c)).run Try.prog w = .ok (.pointer a) w := by
  simp [Instr.arrayAt, run_underlying Try.underlying82]

def TimesInv (a b : Nat) (w : World) (i k : Nat) (wr : World) : Prop :=
  Below w.heap.size w wr ∧ wr.heap[w.heap.size]? = some (.cells #[.int .u64 (dg (a) 0), .int .u64 (dg (a) 1), .int .u64 (dg (a) 2), .int .u64 (dg (a) 3)] 82 (0, 0)) ∧ wr.heap[w.heap.size + 1]? = some (.cells #[.int .u64 (dg (b) 0), .int .u64 (dg (b) 1), .int .u64 (dg (b) 2), .int .u64 (dg (b) 3)] 82 (0, 0)) ∧
    wr.heap[w.heap.size + 2]? = some (.cells #[.int .u64 (dg (0) 0), .int .u64 (dg (0) 1), .int .u64 (dg (0) 2), .int .u64 (dg (0) 3)] 82 (0, 0)) ∧ wr.heap[w.heap.size + 3]? = some (.cells (allC a b i k) 111 (0, 0))
def TimesPost (a b : Nat) (w : World) (e : Ending) (w' : World) : Prop :=
  e = (if a * b < 2 ^ 256 then .returned (.agg #[.int .u64 (dg (a * b) 0), .int .u64 (dg (a * b) 1), .int .u64 (dg (a * b) 2), .int .u64 (dg (a * b) 3)]) else .panicked [{ v := .iface 26 (.int .i64 110), recovered := false }]) ∧ Below w.heap.size w w'

set_option maxRecDepth 20000 in
set_option maxHeartbeats 1000000 in
theorem times_any (a b : Nat) (ha : a < 2 ^ 256) (hb : b < 2 ^ 256) (w : World) :
    Calls Try.prog 62 #[.agg #[.int .u64 (dg (a) 0), .int .u64 (dg (a) 1), .int .u64 (dg (a) 2), .int .u64 (dg (a) 3)], .agg #[.int .u64 (dg (b) 0), .int .u64 (dg (b) 1), .int .u64 (dg (b) 2), .int .u64 (dg (b) 3)]] w (TimesPost a b w) := by
  have HA := Hd.mk ha
  have HB := Hd.mk hb
  clear ha hb
  go_enter Try.func62, Try.ntmps62
  go_wp2
  go_loopw [16] (fun ci wr => ∃ i : Nat, i ≤ 4 ∧ ci = .int .i64 i ∧ TimesInv a b w i 0 wr) (fun ci _ => 4 - (intOf ci).toNat)
  case atStart =>
    refine ⟨0, by omega, rfl, ?_, ?_, ?_, ?_, ?_⟩
    focus (repeat (first | (with_reducible exact Below.refl _ _) | (with_reducible assumption) | ((with_reducible refine Below.setCell ?_ ?_ _); rotate_left; (focus (first | omega | (simp; done) | (simp; omega)))) | ((with_reducible refine Below.alloc ?_ ?_ _); rotate_left; (focus (first | omega | (simp; done) | (simp; omega)))) | (with_reducible refine Below.drew ?_) | (refine below_on ?_ (by assumption))))
    · exact heap_old (heap_old (heap_old (heap_new _ _) _) _) _
    · exact heap_old (heap_old (heap_at (by simp) _) _) _
    · simp only [dg_zero]; exact heap_old (heap_at (by simp) _) _
    · refine (heap_at (by simp) _).trans ?_
      simp [allC, all_zero, accT_none, dg_zero]
  case round =>
    obtain ⟨i, hi, rfl, hBo, z0, z1, z2, z3⟩ := hrel
    by_cases hlt : i < 4
    · have hix := fun W => idx_mag a i hlt W
      have HI := Hd.mk hlt
      have hdi : decide ((i : Int) < 4) = true := by simp; omega
      have c1 := cell_at z1
      go_wp2
      go_loopw [8, 21] (fun c ck wr => ∃ k : Nat, k ≤ 4 ∧ ck = .int .i64 k ∧ c = .int .u64 (carT a b i k : Nat) ∧ TimesInv a b w i k wr) (fun _ ck _ => 4 - (intOf ck).toNat)
      case atStart => exact ⟨0, by omega, rfl, by rw [car_zeroT]; rfl, hBo, z0, z1, z2, z3⟩
      case round =>
        obtain ⟨k, hk, rfl, rfl, hBw, y0, y1, y2, y3⟩ := hrel
        by_cases hlk : k < 4
        · have hiy := fun W => idx_mag b k hlk W
          obtain ⟨s1, q1, s2, q2, hs1, hs2, HS⟩ := round_sums a b i k
          have hcell : wr.cell? ⟨w.heap.size + 3, i + k, none⟩ = some (.int .u64 (allT a b i k (i + k))) := by
            rw [cell_at y3, allC_at _ _ _ _ _ (by omega)]
          have hf3 := frozen_at y3
          have hs3 := lt_of_block y3
          go_wp2_with (go_at_call 79; refine (mul_dg a i b k _).mono ?_; rintro e w' ⟨rfl, rfl⟩)
          go_roundw
          case rel =>
            refine ⟨k + 1, by omega, by go_num, congrArg (Value.int .u64) HS.out.2, ?_, ?_, ?_, ?_, ?_⟩
            focus (repeat (first | (with_reducible exact Below.refl _ _) | (with_reducible assumption) | ((with_reducible refine Below.setCell ?_ ?_ _); rotate_left; (focus (first | omega | (simp; done) | (simp; omega)))) | ((with_reducible refine Below.alloc ?_ ?_ _); rotate_left; (focus (first | omega | (simp; done) | (simp; omega)))) | (with_reducible refine Below.drew ?_) | (refine below_on ?_ (by assumption))))
            · repeat (first | (with_reducible exact y0) | ((with_reducible refine heap_set_other ?_ ?_ _); rotate_left; (focus (first | omega | (simp; done) | (simp; omega)))) | (with_reducible refine heap_old ?_ _))
            · repeat (first | (with_reducible exact y1) | ((with_reducible refine heap_set_other ?_ ?_ _); rotate_left; (focus (first | omega | (simp; done) | (simp; omega)))) | (with_reducible refine heap_old ?_ _))
            · repeat (first | (with_reducible exact y2) | ((with_reducible refine heap_set_other ?_ ?_ _); rotate_left; (focus (first | omega | (simp; done) | (simp; omega)))) | (with_reducible refine heap_old ?_ _))
            · refine (heap_set y3 _ _).trans ?_
              rw [HS.out.1, allC_set a b i k i (k + 1) (i + k) (by omega) (fun m _ hm => all_step a b i k m hm)]
          case measure => simp [intOf]; omega
        · obtain rfl : k = 4 := by omega
          have hcell : wr.cell? ⟨w.heap.size + 3, i + 4, none⟩ = some (.int .u64 (allT a b i 4 (i + 4))) := by
            rw [cell_at y3, allC_at _ _ _ _ _ (by omega)]
          have hf3 := frozen_at y3
          have hs3 := lt_of_block y3
          go_wp2
          go_roundw
          case rel =>
            refine ⟨i + 1, by omega, by go_num, ?_, ?_, ?_, ?_, ?_⟩
            focus (repeat (first | (with_reducible exact Below.refl _ _) | (with_reducible assumption) | ((with_reducible refine Below.setCell ?_ ?_ _); rotate_left; (focus (first | omega | (simp; done) | (simp; omega)))) | ((with_reducible refine Below.alloc ?_ ?_ _); rotate_left; (focus (first | omega | (simp; done) | (simp; omega)))) | (with_reducible refine Below.drew ?_) | (refine below_on ?_ (by assumption))))
            · repeat (first | (with_reducible exact y0) | ((with_reducible refine heap_set_other ?_ ?_ _); rotate_left; (focus (first | omega | (simp; done) | (simp; omega)))) | (with_reducible refine heap_old ?_ _))
            · repeat (first | (with_reducible exact y1) | ((with_reducible refine heap_set_other ?_ ?_ _); rotate_left; (focus (first | omega | (simp; done) | (simp; omega)))) | (with_reducible refine heap_old ?_ _))
            · repeat (first | (with_reducible exact y2) | ((with_reducible refine heap_set_other ?_ ?_ _); rotate_left; (focus (first | omega | (simp; done) | (simp; omega)))) | (with_reducible refine heap_old ?_ _))
            · refine (heap_set y3 _ _).trans ?_
              rw [car_end a b i HB.out, allC_set a b i 4 (i + 1) 0 (i + 4) (by omega) (fun m _ hm => all_end a b i m HB.out hm)]
          case measure => simp [intOf]; omega
    · obtain rfl : i = 4 := by omega
      have hall : ∀ j, allT a b 4 0 j = dg (a * b) j := fun j => by rw [all_zero, accT_full _ _ HA.out]
      have hz3 : wr.heap[w.heap.size + 3]? = some (.cells #[.int .u64 (dg (a * b) 0), .int .u64 (dg (a * b) 1), .int .u64 (dg (a * b) 2), .int .u64 (dg (a * b) 3), .int .u64 (dg (a * b) 4), .int .u64 (dg (a * b) 5), .int .u64 (dg (a * b) 6), .int .u64 (dg (a * b) 7)] 111 (0, 0)) := by
        rw [z3]; simp [allC, hall]
      have hup := upper_zero (Nat.mul_lt_mul'' HA.out HB.out)
      clear z3 hall
      have c3 := cell_at hz3
      have c2 := cell_at z2
      have f2 := frozen_at z2
      have hs3 := lt_of_block hz3
      by_cases hov : a * b < 2 ^ 256
      · have hc : (dg (a * b) 4 == 0 && (dg (a * b) 5 == 0 && (dg (a * b) 6 == 0 && dg (a * b) 7 == 0))) = true := by
          obtain ⟨e4, e5, e6, e7⟩ := hup.2 hov
          rw [e4, e5, e6, e7]; rfl
        have HO := Hd.mk hov
        clear hup hov
        go_wp2_with (go_at_call 46; refine (must_ok _ _).mono ?_; rintro e w' ⟨rfl, rfl⟩)
        refine bodyPost_ret (by simp [results, Try.results62, go_sem, c2]; rfl) rfl ⟨?_, ?_⟩
        · rw [if_pos HO.out]
        focus (repeat (first | (with_reducible exact Below.refl _ _) | (with_reducible assumption) | ((with_reducible refine Below.setCell ?_ ?_ _); rotate_left; (focus (first | omega | (simp; done) | (simp; omega)))) | ((with_reducible refine Below.alloc ?_ ?_ _); rotate_left; (focus (first | omega | (simp; done) | (simp; omega)))) | (with_reducible refine Below.drew ?_) | (refine below_on ?_ (by assumption))))
      · have hc : (dg (a * b) 4 == 0 && (dg (a * b) 5 == 0 && (dg (a * b) 6 == 0 && dg (a * b) 7 == 0))) = false := by
          rw [Bool.eq_false_iff]
          intro h
          simp only [Bool.and_eq_true, beq_iff_eq] at h
          exact hov (hup.1 h)
        have HO := Hd.mk hov
        clear hup hov
        go_wp2_with (go_at_call 46; refine (must_no _ _).mono ?_; rintro e w' ⟨rfl, rfl⟩)
        exact ⟨rfl, by rw [if_neg HO.out], hBo⟩
end Go.Proofs.Yteibcklcegkbcaa
