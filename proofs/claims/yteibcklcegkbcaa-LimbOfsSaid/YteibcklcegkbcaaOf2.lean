/-
  LimbOfs: the paths put together. Conditions stand in each theorem.
-/
import Derived.Test.YteibcklcegkbcaaOf1
namespace Go.Proofs.Yteibcklcegkbcaa
open Go.RowKit Go.BigFrame

theorem or_words {a b : Int} (a0 : 0 ≤ a) (b0 : 0 ≤ b) (al : a < 18446744073709551616) (bl : b < 18446744073709551616) :
    0 ≤ bits .or .u64 a b ∧ bits .or .u64 a b < 18446744073709551616 ∧ (bits .or .u64 a b = 0 ↔ a = 0 ∧ b = 0) := by
  obtain ⟨x, rfl⟩ := Int.eq_ofNat_of_zero_le a0
  obtain ⟨y, rfl⟩ := Int.eq_ofNat_of_zero_le b0
  rw [bits_or_u64_nat x y (by omega) (by omega)]
  refine ⟨by omega, ?_, ?_⟩
  · have : x ||| y < 2 ^ 64 := Nat.or_lt_two_pow (by omega) (by omega)
    omega
  · have h : x ||| y = 0 ↔ x = 0 ∧ y = 0 := Nat.or_eq_zero_iff
    omega
theorem or3 (N : Nat) : (bits .or .u64 (bits .or .u64 (dg N 1) (dg N 2)) (dg N 3) == 0) = decide (dg N 1 = 0 ∧ dg N 2 = 0 ∧ dg N 3 = 0) := by
  obtain ⟨h1, h2, h3⟩ := or_words (dg_nonneg N 1) (dg_nonneg N 2) (dg_lt N 1) (dg_lt N 2)
  obtain ⟨_, _, h6⟩ := or_words h1 (dg_nonneg N 3) h2 (dg_lt N 3)
  rw [Bool.eq_iff_iff]
  simp only [beq_iff_eq, decide_eq_true_eq, h6, h3, and_assoc]
theorem dg_word (N : Nat) (hN : N < 2 ^ 256) : (dg N 1 = 0 ∧ dg N 2 = 0 ∧ dg N 3 = 0) ↔ N < 18446744073709551616 := by
  constructor
  · rintro ⟨h1, h2, h3⟩
    have h := mg_dg hN
    rw [h1, h2, h3] at h
    have h0 := dg_lt N 0
    have h4 := dg_nonneg N 0
    unfold mg at h
    omega
  · intro h
    obtain ⟨_, d1, d2, d3⟩ := dg_small h
    exact ⟨d1, d2, d3⟩
theorem ofs_any (n : Int) (hn : -9223372036854775808 ≤ n ∧ n ≤ 9223372036854775807) (p : Bool × Nat) (hp : p.2 < 2 ^ 256) (w : World) :
    Calls Try.prog 7 #[.int .i64 n, .agg #[.bool (p.1), .int .u64 (dg (p.2) 0), .int .u64 (dg (p.2) 1), .int .u64 (dg (p.2) 2), .int .u64 (dg (p.2) 3)]] w fun e w' => e = .returned (.bool true) ∧ Below w.heap.size w w' := by
  have hnb : ab n < 2 ^ 256 := Nat.lt_of_le_of_lt (m := 9223372036854775808) (by unfold ab; omega) (by decide)
  by_cases h : okP p
  · obtain ⟨z, hz⟩ : ∃ z, z = zof p.1 p.2 := ⟨_, rfl⟩
    have e1 : ng z = p.1 := by rw [hz]; exact ng_okP h
    have e2 : ab z = p.2 := by rw [hz, ab_zof]
    rw [← e1, ← e2]
    rw [← e2] at hp
    have ho := or3 (ab z)
    have hw := dg_word (ab z) hp
    have hd0 : ab z < 18446744073709551616 → dg (ab z) 0 = ab z := fun h => (dg_small h).1
    have hng : ng z = decide (z < 0) := rfl
    have hab : (ab z : Int) = if z < 0 then -z else z := by unfold ab; split <;> omega
    by_cases hr : -9223372036854775808 ≤ z ∧ z < 9223372036854775808
    · have hl : ab z < 18446744073709551616 := by split at hab <;> omega
      rw [decide_eq_true (hw.2 hl)] at ho
      have hd := hd0 hl
      by_cases hlt : dg (ab z) 0 < 9223372036854775808
      · exact ofs_in1 n z ⟨hn⟩ ⟨hnb⟩ ⟨hp⟩ ⟨hr⟩ ⟨ho, decide_eq_true hlt⟩ w
      · have hs : z < 0 := by split at hab <;> omega
        rw [if_pos hs] at hab
        exact ofs_in2 n z ⟨hn⟩ ⟨hnb⟩ ⟨hp⟩ ⟨hr⟩ ⟨ho, decide_eq_false hlt, by rw [hng]; exact decide_eq_true hs, by rw [beq_iff_eq]; omega⟩ w
    · by_cases hl : ab z < 18446744073709551616
      · rw [decide_eq_true (hw.2 hl)] at ho
        have hd := hd0 hl
        have hlt : ¬ dg (ab z) 0 < 9223372036854775808 := by split at hab <;> omega
        by_cases hs : z < 0
        · rw [if_pos hs] at hab
          exact ofs_no3 n z ⟨hn⟩ ⟨hnb⟩ ⟨hp⟩ ⟨hr⟩ ⟨ho, decide_eq_false hlt, by rw [hng]; exact decide_eq_true hs, by rw [beq_eq_false_iff_ne]; omega⟩ w
        · exact ofs_no2 n z ⟨hn⟩ ⟨hnb⟩ ⟨hp⟩ ⟨hr⟩ ⟨ho, decide_eq_false hlt, by rw [hng]; exact decide_eq_false hs⟩ w
      · rw [decide_eq_false (fun h => hl (hw.1 h))] at ho
        exact ofs_no1 n z ⟨hn⟩ ⟨hnb⟩ ⟨hp⟩ ⟨hr⟩ ⟨ho⟩ w
  · obtain ⟨s, N⟩ := p
    obtain ⟨rfl, rfl⟩ : s = true ∧ N = 0 := by simpa [okP] using h
    simp only [dg_zero]
    exact ofs_bad n ⟨hn⟩ ⟨hnb⟩ w
end Go.Proofs.Yteibcklcegkbcaa
