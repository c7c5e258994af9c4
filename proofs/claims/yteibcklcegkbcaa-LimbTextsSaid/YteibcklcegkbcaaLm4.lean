/-
  Walks: doubles and bits of magnitudes. Conditions stand in each theorem.
-/
import Derived.Test.YteibcklcegkbcaaLm3
namespace Go.Proofs.Yteibcklcegkbcaa
open Go.RowKit Go.BigFrame

@[go_sem] theorem idxMag0 (x0 x1 x2 x3 : Int) (w : World) : (Instr.index 82 (.agg #[.int .u64 x0, .int .u64 x1, .int .u64 x2, .int .u64 x3]) (.int .i64 0)).run Try.prog w = .ok (.int .u64 x0) w := by kernel_rfl
@[go_sem] theorem idxMag1 (x0 x1 x2 x3 : Int) (w : World) : (Instr.index 82 (.agg #[.int .u64 x0, .int .u64 x1, .int .u64 x2, .int .u64 x3]) (.int .i64 1)).run Try.prog w = .ok (.int .u64 x1) w := by kernel_rfl
@[go_sem] theorem idxMag2 (x0 x1 x2 x3 : Int) (w : World) : (Instr.index 82 (.agg #[.int .u64 x0, .int .u64 x1, .int .u64 x2, .int .u64 x3]) (.int .i64 2)).run Try.prog w = .ok (.int .u64 x2) w := by kernel_rfl
@[go_sem] theorem idxMag3 (x0 x1 x2 x3 : Int) (w : World) : (Instr.index 82 (.agg #[.int .u64 x0, .int .u64 x1, .int .u64 x2, .int .u64 x3]) (.int .i64 3)).run Try.prog w = .ok (.int .u64 x3) w := by kernel_rfl

theorem or_low (x b : Nat) (hx : 2 * x < 18446744073709551616) (hb : b ≤ 1) : bits .or .u64 ((2 * x : Nat) : Int) (b : Int) = ((2 * x + b : Nat) : Int) := by
  rw [bits_or_u64_nat _ _ hx (by omega)]
  have := Nat.two_pow_add_eq_or_of_lt (i := 1) (b := b) (by omega) x
  rw [Nat.pow_one] at this
  rw [this]
theorem dbl_digit (a c k : Nat) (hc : c ≤ 1) (hk : k < 4) : bits .or .u64 (IntKind.u64.wrap (dg a k * 2)) (ovr a c k : Nat) = dg (dblN a c) k ∧ dg a k / 9223372036854775808 = (ovr a c (k + 1) : Nat) := by
  have h := dg_dbl a c k hk
  have hb := ovr_le hc k (a := a)
  have hx := dg_lt a k
  obtain ⟨x, hx'⟩ := Int.eq_ofNat_of_zero_le (dg_nonneg a k)
  obtain ⟨z, hz⟩ := Int.eq_ofNat_of_zero_le (dg_nonneg (dblN a c) k)
  rw [hx', hz] at h ⊢
  simp only [Int.toNat_natCast] at h
  rw [hx'] at hx
  refine ⟨?_, ?_⟩
  · rw [IntKind.wrap_u64]
    have e : (x : Int) * 2 % 18446744073709551616 = ((2 * (x % 9223372036854775808) : Nat) : Int) := by omega
    rw [e, or_low _ _ (by omega) hb]
    omega
  · omega

set_option maxRecDepth 20000 in
set_option maxHeartbeats 400000 in
theorem doubled_any (a c : Nat) (ha : a < 2 ^ 256) (hc : c ≤ 1) (w : World) :
    Calls Try.prog 74 #[.agg #[.int .u64 (dg (a) 0), .int .u64 (dg (a) 1), .int .u64 (dg (a) 2), .int .u64 (dg (a) 3)], .int .u64 c] w fun e w' => e = .returned (.tuple #[.agg #[.int .u64 (dg (dblN a c) 0), .int .u64 (dg (dblN a c) 1), .int .u64 (dg (dblN a c) 2), .int .u64 (dg (dblN a c) 3)], .int .u64 (ovr a c 4 : Nat)]) ∧ Below w.heap.size w w' := by
  have HC := Hd.mk hc
  have HA := Hd.mk ha
  clear hc ha
  go_enter Try.func74, Try.ntmps74
  go_wp2
  go_loopw [1, 6, 7, 9] (fun o _ _ i wr => ∃ k : Nat, k ≤ 4 ∧ i = .int .i64 k ∧ o = .int .u64 (ovr a c k : Nat) ∧ Below w.heap.size w wr ∧
      wr.heap[w.heap.size + 1]? = some (.cells #[.int .u64 (part4 (dblN a c) k 0), .int .u64 (part4 (dblN a c) k 1), .int .u64 (part4 (dblN a c) k 2), .int .u64 (part4 (dblN a c) k 3)] 82 (0, 0)))
    (fun _ _ _ i _ => 4 - (intOf i).toNat)
  case atStart =>
    refine ⟨0, by omega, rfl, by rw [ovr_zero], ?_, ?_⟩
    focus (repeat (first | (with_reducible exact Below.refl _ _) | (with_reducible assumption) | ((with_reducible refine Below.setCell ?_ ?_ _); rotate_left; (focus (first | omega | (simp; done) | (simp; omega)))) | ((with_reducible refine Below.alloc ?_ ?_ _); rotate_left; (focus (first | omega | (simp; done) | (simp; omega)))) | (with_reducible refine Below.drew ?_) | (refine below_on ?_ (by assumption))))
    · exact heap_at (by simp) _
  case round =>
    obtain ⟨k, hk, rfl, rfl, hB, h1⟩ := hrel
    by_cases hlt : k < 4
    · have HD := Hd.mk (dbl_digit a c k HC.out hlt)
      obtain rfl | rfl | rfl | rfl : k = 0 ∨ k = 1 ∨ k = 2 ∨ k = 3 := by omega
      all_goals
        clear hk hlt
        have c1 := cell_at h1
        have f1 := frozen_at h1
        have hs := lt_of_block h1
        go_wp2
        rw [HD.out.1, HD.out.2]
        go_roundw
        case rel =>
          refine ⟨_, ?_, ?_, rfl, ?_, ?_⟩
          · omega
          · go_num
          focus (repeat (first | (with_reducible exact Below.refl _ _) | (with_reducible assumption) | ((with_reducible refine Below.setCell ?_ ?_ _); rotate_left; (focus (first | omega | (simp; done) | (simp; omega)))) | ((with_reducible refine Below.alloc ?_ ?_ _); rotate_left; (focus (first | omega | (simp; done) | (simp; omega)))) | (with_reducible refine Below.drew ?_) | (refine below_on ?_ (by assumption))))
          · refine (heap_set h1 _ _).trans ?_
            simp [part4]
        case measure => simp [intOf]
    · obtain rfl : k = 4 := by omega
      have c1 := cell_at h1
      have f1 := frozen_at h1
      have hs := lt_of_block h1
      go_wp2
      refine bodyPost_ret (by simp [results, Try.results74, go_sem, c1]; rfl) rfl ⟨?_, ?_⟩
      · simp [part4]
      focus (repeat (first | (with_reducible exact Below.refl _ _) | (with_reducible assumption) | ((with_reducible refine Below.setCell ?_ ?_ _); rotate_left; (focus (first | omega | (simp; done) | (simp; omega)))) | ((with_reducible refine Below.alloc ?_ ?_ _); rotate_left; (focus (first | omega | (simp; done) | (simp; omega)))) | (with_reducible refine Below.drew ?_) | (refine below_on ?_ (by assumption))))

theorem and_one (a q r : Nat) : bits .and .u64 (dg a q / 2 ^ r) 1 = (((dg a q).toNat / 2 ^ r % 2 : Nat) : Int) := by
  have hx := dg_lt a q
  obtain ⟨x, hx'⟩ := Int.eq_ofNat_of_zero_le (dg_nonneg a q)
  rw [hx'] at hx ⊢
  have e : (x : Int) / 2 ^ r = ((x / 2 ^ r : Nat) : Int) := by rw [Int.natCast_ediv, Int.natCast_pow]; rfl
  rw [e, Int.toNat_natCast]
  have h1 : x / 2 ^ r ≤ x := Nat.div_le_self _ _
  have := bits_and_u64_nat (x / 2 ^ r) 1 (by omega) (by omega)
  rw [show ((1 : Nat) : Int) = 1 from rfl] at this
  rw [this, Nat.and_one_is_mod]

set_option maxRecDepth 20000 in
set_option maxHeartbeats 400000 in
theorem bit_any (a i : Nat) (hi : i < 256) (w : World) :
    Calls Try.prog 68 #[.agg #[.int .u64 (dg (a) 0), .int .u64 (dg (a) 1), .int .u64 (dg (a) 2), .int .u64 (dg (a) 3)], .int .i64 i] w fun e w' => e = .returned (.int .u64 (bitN a i : Nat)) ∧ Below w.heap.size w w' := by
  have hb := bit_dg a i
  have HI := Hd.mk hi
  have h0 : (0 : Int) ≤ i := by omega
  have h1 : (i : Int) < 256 := by omega
  have hm0 : (0 : Int) ≤ (i : Int) % 64 := by omega
  have hm1 : (i : Int) % 64 < 64 := by omega
  obtain hq | hq | hq | hq : (i : Int) / 64 = 0 ∨ (i : Int) / 64 = 1 ∨ (i : Int) / 64 = 2 ∨ (i : Int) / 64 = 3 := by omega
  all_goals
    have HB := Hd.mk hb
    clear hb hi
    go_enter Try.func68, Try.ntmps68
    go_wp2
    go_ret
    refine ⟨?_, ?_⟩
    · have hqn : i / 64 = Int.toNat ((i : Int) / 64) := by omega
      rw [← HB.out, hqn, hq]
      exact congrArg (fun x => Ending.returned (.int .u64 x)) (and_one _ _ _)
    focus (repeat (first | (with_reducible exact Below.refl _ _) | (with_reducible assumption) | ((with_reducible refine Below.setCell ?_ ?_ _); rotate_left; (focus (first | omega | (simp; done) | (simp; omega)))) | ((with_reducible refine Below.alloc ?_ ?_ _); rotate_left; (focus (first | omega | (simp; done) | (simp; omega)))) | (with_reducible refine Below.drew ?_) | (refine below_on ?_ (by assumption))))
end Go.Proofs.Yteibcklcegkbcaa
