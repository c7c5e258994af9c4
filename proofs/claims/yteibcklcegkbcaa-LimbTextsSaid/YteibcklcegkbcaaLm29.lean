/-
  Small contracts and plain laws that several laws of the seat share. Conditions stand in each theorem.
-/
import Derived.Test.YteibcklcegkbcaaLm28
namespace Go.Proofs.Yteibcklcegkbcaa
open Go.RowKit Go.BigFrame

theorem num_s (n : Int) (w : World) : Calls Try.prog 14 #[.int .i64 n] w fun e w' => e = .returned (.int .i64 n) ∧ w = w' :=
  (num_any n w).mono fun _ _ ⟨h, k⟩ => ⟨h, k.symm⟩
theorem neg_at (z v : Int) (hz : ab z < 2 ^ 256) (h : -z = v) (w : World) :
    Calls Try.prog 25 #[.agg #[.bool (ng (z)), .int .u64 (dg (ab (z)) 0), .int .u64 (dg (ab (z)) 1), .int .u64 (dg (ab (z)) 2), .int .u64 (dg (ab (z)) 3)]] w fun e w' => e = .returned (.tuple #[.agg #[.bool (ng (v)), .int .u64 (dg (ab (v)) 0), .int .u64 (dg (ab (v)) 1), .int .u64 (dg (ab (v)) 2), .int .u64 (dg (ab (v)) 3)], .int .i64 0]) ∧ Below w.heap.size w w' := h ▸ neg_ok z hz w
theorem mul_at (A : Option Addr) (c : Nat) (zs : List Int) (v n : Int) (w : World) (hI : IntsAt w A (zs.map pr)) (hv : mulV zs = v) (hn : mulE zs = n) :
    Calls Try.prog 28 #[.slice A zs.length c] w fun e w' => e = .returned (.tuple #[.agg #[.bool (ng (v)), .int .u64 (dg (ab (v)) 0), .int .u64 (dg (ab (v)) 1), .int .u64 (dg (ab (v)) 2), .int .u64 (dg (ab (v)) 3)], .int .i64 n]) ∧ Below w.heap.size w w' := by
  subst hv hn
  exact mul_ok A c zs w hI
theorem add_cases (x y : Int) (hx : ab x < 2 ^ 256) : (ab (x + y) < 2 ^ 256 ∧ addV [x, y] = x + y ∧ addE [x, y] = 0) ∨ (¬ ab (x + y) < 2 ^ 256 ∧ addV [x, y] = 0 ∧ addE [x, y] = 110) := by
  by_cases h : ab (x + y) < 2 ^ 256
  · refine .inl ⟨h, ?_, ?_⟩
    · simp only [addV, addF, Int.zero_add, if_pos hx, if_pos h]; rfl
    · simp only [addE, addF, Int.zero_add, if_pos hx, if_pos h]; rfl
  · refine .inr ⟨h, ?_, ?_⟩
    · simp only [addV, addF, Int.zero_add, if_pos hx, if_neg h]; rfl
    · simp only [addE, addF, Int.zero_add, if_pos hx, if_neg h]; rfl
theorem mul_cases (x y : Int) (hx : ab x < 2 ^ 256) : (ab (x * y) < 2 ^ 256 ∧ mulV [x, y] = x * y ∧ mulE [x, y] = 0) ∨ (¬ ab (x * y) < 2 ^ 256 ∧ mulV [x, y] = 0 ∧ mulE [x, y] = 110) := by
  by_cases h : ab (x * y) < 2 ^ 256
  · refine .inl ⟨h, ?_, ?_⟩
    · simp only [mulV, mulF, Int.one_mul, if_pos hx, if_pos h]; rfl
    · simp only [mulE, mulF, Int.one_mul, if_pos hx, if_pos h]; rfl
  · refine .inr ⟨h, ?_, ?_⟩
    · simp only [mulV, mulF, Int.one_mul, if_pos hx, if_neg h]; rfl
    · simp only [mulE, mulF, Int.one_mul, if_pos hx, if_neg h]; rfl
theorem ab_tdiv (m n : Int) : ab (m.tdiv n) = ab m / ab n := by unfold ab; exact Int.natAbs_tdiv m n
theorem ab_tmod (m n : Int) : ab (m.tmod n) = ab m % ab n := by unfold ab; exact Int.natAbs_tmod m n
end Go.Proofs.Yteibcklcegkbcaa
