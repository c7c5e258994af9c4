/-
  Walks: sums and differences of magnitudes, their order. Conditions stand in each theorem.
-/
import Derived.Test.YteibcklcegkbcaaLm1
namespace Go.Proofs.Yteibcklcegkbcaa
open Go.RowKit Go.BigFrame

/-- What the sum's cells hold behind k rounds. -/
def part4 (s k j : Nat) : Int := if j < k then dg s j else 0

theorem plus_digit (a b k : Nat) (w : World) : (callFunc 78 #[.int .u64 (dg a k), .int .u64 (dg b k), .int .u64 (car a b k)]).run Try.prog w =
    .ok (.value (.tuple #[.int .u64 (dg (a + b) k), .int .u64 (car a b (k + 1))])) w := by
  have h1 := dg_add a b k
  have hc := car_le a b k
  have ha := dg_nonneg a k
  have hb := dg_nonneg b k
  have hs := dg_nonneg (a + b) k
  rw [add64 _ _ _ ha hb (by omega) (by omega)]
  have e1 : (dg a k + dg b k + (car a b k : Int)) % 18446744073709551616 = dg (a + b) k := by omega
  have e2 : (dg a k + dg b k + (car a b k : Int)) / 18446744073709551616 = car a b (k + 1) := by omega
  rw [e1, e2]

def PlusPost (a b : Nat) (w : World) (e : Ending) (w' : World) : Prop :=
  e = (if a + b < 2 ^ 256 then .returned (.agg #[.int .u64 (dg (a + b) 0), .int .u64 (dg (a + b) 1), .int .u64 (dg (a + b) 2), .int .u64 (dg (a + b) 3)]) else .panicked [{ v := .iface 26 (.int .i64 110), recovered := false }]) ∧ Below w.heap.size w w'

set_option maxHeartbeats 400000 in
theorem plus_any (a b : Nat) (ha : a < 2 ^ 256) (hb : b < 2 ^ 256) (w : World) :
    Calls Try.prog 61 #[.agg #[.int .u64 (dg (a) 0), .int .u64 (dg (a) 1), .int .u64 (dg (a) 2), .int .u64 (dg (a) 3)], .agg #[.int .u64 (dg (b) 0), .int .u64 (dg (b) 1), .int .u64 (dg (b) 2), .int .u64 (dg (b) 3)]] w (PlusPost a b w) := by
  go_enter Try.func61, Try.ntmps61
  go_wp2
  go_loopw [5, 6, 7] (fun c _ i wr => ∃ k : Nat, k ≤ 4 ∧ i = .int .i64 k ∧ c = .int .u64 (car a b k) ∧ Below w.heap.size w wr ∧
      wr.heap[w.heap.size]? = some (.cells #[.int .u64 (dg (a) 0), .int .u64 (dg (a) 1), .int .u64 (dg (a) 2), .int .u64 (dg (a) 3)] 82 (0, 0)) ∧ wr.heap[w.heap.size + 1]? = some (.cells #[.int .u64 (dg (b) 0), .int .u64 (dg (b) 1), .int .u64 (dg (b) 2), .int .u64 (dg (b) 3)] 82 (0, 0)) ∧
      wr.heap[w.heap.size + 2]? = some (.cells #[.int .u64 (part4 (a + b) k 0), .int .u64 (part4 (a + b) k 1), .int .u64 (part4 (a + b) k 2), .int .u64 (part4 (a + b) k 3)] 82 (0, 0)))
    (fun _ _ i _ => 4 - (intOf i).toNat)
  case atStart =>
    refine ⟨0, by omega, rfl, by rw [car_zero]; rfl, ?_, ?_, ?_, ?_⟩
    focus (repeat (first | (with_reducible exact Below.refl _ _) | (with_reducible assumption) | ((with_reducible refine Below.setCell ?_ ?_ _); rotate_left; (focus (first | omega | (simp; done) | (simp; omega)))) | ((with_reducible refine Below.alloc ?_ ?_ _); rotate_left; (focus (first | omega | (simp; done) | (simp; omega)))) | (with_reducible refine Below.drew ?_) | (refine below_on ?_ (by assumption))))
    · exact heap_old (heap_old (heap_new _ _) _) _
    · exact heap_old (heap_at (by simp) _) _
    · exact heap_at (by simp) _
  case round =>
    obtain ⟨k, hk, rfl, rfl, hB, h0, h1, h2⟩ := hrel
    by_cases hlt : k < 4
    · have hadd := fun W => plus_digit a b k W
      obtain rfl | rfl | rfl | rfl : k = 0 ∨ k = 1 ∨ k = 2 ∨ k = 3 := by omega
      all_goals
        clear hk hlt
        go_wp2
        refine region_mix 13 (by kernel_rfl) (by kernel_rfl) (fun _ _ _ _ h => h) fun X _ mk hmk hcl => ?_
        have c0 := mk_cell hmk h0
        have c1 := mk_cell hmk h1
        simp only [List.take_succ_cons, List.take_zero, List.drop_succ_cons, List.drop_zero]
        repeat (go_big_quiet_step (skip))
        refine wpQuiet_nil ?_
        rintro _ ⟨x, rfl⟩
        clear c0 c1
        have hx := hmk x
        clear hcl hmk
        generalize mk x = W1 at hx
        have h0 := heap_below hx h0
        have h1 := heap_below hx h1
        have h2 := heap_below hx h2
        have c2 := cell_at h2
        have f2 := frozen_at h2
        have hs := lt_of_block h2
        go_wp2
        go_roundw
        case rel =>
          refine ⟨_, by omega, by go_num, rfl, ?_, ?_, ?_, ?_⟩
          focus (repeat (first | (with_reducible exact Below.refl _ _) | (with_reducible assumption) | ((with_reducible refine Below.setCell ?_ ?_ _); rotate_left; (focus (first | omega | (simp; done) | (simp; omega)))) | ((with_reducible refine Below.alloc ?_ ?_ _); rotate_left; (focus (first | omega | (simp; done) | (simp; omega)))) | (with_reducible refine Below.drew ?_) | (refine below_on ?_ (by assumption))))
          · exact heap_set_other h0 (by first | (simp; done) | (simp; omega)) _
          · exact heap_set_other h1 (by first | (simp; done) | (simp; omega)) _
          · refine (heap_set h2 _ _).trans ?_
            simp [part4]
        case measure => simp [intOf]
    · obtain rfl : k = 4 := by omega
      have h4 := car_last ha hb
      have c2 := cell_at h2
      have f2 := frozen_at h2
      have hs := lt_of_block h2
      by_cases hov : a + b < 2 ^ 256
      · have hc : ((car a b 4 : Int) == 0) = true := by rw [h4.2 hov]; rfl
        have HO := Hd.mk hov
        clear h4 hov
        go_wp2_with (go_at_call 46; refine (must_ok _ _).mono ?_; rintro e w' ⟨rfl, rfl⟩)
        refine bodyPost_ret (by simp [results, Try.results61, go_sem, c2]; rfl) rfl ⟨?_, ?_⟩
        · rw [if_pos HO.out]; simp [part4]
        focus (repeat (first | (with_reducible exact Below.refl _ _) | (with_reducible assumption) | ((with_reducible refine Below.setCell ?_ ?_ _); rotate_left; (focus (first | omega | (simp; done) | (simp; omega)))) | ((with_reducible refine Below.alloc ?_ ?_ _); rotate_left; (focus (first | omega | (simp; done) | (simp; omega)))) | (with_reducible refine Below.drew ?_) | (refine below_on ?_ (by assumption))))
      · have hc : ((car a b 4 : Int) == 0) = false := by
          rw [beq_eq_false_iff_ne]
          intro h
          exact hov (h4.1 (by omega))
        have HO := Hd.mk hov
        clear h4 hov
        go_wp2_with (go_at_call 46; refine (must_no _ _).mono ?_; rintro e w' ⟨rfl, rfl⟩)
        exact ⟨rfl, by rw [if_neg HO.out], hB⟩
end Go.Proofs.Yteibcklcegkbcaa
