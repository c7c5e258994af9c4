/-
  Walks: Sign, Cmp. Conditions stand in each theorem.
-/
import Derived.Test.YteibcklcegkbcaaLm19
namespace Go.Proofs.Yteibcklcegkbcaa
open Go.RowKit Go.BigFrame

def sgn (z : Int) : Int := if z = 0 then 0 else if z < 0 then -1 else 1
set_option maxHeartbeats 1000000 in
theorem sign_ok (z : Int) (hz : ab z < 2 ^ 256) (w : World) :
    Calls Try.prog 34 #[.agg #[.bool (ng (z)), .int .u64 (dg (ab (z)) 0), .int .u64 (dg (ab (z)) 1), .int .u64 (dg (ab (z)) 2), .int .u64 (dg (ab (z)) 3)]] w fun e w' => e = .returned (.int .i64 (sgn z)) ∧ Below w.heap.size w w' := by
  have h3 := mag_zero hz
  have HZ := Hd.mk hz
  clear hz
  by_cases h0 : z = 0
  · have hS : Hd (sgn z = 0) := ⟨by unfold sgn; rw [if_pos h0]⟩
    have hb : ab z = 0 := by rw [h0]; rfl
    rw [decide_eq_true hb] at h3
    clear h0 hb
    go_enter Try.func34, Try.ntmps34
    go_wp2_with fail
    refine (check_ok z HZ.out _).mono ?_
    rintro e w1 ⟨rfl, hb1⟩
    have z1 : w1.heap[w.heap.size]? = some _ := heap_below hb1 (heap_new w _)
    have c1 := cell_at z1
    have f1 := frozen_at z1
    have hw1 : Below w.heap.size w w1 := by
      focus (repeat (first | (with_reducible exact Below.refl _ _) | (with_reducible assumption) | ((with_reducible refine Below.setCell ?_ ?_ _); rotate_left; (focus (first | omega | (simp; done) | (simp; omega)))) | ((with_reducible refine Below.alloc ?_ ?_ _); rotate_left; (focus (first | omega | (simp; done) | (simp; omega)))) | (with_reducible refine Below.drew ?_) | (refine below_on ?_ (by assumption))))
    clear hb1
    go_wp2
    rw [hS.out]
    go_ret
    exact ⟨rfl, hw1⟩
  · have hb : ¬ ab z = 0 := by unfold ab; omega
    rw [decide_eq_false hb] at h3
    by_cases h1 : z < 0
    · have hS : Hd (sgn z = -1) := ⟨by unfold sgn; rw [if_neg h0, if_pos h1]⟩
      have HN : Hd (ng z = true) := ⟨by unfold ng; simpa using h1⟩
      clear h0 hb h1
      go_enter Try.func34, Try.ntmps34
      go_wp2_with fail
      refine (check_ok z HZ.out _).mono ?_
      rintro e w1 ⟨rfl, hb1⟩
      have z1 : w1.heap[w.heap.size]? = some _ := heap_below hb1 (heap_new w _)
      have c1 := cell_at z1
      have f1 := frozen_at z1
      have hw1 : Below w.heap.size w w1 := by
        focus (repeat (first | (with_reducible exact Below.refl _ _) | (with_reducible assumption) | ((with_reducible refine Below.setCell ?_ ?_ _); rotate_left; (focus (first | omega | (simp; done) | (simp; omega)))) | ((with_reducible refine Below.alloc ?_ ?_ _); rotate_left; (focus (first | omega | (simp; done) | (simp; omega)))) | (with_reducible refine Below.drew ?_) | (refine below_on ?_ (by assumption))))
      clear hb1
      have hn := HN.out
      go_wp2
      rw [hS.out]
      go_ret
      exact ⟨rfl, hw1⟩
    · have hS : Hd (sgn z = 1) := ⟨by unfold sgn; rw [if_neg h0, if_neg h1]⟩
      have HN : Hd (ng z = false) := ⟨by unfold ng; simpa using h1⟩
      clear h0 hb h1
      go_enter Try.func34, Try.ntmps34
      go_wp2_with fail
      refine (check_ok z HZ.out _).mono ?_
      rintro e w1 ⟨rfl, hb1⟩
      have z1 : w1.heap[w.heap.size]? = some _ := heap_below hb1 (heap_new w _)
      have c1 := cell_at z1
      have f1 := frozen_at z1
      have hw1 : Below w.heap.size w w1 := by
        focus (repeat (first | (with_reducible exact Below.refl _ _) | (with_reducible assumption) | ((with_reducible refine Below.setCell ?_ ?_ _); rotate_left; (focus (first | omega | (simp; done) | (simp; omega)))) | ((with_reducible refine Below.alloc ?_ ?_ _); rotate_left; (focus (first | omega | (simp; done) | (simp; omega)))) | (with_reducible refine Below.drew ?_) | (refine below_on ?_ (by assumption))))
      clear hb1
      have hn := HN.out
      go_wp2
      rw [hS.out]
      go_ret
      exact ⟨rfl, hw1⟩
set_option maxHeartbeats 400000 in
theorem sign_bad (w : World) :
    Calls Try.prog 34 #[.agg #[.bool (true), .int .u64 (dg (0) 0), .int .u64 (dg (0) 1), .int .u64 (dg (0) 2), .int .u64 (dg (0) 3)]] w fun e w' => e = .returned (.int .i64 0) ∧ Below w.heap.size w w' := by
  go_enter Try.func34, Try.ntmps34
  go_wp2_with fail
  refine (check_bad _).mono ?_
  rintro e w1 ⟨rfl, hb1⟩
  have hw1 : Below w.heap.size w w1 := by
    focus (repeat (first | (with_reducible exact Below.refl _ _) | (with_reducible assumption) | ((with_reducible refine Below.setCell ?_ ?_ _); rotate_left; (focus (first | omega | (simp; done) | (simp; omega)))) | ((with_reducible refine Below.alloc ?_ ?_ _); rotate_left; (focus (first | omega | (simp; done) | (simp; omega)))) | (with_reducible refine Below.drew ?_) | (refine below_on ?_ (by assumption))))
  clear hb1
  go_wp2
  go_ret
  exact ⟨rfl, hw1⟩
end Go.Proofs.Yteibcklcegkbcaa
