/-
  Walks: Of. Conditions stand in each theorem.
-/
import Derived.Test.YteibcklcegkbcaaLm15
namespace Go.Proofs.Yteibcklcegkbcaa
open Go.RowKit Go.BigFrame

theorem dg_small {m : Nat} (h : m < 18446744073709551616) : dg m 0 = m ∧ dg m 1 = 0 ∧ dg m 2 = 0 ∧ dg m 3 = 0 := by
  unfold dg
  rw [pow0, pow1, pow2, pow3, ← Nat.div_div_eq_div_mul, ← Nat.div_div_eq_div_mul, ← Nat.div_div_eq_div_mul]
  omega
theorem of_small (b : Bool) (v : Int) (m : Nat) (hv : v = m) (hm : m < 18446744073709551616) (w : World) :
    Calls Try.prog 48 #[.bool b, .agg #[.int .u64 v, .int .u64 0, .int .u64 0, .int .u64 0]] w fun e w' => e = .returned (.agg #[.bool (ng (zof b m)), .int .u64 (dg (ab (zof b m)) 0), .int .u64 (dg (ab (zof b m)) 1), .int .u64 (dg (ab (zof b m)) 2), .int .u64 (dg (ab (zof b m)) 3)]) ∧ Below w.heap.size w w' := by
  obtain ⟨d0, d1, d2, d3⟩ := dg_small hm
  have h := of_z b m (Nat.lt_of_lt_of_le hm (by decide)) w
  rw [d0, d1, d2, d3, ← hv] at h
  exact h
theorem wrap_neg (n : Int) (h1 : -9223372036854775808 ≤ n) (hs : n < 0) : IntKind.u64.wrap (-IntKind.u64.wrap n) = (ab n : Nat) := by
  unfold ab
  simp [IntKind.wrap, IntKind.bits, IntKind.signed]
  omega
set_option maxHeartbeats 1000000 in
theorem of_word (n : Int) (h1 : -9223372036854775808 ≤ n) (h2 : n < 9223372036854775808) (w : World) :
    Calls Try.prog 31 #[.int .i64 n] w fun e w' => e = .returned (.agg #[.bool (ng (n)), .int .u64 (dg (ab (n)) 0), .int .u64 (dg (ab (n)) 1), .int .u64 (dg (ab (n)) 2), .int .u64 (dg (ab (n)) 3)]) ∧ Below w.heap.size w w' := by
  have hab : ab n < 18446744073709551616 := by unfold ab; omega
  by_cases hs : n < 0
  · have hs' := hs
    have hw := Hd.mk (wrap_neg n h1 hs)
    have hz : Hd (zof true (ab n) = n) := ⟨by unfold zof ab; simp; omega⟩
    have HA := Hd.mk hab
    clear hab
    go_enter Try.func31, Try.ntmps31
    go_wp2_with fail
    refine (of_small _ _ _ hw.out HA.out _).mono ?_
    rw [hz.out]
    rintro e w1 ⟨rfl, hb1⟩
    have z1 : w1.heap[w.heap.size]? = some _ := heap_below hb1 (heap_old (heap_new w _) _)
    have c1 := cell_at z1
    have f1 := frozen_at z1
    have hw1 : Below w.heap.size w w1 := by
      focus (repeat (first | (with_reducible exact Below.refl _ _) | (with_reducible assumption) | ((with_reducible refine Below.setCell ?_ ?_ _); rotate_left; (focus (first | omega | (simp; done) | (simp; omega)))) | ((with_reducible refine Below.alloc ?_ ?_ _); rotate_left; (focus (first | omega | (simp; done) | (simp; omega)))) | (with_reducible refine Below.drew ?_) | (refine below_on ?_ (by assumption))))
    clear hb1
    go_wp2
    refine abs_post (fun W => W.heap[w.heap.size]? = some (.cells #[.bool (ng (n)), .int .u64 (dg (ab (n)) 0), .int .u64 (dg (ab (n)) 1), .int .u64 (dg (ab (n)) 2), .int .u64 (dg (ab (n)) 3)] 25 (0, 0)) ∧ Below w.heap.size w W) ?_ fun W ⟨y0, hB⟩ => ?_
    · obtain ⟨l1, l2, l3⟩ := laid_five w.heap.size w1 (.bool (ng n)) (.int .u64 (dg (ab n) 0)) (.int .u64 (dg (ab n) 1)) (.int .u64 (dg (ab n) 2)) (.int .u64 (dg (ab n) 3))
      exact ⟨l1 z1 rfl, hw1.trans (l3 _ (by omega))⟩
    · have c0 := cell_at y0
      refine bodyPost_ret (by simp [results, Try.results31, go_sem, c0]) rfl ⟨rfl, hB⟩
  · have hv : Hd (n = (ab n : Nat)) := ⟨by unfold ab; omega⟩
    have hz : Hd (zof false (ab n) = n) := ⟨by unfold zof ab; simp; omega⟩
    have HA := Hd.mk hab
    clear hab
    go_enter Try.func31, Try.ntmps31
    go_wp2_with fail
    refine (of_small _ _ _ hv.out HA.out _).mono ?_
    rw [hz.out]
    rintro e w1 ⟨rfl, hb1⟩
    have z1 : w1.heap[w.heap.size]? = some _ := heap_below hb1 (heap_old (heap_new w _) _)
    have c1 := cell_at z1
    have f1 := frozen_at z1
    have hw1 : Below w.heap.size w w1 := by
      focus (repeat (first | (with_reducible exact Below.refl _ _) | (with_reducible assumption) | ((with_reducible refine Below.setCell ?_ ?_ _); rotate_left; (focus (first | omega | (simp; done) | (simp; omega)))) | ((with_reducible refine Below.alloc ?_ ?_ _); rotate_left; (focus (first | omega | (simp; done) | (simp; omega)))) | (with_reducible refine Below.drew ?_) | (refine below_on ?_ (by assumption))))
    clear hb1
    go_wp2
    refine abs_post (fun W => W.heap[w.heap.size]? = some (.cells #[.bool (ng (n)), .int .u64 (dg (ab (n)) 0), .int .u64 (dg (ab (n)) 1), .int .u64 (dg (ab (n)) 2), .int .u64 (dg (ab (n)) 3)] 25 (0, 0)) ∧ Below w.heap.size w W) ?_ fun W ⟨y0, hB⟩ => ?_
    · obtain ⟨l1, l2, l3⟩ := laid_five w.heap.size w1 (.bool (ng n)) (.int .u64 (dg (ab n) 0)) (.int .u64 (dg (ab n) 1)) (.int .u64 (dg (ab n) 2)) (.int .u64 (dg (ab n) 3))
      exact ⟨l1 z1 rfl, hw1.trans (l3 _ (by omega))⟩
    · have c0 := cell_at y0
      refine bodyPost_ret (by simp [results, Try.results31, go_sem, c0]) rfl ⟨rfl, hB⟩
end Go.Proofs.Yteibcklcegkbcaa
