/-
  The walk of divides, path by path (printed by gen/divides.py of this project). Conditions stand in each theorem.
-/
import Derived.Test.YteibcklcegkbcaaLm29
namespace Go.Proofs.Yteibcklcegkbcaa
open Go.RowKit Go.BigFrame

theorem cmp_at (m n c : Int) (hx : ab m < 2 ^ 256) (hy : ab n < 2 ^ 256) (h : sgn (m - n) = c) (w : World) :
    Calls Try.prog 40 #[.agg #[.bool (ng (m)), .int .u64 (dg (ab (m)) 0), .int .u64 (dg (ab (m)) 1), .int .u64 (dg (ab (m)) 2), .int .u64 (dg (ab (m)) 3)], .agg #[.bool (ng (n)), .int .u64 (dg (ab (n)) 0), .int .u64 (dg (ab (n)) 1), .int .u64 (dg (ab (n)) 2), .int .u64 (dg (ab (n)) 3)]] w fun e w' => e = .returned (.tuple #[.int .i64 c, .int .i64 0]) ∧ Below w.heap.size w w' := h ▸ cmp_ok m n hx hy w
/-- The sign is struck. -/
theorem struck {W : World} {b : Nat} {z : Int} {t : TypeId} (h : W.heap[b]? = some (.cells #[.bool (ng (z)), .int .u64 (dg (ab (z)) 0), .int .u64 (dg (ab (z)) 1), .int .u64 (dg (ab (z)) 2), .int .u64 (dg (ab (z)) 3)] t (0, 0))) :
    (W.setCell ⟨b, 0, none⟩ (.bool false)).heap[b]? = some (.cells #[.bool (ng ((ab z : Nat) : Int)), .int .u64 (dg (ab ((ab z : Nat) : Int)) 0), .int .u64 (dg (ab ((ab z : Nat) : Int)) 1), .int .u64 (dg (ab ((ab z : Nat) : Int)) 2), .int .u64 (dg (ab ((ab z : Nat) : Int)) 3)] t (0, 0)) := by
  have := heap_set h 0 (.bool false)
  rw [ng_nat, ab_nat]
  simpa using this
set_option maxRecDepth 100000 in
set_option maxHeartbeats 4000000 in
theorem divides_a (m n D R g X U : Int) (HX : Hd (ab m < 2 ^ 256)) (HY : Hd (ab n < 2 ^ 256)) (HN : Hd (n ≠ 0)) (HD : Hd (m.tdiv n = D)) (HR : Hd (m.tmod n = R)) (HDB : Hd (ab D < 2 ^ 256)) (HRB : Hd (ab R < 2 ^ 256)) (HPB : Hd (ab (D * n) < 2 ^ 256)) (HM1 : Hd (mulV [D, n] = D * n)) (HM2 : Hd (mulE [D, n] = 0)) (HA1 : Hd (addV [D * n, R] = m)) (HA2 : Hd (addE [D * n, R] = 0)) (HRA : Hd (ab ((ab R : Nat) : Int) < 2 ^ 256)) (HNA : Hd (ab ((ab n : Nat) : Int) < 2 ^ 256)) (HC : Hd (sgn (((ab R : Nat) : Int) - ((ab n : Nat) : Int)) = -1)) (HB9 : Hd (ab (((ab n : Nat) : Int)) < 2 ^ 256)) (HG : Hd (((Nat.gcd (ab m) (ab (((ab n : Nat) : Int))) : Nat) : Int) = g)) (HZ3 : Hd (ng g = false)) (HZ2 : Hd (dg (ab g) 0 = 0 → dg (ab g) 1 = 0 → dg (ab g) 2 = 0 → ¬dg (ab g) 3 = 0)) (HGB : Hd (ab g < 2 ^ 256)) (HG0 : Hd (g ≠ 0)) (HQ1 : Hd (m.tdiv g = X)) (HR1 : Hd (m.tmod g = 0)) (HQ2 : Hd ((((ab n : Nat) : Int) : Int).tdiv g = U)) (HR2 : Hd ((((ab n : Nat) : Int) : Int).tmod g = 0)) (HXB : Hd (ab X < 2 ^ 256)) (HUB : Hd (ab U < 2 ^ 256)) (HG1 : Hd (((Nat.gcd (ab X) (ab U) : Nat) : Int) = 1)) (w : World) :
    Calls Try.prog 42 #[.agg #[.bool (ng (m)), .int .u64 (dg (ab (m)) 0), .int .u64 (dg (ab (m)) 1), .int .u64 (dg (ab (m)) 2), .int .u64 (dg (ab (m)) 3)], .agg #[.bool (ng (n)), .int .u64 (dg (ab (n)) 0), .int .u64 (dg (ab (n)) 1), .int .u64 (dg (ab (n)) 2), .int .u64 (dg (ab (n)) 3)]] w fun e w' => e = .returned (.bool true) ∧ Below w.heap.size w w' := by
  go_enter Try.func42, Try.ntmps42
  have hB := Below.refl w.heap.size w
  have hsz := hB.size
  go_upto_region 1 with (fail)
  refine abs_wp (fun W => W.heap[w.heap.size]? = some (.cells #[.bool (ng (m)), .int .u64 (dg (ab (m)) 0), .int .u64 (dg (ab (m)) 1), .int .u64 (dg (ab (m)) 2), .int .u64 (dg (ab (m)) 3)] 25 (0, 0)) ∧ W.heap[w.heap.size + 1]? = some (.cells #[.bool (ng (n)), .int .u64 (dg (ab (n)) 0), .int .u64 (dg (ab (n)) 1), .int .u64 (dg (ab (n)) 2), .int .u64 (dg (ab (n)) 3)] 25 (0, 0)) ∧ Below w.heap.size w W) ⟨heap_old (heap_new _ _) _, heap_at (by simp) _, (by focus (repeat (first | (with_reducible exact Below.refl _ _) | (with_reducible assumption) | ((with_reducible refine Below.setCell ?_ ?_ _); rotate_left; (focus (first | omega | (simp; done) | (simp; omega)))) | ((with_reducible refine Below.alloc ?_ ?_ _); rotate_left; (focus (first | omega | (simp; done) | (simp; omega)))) | (with_reducible refine Below.drew ?_) | (refine below_on ?_ (by assumption)))))⟩ fun W1 ⟨g_a, g_b, gB⟩ => ?_
  clear hB hsz 
  have h_a := g_a
  have h_b := g_b
  have hB := gB
  clear gB g_a g_b
  have c_a := cell_at h_a
  have c_b := cell_at h_b
  go_wp2_with fail
  refine (quo_at m n D R HX.out HY.out HN.out HD.out HR.out _).mono ?_
  rintro e w2 ⟨rfl, hb⟩
  have k_a := heap_below hb h_a
  have k_b := heap_below hb h_b
  have kB : Below w.heap.size w w2 := by
    have hsz := hB.size
    focus (repeat (first | (with_reducible exact Below.refl _ _) | (with_reducible assumption) | ((with_reducible refine Below.setCell ?_ ?_ _); rotate_left; (focus (first | omega | (simp; done) | (simp; omega)))) | ((with_reducible refine Below.alloc ?_ ?_ _); rotate_left; (focus (first | omega | (simp; done) | (simp; omega)))) | (with_reducible refine Below.drew ?_) | (refine below_on ?_ (by assumption))))
  have sz_w2 := kB.size
  have sl_w2 := lt_of_block k_b
  clear hB hb h_a h_b
  have h_a := k_a
  have h_b := k_b
  have hB := kB
  clear kB k_a k_b
  have hsz := hB.size
  go_upto_region 3 with ((go_at_call 14; refine (num_s _ _).mono ?_; rintro e w' ⟨rfl, rfl⟩))
  refine abs_wp (fun W => W.heap[w.heap.size]? = some (.cells #[.bool (ng (m)), .int .u64 (dg (ab (m)) 0), .int .u64 (dg (ab (m)) 1), .int .u64 (dg (ab (m)) 2), .int .u64 (dg (ab (m)) 3)] 25 (0, 0)) ∧ W.heap[w.heap.size + 1]? = some (.cells #[.bool (ng (n)), .int .u64 (dg (ab (n)) 0), .int .u64 (dg (ab (n)) 1), .int .u64 (dg (ab (n)) 2), .int .u64 (dg (ab (n)) 3)] 25 (0, 0)) ∧ W.heap[w2.heap.size]? = some (.cells #[.bool (ng (D)), .int .u64 (dg (ab (D)) 0), .int .u64 (dg (ab (D)) 1), .int .u64 (dg (ab (D)) 2), .int .u64 (dg (ab (D)) 3)] 25 (0, 0)) ∧ W.heap[w2.heap.size + 1]? = some (.cells #[.bool (ng (R)), .int .u64 (dg (ab (R)) 0), .int .u64 (dg (ab (R)) 1), .int .u64 (dg (ab (R)) 2), .int .u64 (dg (ab (R)) 3)] 25 (0, 0)) ∧ Below w.heap.size w W) ⟨heap_old (heap_old (h_a) _) _, heap_old (heap_old (h_b) _) _, heap_old (heap_new _ _) _, heap_at (by simp) _, (by focus (repeat (first | (with_reducible exact Below.refl _ _) | (with_reducible assumption) | ((with_reducible refine Below.setCell ?_ ?_ _); rotate_left; (focus (first | omega | (simp; done) | (simp; omega)))) | ((with_reducible refine Below.alloc ?_ ?_ _); rotate_left; (focus (first | omega | (simp; done) | (simp; omega)))) | (with_reducible refine Below.drew ?_) | (refine below_on ?_ (by assumption)))))⟩ fun W3 ⟨g_a, g_b, g_q, g_r, gB⟩ => ?_
  clear hB hsz h_a h_b
  have h_a := g_a
  have h_b := g_b
  have h_q := g_q
  have h_r := g_r
  have hB := gB
  clear gB g_a g_b g_q g_r
  have c_q := cell_at h_q
  have c_b := cell_at h_b
  go_wp2_with fail
  refine (mul_at _ _ [D, n] (D * n) 0 _ (ints_two_z (b := W3.heap.size) HDB.out HY.out (by focus (repeat (first | (with_reducible exact heap_at (by first | rfl | (simp; done) | (simp; omega)) _) | (with_reducible refine heap_old ?_ _))))) HM1.out HM2.out).mono ?_
  rintro e w4 ⟨rfl, hb⟩
  have k_a := heap_below hb (heap_old h_a _)
  have k_b := heap_below hb (heap_old h_b _)
  have k_q := heap_below hb (heap_old h_q _)
  have k_r := heap_below hb (heap_old h_r _)
  have kB : Below w.heap.size w w4 := by
    have hsz := hB.size
    focus (repeat (first | (with_reducible exact Below.refl _ _) | (with_reducible assumption) | ((with_reducible refine Below.setCell ?_ ?_ _); rotate_left; (focus (first | omega | (simp; done) | (simp; omega)))) | ((with_reducible refine Below.alloc ?_ ?_ _); rotate_left; (focus (first | omega | (simp; done) | (simp; omega)))) | (with_reducible refine Below.drew ?_) | (refine below_on ?_ (by assumption))))
  have sz_w4 := kB.size
  have sl_w4 := lt_of_block k_r
  clear hB hb h_a h_b h_q h_r
  have h_a := k_a
  have h_b := k_b
  have h_q := k_q
  have h_r := k_r
  have hB := kB
  clear kB k_a k_b k_q k_r
  have hsz := hB.size
  go_upto_region 4 with (fail)
  refine abs_wp (fun W => W.heap[w.heap.size]? = some (.cells #[.bool (ng (m)), .int .u64 (dg (ab (m)) 0), .int .u64 (dg (ab (m)) 1), .int .u64 (dg (ab (m)) 2), .int .u64 (dg (ab (m)) 3)] 25 (0, 0)) ∧ W.heap[w.heap.size + 1]? = some (.cells #[.bool (ng (n)), .int .u64 (dg (ab (n)) 0), .int .u64 (dg (ab (n)) 1), .int .u64 (dg (ab (n)) 2), .int .u64 (dg (ab (n)) 3)] 25 (0, 0)) ∧ W.heap[w2.heap.size]? = some (.cells #[.bool (ng (D)), .int .u64 (dg (ab (D)) 0), .int .u64 (dg (ab (D)) 1), .int .u64 (dg (ab (D)) 2), .int .u64 (dg (ab (D)) 3)] 25 (0, 0)) ∧ W.heap[w2.heap.size + 1]? = some (.cells #[.bool (ng (R)), .int .u64 (dg (ab (R)) 0), .int .u64 (dg (ab (R)) 1), .int .u64 (dg (ab (R)) 2), .int .u64 (dg (ab (R)) 3)] 25 (0, 0)) ∧ W.heap[w4.heap.size]? = some (.cells #[.bool (ng (D * n)), .int .u64 (dg (ab (D * n)) 0), .int .u64 (dg (ab (D * n)) 1), .int .u64 (dg (ab (D * n)) 2), .int .u64 (dg (ab (D * n)) 3)] 25 (0, 0)) ∧ Below w.heap.size w W) ⟨heap_old (h_a) _, heap_old (h_b) _, heap_old (h_q) _, heap_old (h_r) _, heap_new _ _, (by focus (repeat (first | (with_reducible exact Below.refl _ _) | (with_reducible assumption) | ((with_reducible refine Below.setCell ?_ ?_ _); rotate_left; (focus (first | omega | (simp; done) | (simp; omega)))) | ((with_reducible refine Below.alloc ?_ ?_ _); rotate_left; (focus (first | omega | (simp; done) | (simp; omega)))) | (with_reducible refine Below.drew ?_) | (refine below_on ?_ (by assumption)))))⟩ fun W5 ⟨g_a, g_b, g_q, g_r, g_p, gB⟩ => ?_
  clear hB hsz h_a h_b h_q h_r
  have h_a := g_a
  have h_b := g_b
  have h_q := g_q
  have h_r := g_r
  have h_p := g_p
  have hB := gB
  clear gB g_a g_b g_q g_r g_p
  have c_p := cell_at h_p
  have c_r := cell_at h_r
  go_wp2_with fail
  refine (add_at _ _ [D * n, R] m 0 _ (ints_two_z (b := W5.heap.size) HPB.out HRB.out (by focus (repeat (first | (with_reducible exact heap_at (by first | rfl | (simp; done) | (simp; omega)) _) | (with_reducible refine heap_old ?_ _))))) HA1.out HA2.out).mono ?_
  rintro e w6 ⟨rfl, hb⟩
  have k_a := heap_below hb (heap_old h_a _)
  have k_b := heap_below hb (heap_old h_b _)
  have k_q := heap_below hb (heap_old h_q _)
  have k_r := heap_below hb (heap_old h_r _)
  have k_p := heap_below hb (heap_old h_p _)
  have kB : Below w.heap.size w w6 := by
    have hsz := hB.size
    focus (repeat (first | (with_reducible exact Below.refl _ _) | (with_reducible assumption) | ((with_reducible refine Below.setCell ?_ ?_ _); rotate_left; (focus (first | omega | (simp; done) | (simp; omega)))) | ((with_reducible refine Below.alloc ?_ ?_ _); rotate_left; (focus (first | omega | (simp; done) | (simp; omega)))) | (with_reducible refine Below.drew ?_) | (refine below_on ?_ (by assumption))))
  have sz_w6 := kB.size
  have sl_w6 := lt_of_block k_p
  clear hB hb h_a h_b h_q h_r h_p
  have h_a := k_a
  have h_b := k_b
  have h_q := k_q
  have h_r := k_r
  have h_p := k_p
  have hB := kB
  clear kB k_a k_b k_q k_r k_p
  have hsz := hB.size
  go_upto_region 5 with (fail)
  refine abs_wp (fun W => W.heap[w.heap.size]? = some (.cells #[.bool (ng (m)), .int .u64 (dg (ab (m)) 0), .int .u64 (dg (ab (m)) 1), .int .u64 (dg (ab (m)) 2), .int .u64 (dg (ab (m)) 3)] 25 (0, 0)) ∧ W.heap[w.heap.size + 1]? = some (.cells #[.bool (ng (n)), .int .u64 (dg (ab (n)) 0), .int .u64 (dg (ab (n)) 1), .int .u64 (dg (ab (n)) 2), .int .u64 (dg (ab (n)) 3)] 25 (0, 0)) ∧ W.heap[w2.heap.size]? = some (.cells #[.bool (ng (D)), .int .u64 (dg (ab (D)) 0), .int .u64 (dg (ab (D)) 1), .int .u64 (dg (ab (D)) 2), .int .u64 (dg (ab (D)) 3)] 25 (0, 0)) ∧ W.heap[w2.heap.size + 1]? = some (.cells #[.bool (ng (R)), .int .u64 (dg (ab (R)) 0), .int .u64 (dg (ab (R)) 1), .int .u64 (dg (ab (R)) 2), .int .u64 (dg (ab (R)) 3)] 25 (0, 0)) ∧ W.heap[w4.heap.size]? = some (.cells #[.bool (ng (D * n)), .int .u64 (dg (ab (D * n)) 0), .int .u64 (dg (ab (D * n)) 1), .int .u64 (dg (ab (D * n)) 2), .int .u64 (dg (ab (D * n)) 3)] 25 (0, 0)) ∧ W.heap[w6.heap.size]? = some (.cells #[.bool (ng (m)), .int .u64 (dg (ab (m)) 0), .int .u64 (dg (ab (m)) 1), .int .u64 (dg (ab (m)) 2), .int .u64 (dg (ab (m)) 3)] 25 (0, 0)) ∧ Below w.heap.size w W) ⟨heap_old (h_a) _, heap_old (h_b) _, heap_old (h_q) _, heap_old (h_r) _, heap_old (h_p) _, heap_new _ _, (by focus (repeat (first | (with_reducible exact Below.refl _ _) | (with_reducible assumption) | ((with_reducible refine Below.setCell ?_ ?_ _); rotate_left; (focus (first | omega | (simp; done) | (simp; omega)))) | ((with_reducible refine Below.alloc ?_ ?_ _); rotate_left; (focus (first | omega | (simp; done) | (simp; omega)))) | (with_reducible refine Below.drew ?_) | (refine below_on ?_ (by assumption)))))⟩ fun W7 ⟨g_a, g_b, g_q, g_r, g_p, g_s, gB⟩ => ?_
  clear hB hsz h_a h_b h_q h_r h_p
  have h_a := g_a
  have h_b := g_b
  have h_q := g_q
  have h_r := g_r
  have h_p := g_p
  have h_s := g_s
  have hB := gB
  clear gB g_a g_b g_q g_r g_p g_s
  have f_r := frozen_at h_r
  have f_b := frozen_at h_b
  have c_r := cell_at h_r
  have c_b := cell_at h_b
  go_upto_region 6 with (fail)
  have hsz := hB.size
  have l_s := lt_of_block h_s
  have l_r := lt_of_block h_r
  have l_p := lt_of_block h_p
  refine abs_wp (fun W => W.heap[w.heap.size]? = some (.cells #[.bool (ng (m)), .int .u64 (dg (ab (m)) 0), .int .u64 (dg (ab (m)) 1), .int .u64 (dg (ab (m)) 2), .int .u64 (dg (ab (m)) 3)] 25 (0, 0)) ∧ W.heap[w6.heap.size]? = some (.cells #[.bool (ng (m)), .int .u64 (dg (ab (m)) 0), .int .u64 (dg (ab (m)) 1), .int .u64 (dg (ab (m)) 2), .int .u64 (dg (ab (m)) 3)] 25 (0, 0)) ∧ W.heap[w2.heap.size + 1]? = some (.cells #[.bool (ng (((ab R : Nat) : Int))), .int .u64 (dg (ab (((ab R : Nat) : Int))) 0), .int .u64 (dg (ab (((ab R : Nat) : Int))) 1), .int .u64 (dg (ab (((ab R : Nat) : Int))) 2), .int .u64 (dg (ab (((ab R : Nat) : Int))) 3)] 25 (0, 0)) ∧ W.heap[w.heap.size + 1]? = some (.cells #[.bool (ng (((ab n : Nat) : Int))), .int .u64 (dg (ab (((ab n : Nat) : Int))) 0), .int .u64 (dg (ab (((ab n : Nat) : Int))) 1), .int .u64 (dg (ab (((ab n : Nat) : Int))) 2), .int .u64 (dg (ab (((ab n : Nat) : Int))) 3)] 25 (0, 0)) ∧ Below w.heap.size w W) ⟨heap_set_other (heap_set_other h_a (by first | (simp; omega) | (simp; done)) _) (by first | (simp; omega) | (simp; done)) _, heap_set_other (heap_set_other h_s (by first | (simp; omega) | (simp; done)) _) (by first | (simp; omega) | (simp; done)) _, heap_set_other (struck h_r) (by first | (simp; omega) | (simp; done)) _, struck (heap_set_other h_b (by first | (simp; omega) | (simp; done)) _), (by focus (repeat (first | (with_reducible exact Below.refl _ _) | (with_reducible assumption) | ((with_reducible refine Below.setCell ?_ ?_ _); rotate_left; (focus (first | omega | (simp; done) | (simp; omega)))) | ((with_reducible refine Below.alloc ?_ ?_ _); rotate_left; (focus (first | omega | (simp; done) | (simp; omega)))) | (with_reducible refine Below.drew ?_) | (refine below_on ?_ (by assumption)))))⟩ fun W8 ⟨g_a, g_s, g_r, g_b, gB⟩ => ?_
  clear hB h_a h_b h_q h_r h_p h_s f_r f_b c_r c_b l_s l_r l_p hsz
  have h_a := g_a
  have h_s := g_s
  have h_r := g_r
  have h_b := g_b
  have hB := gB
  clear gB g_a g_s g_r g_b
  have c_r := cell_at h_r
  have c_b := cell_at h_b
  go_wp2_with fail
  refine (cmp_at ((ab R : Nat) : Int) ((ab n : Nat) : Int) (-1) HRA.out HNA.out HC.out _).mono ?_
  rintro e w9 ⟨rfl, hb⟩
  have k_a := heap_below hb h_a
  have k_s := heap_below hb h_s
  have k_r := heap_below hb h_r
  have k_b := heap_below hb h_b
  have kB : Below w.heap.size w w9 := by
    have hsz := hB.size
    focus (repeat (first | (with_reducible exact Below.refl _ _) | (with_reducible assumption) | ((with_reducible refine Below.setCell ?_ ?_ _); rotate_left; (focus (first | omega | (simp; done) | (simp; omega)))) | ((with_reducible refine Below.alloc ?_ ?_ _); rotate_left; (focus (first | omega | (simp; done) | (simp; omega)))) | (with_reducible refine Below.drew ?_) | (refine below_on ?_ (by assumption))))
  have sz_w9 := kB.size
  have sl_w9 := lt_of_block k_b
  clear hB hb h_a h_s h_r h_b
  have h_a := k_a
  have h_s := k_s
  have h_r := k_r
  have h_b := k_b
  have hB := kB
  clear kB k_a k_s k_r k_b
  have c_s := cell_at h_s
  have c_a := cell_at h_a
  go_upto_region 9 with ((go_at_call 14; refine (num_s _ _).mono ?_; rintro e w' ⟨rfl, rfl⟩))
  refine abs_wp (fun W => W.heap[w.heap.size]? = some (.cells #[.bool (ng (m)), .int .u64 (dg (ab (m)) 0), .int .u64 (dg (ab (m)) 1), .int .u64 (dg (ab (m)) 2), .int .u64 (dg (ab (m)) 3)] 25 (0, 0)) ∧ W.heap[w.heap.size + 1]? = some (.cells #[.bool (ng (((ab n : Nat) : Int))), .int .u64 (dg (ab (((ab n : Nat) : Int))) 0), .int .u64 (dg (ab (((ab n : Nat) : Int))) 1), .int .u64 (dg (ab (((ab n : Nat) : Int))) 2), .int .u64 (dg (ab (((ab n : Nat) : Int))) 3)] 25 (0, 0)) ∧ Below w.heap.size w W) ⟨h_a, h_b, (by focus (repeat (first | (with_reducible exact Below.refl _ _) | (with_reducible assumption) | ((with_reducible refine Below.setCell ?_ ?_ _); rotate_left; (focus (first | omega | (simp; done) | (simp; omega)))) | ((with_reducible refine Below.alloc ?_ ?_ _); rotate_left; (focus (first | omega | (simp; done) | (simp; omega)))) | (with_reducible refine Below.drew ?_) | (refine below_on ?_ (by assumption)))))⟩ fun W10 ⟨g_a, g_b, gB⟩ => ?_
  clear hB h_a h_s h_r h_b
  have h_a := g_a
  have h_b := g_b
  have hB := gB
  clear gB g_a g_b
  have c_a := cell_at h_a
  have c_b := cell_at h_b
  go_wp2_with fail
  refine (gcd_at m (((ab n : Nat) : Int)) g HX.out HB9.out HG.out _).mono ?_
  rintro e w11 ⟨rfl, hb⟩
  have k_a := heap_below hb h_a
  have k_b := heap_below hb h_b
  have kB : Below w.heap.size w w11 := by
    have hsz := hB.size
    focus (repeat (first | (with_reducible exact Below.refl _ _) | (with_reducible assumption) | ((with_reducible refine Below.setCell ?_ ?_ _); rotate_left; (focus (first | omega | (simp; done) | (simp; omega)))) | ((with_reducible refine Below.alloc ?_ ?_ _); rotate_left; (focus (first | omega | (simp; done) | (simp; omega)))) | (with_reducible refine Below.drew ?_) | (refine below_on ?_ (by assumption))))
  have sz_w11 := kB.size
  have sl_w11 := lt_of_block k_b
  clear hB hb h_a h_b
  have h_a := k_a
  have h_b := k_b
  have hB := kB
  clear kB k_a k_b
  have hsz := hB.size
  go_upto_region 10 with (fail)
  refine abs_wp (fun W => W.heap[w.heap.size]? = some (.cells #[.bool (ng (m)), .int .u64 (dg (ab (m)) 0), .int .u64 (dg (ab (m)) 1), .int .u64 (dg (ab (m)) 2), .int .u64 (dg (ab (m)) 3)] 25 (0, 0)) ∧ W.heap[w.heap.size + 1]? = some (.cells #[.bool (ng (((ab n : Nat) : Int))), .int .u64 (dg (ab (((ab n : Nat) : Int))) 0), .int .u64 (dg (ab (((ab n : Nat) : Int))) 1), .int .u64 (dg (ab (((ab n : Nat) : Int))) 2), .int .u64 (dg (ab (((ab n : Nat) : Int))) 3)] 25 (0, 0)) ∧ W.heap[w11.heap.size]? = some (.cells #[.bool (ng (g)), .int .u64 (dg (ab (g)) 0), .int .u64 (dg (ab (g)) 1), .int .u64 (dg (ab (g)) 2), .int .u64 (dg (ab (g)) 3)] 25 (0, 0)) ∧ Below w.heap.size w W) ⟨heap_old (h_a) _, heap_old (h_b) _, heap_new _ _, (by focus (repeat (first | (with_reducible exact Below.refl _ _) | (with_reducible assumption) | ((with_reducible refine Below.setCell ?_ ?_ _); rotate_left; (focus (first | omega | (simp; done) | (simp; omega)))) | ((with_reducible refine Below.alloc ?_ ?_ _); rotate_left; (focus (first | omega | (simp; done) | (simp; omega)))) | (with_reducible refine Below.drew ?_) | (refine below_on ?_ (by assumption)))))⟩ fun W12 ⟨g_a, g_b, g_d, gB⟩ => ?_
  clear hB hsz h_a h_b
  have h_a := g_a
  have h_b := g_b
  have h_d := g_d
  have hB := gB
  clear gB g_a g_b g_d
  have c_d := cell_at h_d
  have hng := HZ3.out
  have hA := HZ2.out
  go_upto_region 12 with ((go_at_call 14; refine (num_s _ _).mono ?_; rintro e w' ⟨rfl, rfl⟩))
  clear hng hA
  refine abs_wp (fun W => W.heap[w.heap.size]? = some (.cells #[.bool (ng (m)), .int .u64 (dg (ab (m)) 0), .int .u64 (dg (ab (m)) 1), .int .u64 (dg (ab (m)) 2), .int .u64 (dg (ab (m)) 3)] 25 (0, 0)) ∧ W.heap[w.heap.size + 1]? = some (.cells #[.bool (ng (((ab n : Nat) : Int))), .int .u64 (dg (ab (((ab n : Nat) : Int))) 0), .int .u64 (dg (ab (((ab n : Nat) : Int))) 1), .int .u64 (dg (ab (((ab n : Nat) : Int))) 2), .int .u64 (dg (ab (((ab n : Nat) : Int))) 3)] 25 (0, 0)) ∧ W.heap[w11.heap.size]? = some (.cells #[.bool (ng (g)), .int .u64 (dg (ab (g)) 0), .int .u64 (dg (ab (g)) 1), .int .u64 (dg (ab (g)) 2), .int .u64 (dg (ab (g)) 3)] 25 (0, 0)) ∧ Below w.heap.size w W) ⟨h_a, h_b, h_d, (by focus (repeat (first | (with_reducible exact Below.refl _ _) | (with_reducible assumption) | ((with_reducible refine Below.setCell ?_ ?_ _); rotate_left; (focus (first | omega | (simp; done) | (simp; omega)))) | ((with_reducible refine Below.alloc ?_ ?_ _); rotate_left; (focus (first | omega | (simp; done) | (simp; omega)))) | (with_reducible refine Below.drew ?_) | (refine below_on ?_ (by assumption)))))⟩ fun W13 ⟨g_a, g_b, g_d, gB⟩ => ?_
  clear hB h_a h_b h_d
  have h_a := g_a
  have h_b := g_b
  have h_d := g_d
  have hB := gB
  clear gB g_a g_b g_d
  have c_a := cell_at h_a
  have c_d := cell_at h_d
  go_wp2_with fail
  refine (quo_at m g X 0 HX.out HGB.out HG0.out HQ1.out HR1.out _).mono ?_
  rintro e w14 ⟨rfl, hb⟩
  have k_a := heap_below hb h_a
  have k_b := heap_below hb h_b
  have k_d := heap_below hb h_d
  have kB : Below w.heap.size w w14 := by
    have hsz := hB.size
    focus (repeat (first | (with_reducible exact Below.refl _ _) | (with_reducible assumption) | ((with_reducible refine Below.setCell ?_ ?_ _); rotate_left; (focus (first | omega | (simp; done) | (simp; omega)))) | ((with_reducible refine Below.alloc ?_ ?_ _); rotate_left; (focus (first | omega | (simp; done) | (simp; omega)))) | (with_reducible refine Below.drew ?_) | (refine below_on ?_ (by assumption))))
  have sz_w14 := kB.size
  have sl_w14 := lt_of_block k_d
  clear hB hb h_a h_b h_d
  have h_a := k_a
  have h_b := k_b
  have h_d := k_d
  have hB := kB
  clear kB k_a k_b k_d
  have hsz := hB.size
  go_upto_region 13 with (fail)
  refine abs_wp (fun W => W.heap[w.heap.size]? = some (.cells #[.bool (ng (m)), .int .u64 (dg (ab (m)) 0), .int .u64 (dg (ab (m)) 1), .int .u64 (dg (ab (m)) 2), .int .u64 (dg (ab (m)) 3)] 25 (0, 0)) ∧ W.heap[w.heap.size + 1]? = some (.cells #[.bool (ng (((ab n : Nat) : Int))), .int .u64 (dg (ab (((ab n : Nat) : Int))) 0), .int .u64 (dg (ab (((ab n : Nat) : Int))) 1), .int .u64 (dg (ab (((ab n : Nat) : Int))) 2), .int .u64 (dg (ab (((ab n : Nat) : Int))) 3)] 25 (0, 0)) ∧ W.heap[w11.heap.size]? = some (.cells #[.bool (ng (g)), .int .u64 (dg (ab (g)) 0), .int .u64 (dg (ab (g)) 1), .int .u64 (dg (ab (g)) 2), .int .u64 (dg (ab (g)) 3)] 25 (0, 0)) ∧ W.heap[w14.heap.size]? = some (.cells #[.bool (ng (X)), .int .u64 (dg (ab (X)) 0), .int .u64 (dg (ab (X)) 1), .int .u64 (dg (ab (X)) 2), .int .u64 (dg (ab (X)) 3)] 25 (0, 0)) ∧ W.heap[w14.heap.size + 1]? = some (.cells #[.bool (ng (0)), .int .u64 (dg (ab (0)) 0), .int .u64 (dg (ab (0)) 1), .int .u64 (dg (ab (0)) 2), .int .u64 (dg (ab (0)) 3)] 25 (0, 0)) ∧ Below w.heap.size w W) ⟨heap_old (heap_old (h_a) _) _, heap_old (heap_old (h_b) _) _, heap_old (heap_old (h_d) _) _, heap_old (heap_new _ _) _, heap_at (by simp) _, (by focus (repeat (first | (with_reducible exact Below.refl _ _) | (with_reducible assumption) | ((with_reducible refine Below.setCell ?_ ?_ _); rotate_left; (focus (first | omega | (simp; done) | (simp; omega)))) | ((with_reducible refine Below.alloc ?_ ?_ _); rotate_left; (focus (first | omega | (simp; done) | (simp; omega)))) | (with_reducible refine Below.drew ?_) | (refine below_on ?_ (by assumption)))))⟩ fun W15 ⟨g_a, g_b, g_d, g_x, g_y, gB⟩ => ?_
  clear hB hsz h_a h_b h_d
  have h_a := g_a
  have h_b := g_b
  have h_d := g_d
  have h_x := g_x
  have h_y := g_y
  have hB := gB
  clear gB g_a g_b g_d g_x g_y
  have c_b := cell_at h_b
  have c_d := cell_at h_d
  go_wp2_with fail
  refine (quo_at (((ab n : Nat) : Int)) g U 0 HB9.out HGB.out HG0.out HQ2.out HR2.out _).mono ?_
  rintro e w16 ⟨rfl, hb⟩
  have k_a := heap_below hb h_a
  have k_b := heap_below hb h_b
  have k_d := heap_below hb h_d
  have k_x := heap_below hb h_x
  have k_y := heap_below hb h_y
  have kB : Below w.heap.size w w16 := by
    have hsz := hB.size
    focus (repeat (first | (with_reducible exact Below.refl _ _) | (with_reducible assumption) | ((with_reducible refine Below.setCell ?_ ?_ _); rotate_left; (focus (first | omega | (simp; done) | (simp; omega)))) | ((with_reducible refine Below.alloc ?_ ?_ _); rotate_left; (focus (first | omega | (simp; done) | (simp; omega)))) | (with_reducible refine Below.drew ?_) | (refine below_on ?_ (by assumption))))
  have sz_w16 := kB.size
  have sl_w16 := lt_of_block k_y
  clear hB hb h_a h_b h_d h_x h_y
  have h_a := k_a
  have h_b := k_b
  have h_d := k_d
  have h_x := k_x
  have h_y := k_y
  have hB := kB
  clear kB k_a k_b k_d k_x k_y
  have hsz := hB.size
  go_upto_region 14 with (fail)
  refine abs_wp (fun W => W.heap[w.heap.size]? = some (.cells #[.bool (ng (m)), .int .u64 (dg (ab (m)) 0), .int .u64 (dg (ab (m)) 1), .int .u64 (dg (ab (m)) 2), .int .u64 (dg (ab (m)) 3)] 25 (0, 0)) ∧ W.heap[w.heap.size + 1]? = some (.cells #[.bool (ng (((ab n : Nat) : Int))), .int .u64 (dg (ab (((ab n : Nat) : Int))) 0), .int .u64 (dg (ab (((ab n : Nat) : Int))) 1), .int .u64 (dg (ab (((ab n : Nat) : Int))) 2), .int .u64 (dg (ab (((ab n : Nat) : Int))) 3)] 25 (0, 0)) ∧ W.heap[w11.heap.size]? = some (.cells #[.bool (ng (g)), .int .u64 (dg (ab (g)) 0), .int .u64 (dg (ab (g)) 1), .int .u64 (dg (ab (g)) 2), .int .u64 (dg (ab (g)) 3)] 25 (0, 0)) ∧ W.heap[w14.heap.size]? = some (.cells #[.bool (ng (X)), .int .u64 (dg (ab (X)) 0), .int .u64 (dg (ab (X)) 1), .int .u64 (dg (ab (X)) 2), .int .u64 (dg (ab (X)) 3)] 25 (0, 0)) ∧ W.heap[w14.heap.size + 1]? = some (.cells #[.bool (ng (0)), .int .u64 (dg (ab (0)) 0), .int .u64 (dg (ab (0)) 1), .int .u64 (dg (ab (0)) 2), .int .u64 (dg (ab (0)) 3)] 25 (0, 0)) ∧ W.heap[w16.heap.size]? = some (.cells #[.bool (ng (U)), .int .u64 (dg (ab (U)) 0), .int .u64 (dg (ab (U)) 1), .int .u64 (dg (ab (U)) 2), .int .u64 (dg (ab (U)) 3)] 25 (0, 0)) ∧ W.heap[w16.heap.size + 1]? = some (.cells #[.bool (ng (0)), .int .u64 (dg (ab (0)) 0), .int .u64 (dg (ab (0)) 1), .int .u64 (dg (ab (0)) 2), .int .u64 (dg (ab (0)) 3)] 25 (0, 0)) ∧ Below w.heap.size w W) ⟨heap_old (heap_old (h_a) _) _, heap_old (heap_old (h_b) _) _, heap_old (heap_old (h_d) _) _, heap_old (heap_old (h_x) _) _, heap_old (heap_old (h_y) _) _, heap_old (heap_new _ _) _, heap_at (by simp) _, (by focus (repeat (first | (with_reducible exact Below.refl _ _) | (with_reducible assumption) | ((with_reducible refine Below.setCell ?_ ?_ _); rotate_left; (focus (first | omega | (simp; done) | (simp; omega)))) | ((with_reducible refine Below.alloc ?_ ?_ _); rotate_left; (focus (first | omega | (simp; done) | (simp; omega)))) | (with_reducible refine Below.drew ?_) | (refine below_on ?_ (by assumption)))))⟩ fun W17 ⟨g_a, g_b, g_d, g_x, g_y, g_u, g_v, gB⟩ => ?_
  clear hB hsz h_a h_b h_d h_x h_y
  have h_a := g_a
  have h_b := g_b
  have h_d := g_d
  have h_x := g_x
  have h_y := g_y
  have h_u := g_u
  have h_v := g_v
  have hB := gB
  clear gB g_a g_b g_d g_x g_y g_u g_v
  have c_x := cell_at h_x
  have c_u := cell_at h_u
  go_wp2_with fail
  refine (gcd_at X U 1 HXB.out HUB.out HG1.out _).mono ?_
  rintro e w18 ⟨rfl, hb⟩
  have k_a := heap_below hb h_a
  have k_b := heap_below hb h_b
  have k_d := heap_below hb h_d
  have k_x := heap_below hb h_x
  have k_y := heap_below hb h_y
  have k_u := heap_below hb h_u
  have k_v := heap_below hb h_v
  have kB : Below w.heap.size w w18 := by
    have hsz := hB.size
    focus (repeat (first | (with_reducible exact Below.refl _ _) | (with_reducible assumption) | ((with_reducible refine Below.setCell ?_ ?_ _); rotate_left; (focus (first | omega | (simp; done) | (simp; omega)))) | ((with_reducible refine Below.alloc ?_ ?_ _); rotate_left; (focus (first | omega | (simp; done) | (simp; omega)))) | (with_reducible refine Below.drew ?_) | (refine below_on ?_ (by assumption))))
  have sz_w18 := kB.size
  have sl_w18 := lt_of_block k_v
  clear hB hb h_a h_b h_d h_x h_y h_u h_v
  have h_a := k_a
  have h_b := k_b
  have h_d := k_d
  have h_x := k_x
  have h_y := k_y
  have h_u := k_u
  have h_v := k_v
  have hB := kB
  clear kB k_a k_b k_d k_x k_y k_u k_v
  have hsz := hB.size
  go_upto_region 15 with (fail)
  refine abs_wp (fun W => W.heap[w.heap.size]? = some (.cells #[.bool (ng (m)), .int .u64 (dg (ab (m)) 0), .int .u64 (dg (ab (m)) 1), .int .u64 (dg (ab (m)) 2), .int .u64 (dg (ab (m)) 3)] 25 (0, 0)) ∧ W.heap[w.heap.size + 1]? = some (.cells #[.bool (ng (((ab n : Nat) : Int))), .int .u64 (dg (ab (((ab n : Nat) : Int))) 0), .int .u64 (dg (ab (((ab n : Nat) : Int))) 1), .int .u64 (dg (ab (((ab n : Nat) : Int))) 2), .int .u64 (dg (ab (((ab n : Nat) : Int))) 3)] 25 (0, 0)) ∧ W.heap[w11.heap.size]? = some (.cells #[.bool (ng (g)), .int .u64 (dg (ab (g)) 0), .int .u64 (dg (ab (g)) 1), .int .u64 (dg (ab (g)) 2), .int .u64 (dg (ab (g)) 3)] 25 (0, 0)) ∧ W.heap[w14.heap.size]? = some (.cells #[.bool (ng (X)), .int .u64 (dg (ab (X)) 0), .int .u64 (dg (ab (X)) 1), .int .u64 (dg (ab (X)) 2), .int .u64 (dg (ab (X)) 3)] 25 (0, 0)) ∧ W.heap[w14.heap.size + 1]? = some (.cells #[.bool (ng (0)), .int .u64 (dg (ab (0)) 0), .int .u64 (dg (ab (0)) 1), .int .u64 (dg (ab (0)) 2), .int .u64 (dg (ab (0)) 3)] 25 (0, 0)) ∧ W.heap[w16.heap.size]? = some (.cells #[.bool (ng (U)), .int .u64 (dg (ab (U)) 0), .int .u64 (dg (ab (U)) 1), .int .u64 (dg (ab (U)) 2), .int .u64 (dg (ab (U)) 3)] 25 (0, 0)) ∧ W.heap[w16.heap.size + 1]? = some (.cells #[.bool (ng (0)), .int .u64 (dg (ab (0)) 0), .int .u64 (dg (ab (0)) 1), .int .u64 (dg (ab (0)) 2), .int .u64 (dg (ab (0)) 3)] 25 (0, 0)) ∧ W.heap[w18.heap.size]? = some (.cells #[.bool (ng (1)), .int .u64 (dg (ab (1)) 0), .int .u64 (dg (ab (1)) 1), .int .u64 (dg (ab (1)) 2), .int .u64 (dg (ab (1)) 3)] 25 (0, 0)) ∧ Below w.heap.size w W) ⟨heap_old (h_a) _, heap_old (h_b) _, heap_old (h_d) _, heap_old (h_x) _, heap_old (h_y) _, heap_old (h_u) _, heap_old (h_v) _, heap_new _ _, (by focus (repeat (first | (with_reducible exact Below.refl _ _) | (with_reducible assumption) | ((with_reducible refine Below.setCell ?_ ?_ _); rotate_left; (focus (first | omega | (simp; done) | (simp; omega)))) | ((with_reducible refine Below.alloc ?_ ?_ _); rotate_left; (focus (first | omega | (simp; done) | (simp; omega)))) | (with_reducible refine Below.drew ?_) | (refine below_on ?_ (by assumption)))))⟩ fun W19 ⟨g_a, g_b, g_d, g_x, g_y, g_u, g_v, g_o, gB⟩ => ?_
  clear hB hsz h_a h_b h_d h_x h_y h_u h_v
  have h_a := g_a
  have h_b := g_b
  have h_d := g_d
  have h_x := g_x
  have h_y := g_y
  have h_u := g_u
  have h_v := g_v
  have h_o := g_o
  have hB := gB
  clear gB g_a g_b g_d g_x g_y g_u g_v g_o
  refine region_qt 29 (by kernel_rfl) (by kernel_rfl) fun X _ mk hmk hcl => ?_
  have q1 := fun x => cell_at (heap_below (hmk x) h_y)
  have q2 := fun x => cell_at (heap_below (hmk x) h_v)
  have q3 := fun x => cell_at (heap_below (hmk x) h_o)
  have n0 : ng 0 = false := rfl
  have n1 : ng 1 = false := rfl
  have e0 : dg (ab 0) 0 = 0 := by decide
  have e1 : dg (ab 0) 1 = 0 := by decide
  have e2 : dg (ab 0) 2 = 0 := by decide
  have e3 : dg (ab 0) 3 = 0 := by decide
  have e4 : dg (ab 1) 0 = 1 := by decide
  simp only [List.take_succ_cons, List.take_zero, List.drop_succ_cons, List.drop_zero]
  repeat (go_big_quiet_step ((first | (go_at_call 31; exact (of_word _ (by decide) (by decide) _).mono fun e w' ⟨he, hw⟩ => ⟨he, hcl _ _ hw⟩) | (go_at_call 14; exact (num_any _ _).mono fun e w' ⟨he, hw⟩ => ⟨he, hw ▸ ⟨_, rfl⟩⟩))))
  refine wpQuiet_nil ?_
  rintro _ ⟨xw, rfl⟩
  have hW1 := hmk xw
  clear hcl hmk q1 q2 q3 n0 n1 e0 e1 e2 e3 e4
  generalize mk xw = W99 at hW1
  have hF : Below w.heap.size w W99 := below_on hB hW1
  go_wp2
  go_ret
  exact ⟨rfl, hF⟩
set_option maxRecDepth 100000 in
set_option maxHeartbeats 4000000 in
theorem divides_b (m n g X U : Int) (HX : Hd (ab m < 2 ^ 256)) (HY : Hd (ab n < 2 ^ 256)) (HN : Hd (n = 0)) (HB9 : Hd (ab (n) < 2 ^ 256)) (HG : Hd (((Nat.gcd (ab m) (ab (n)) : Nat) : Int) = g)) (HZ3 : Hd (ng g = false)) (HZ2 : Hd (dg (ab g) 0 = 0 → dg (ab g) 1 = 0 → dg (ab g) 2 = 0 → ¬dg (ab g) 3 = 0)) (HGB : Hd (ab g < 2 ^ 256)) (HG0 : Hd (g ≠ 0)) (HQ1 : Hd (m.tdiv g = X)) (HR1 : Hd (m.tmod g = 0)) (HQ2 : Hd ((n : Int).tdiv g = U)) (HR2 : Hd ((n : Int).tmod g = 0)) (HXB : Hd (ab X < 2 ^ 256)) (HUB : Hd (ab U < 2 ^ 256)) (HG1 : Hd (((Nat.gcd (ab X) (ab U) : Nat) : Int) = 1)) (w : World) :
    Calls Try.prog 42 #[.agg #[.bool (ng (m)), .int .u64 (dg (ab (m)) 0), .int .u64 (dg (ab (m)) 1), .int .u64 (dg (ab (m)) 2), .int .u64 (dg (ab (m)) 3)], .agg #[.bool (ng (n)), .int .u64 (dg (ab (n)) 0), .int .u64 (dg (ab (n)) 1), .int .u64 (dg (ab (n)) 2), .int .u64 (dg (ab (n)) 3)]] w fun e w' => e = .returned (.bool true) ∧ Below w.heap.size w w' := by
  go_enter Try.func42, Try.ntmps42
  have hB := Below.refl w.heap.size w
  have hsz := hB.size
  go_upto_region 1 with (fail)
  refine abs_wp (fun W => W.heap[w.heap.size]? = some (.cells #[.bool (ng (m)), .int .u64 (dg (ab (m)) 0), .int .u64 (dg (ab (m)) 1), .int .u64 (dg (ab (m)) 2), .int .u64 (dg (ab (m)) 3)] 25 (0, 0)) ∧ W.heap[w.heap.size + 1]? = some (.cells #[.bool (ng (n)), .int .u64 (dg (ab (n)) 0), .int .u64 (dg (ab (n)) 1), .int .u64 (dg (ab (n)) 2), .int .u64 (dg (ab (n)) 3)] 25 (0, 0)) ∧ Below w.heap.size w W) ⟨heap_old (heap_new _ _) _, heap_at (by simp) _, (by focus (repeat (first | (with_reducible exact Below.refl _ _) | (with_reducible assumption) | ((with_reducible refine Below.setCell ?_ ?_ _); rotate_left; (focus (first | omega | (simp; done) | (simp; omega)))) | ((with_reducible refine Below.alloc ?_ ?_ _); rotate_left; (focus (first | omega | (simp; done) | (simp; omega)))) | (with_reducible refine Below.drew ?_) | (refine below_on ?_ (by assumption)))))⟩ fun W1 ⟨g_a, g_b, gB⟩ => ?_
  clear hB hsz 
  have h_a := g_a
  have h_b := g_b
  have hB := gB
  clear gB g_a g_b
  have c_a := cell_at h_a
  have c_b := cell_at h_b
  go_wp2_with fail
  refine (quo_zero m n HX.out HY.out HN.out _).mono ?_
  rintro e w2 ⟨rfl, hb⟩
  have k_a := heap_below hb h_a
  have k_b := heap_below hb h_b
  have kB : Below w.heap.size w w2 := by
    have hsz := hB.size
    focus (repeat (first | (with_reducible exact Below.refl _ _) | (with_reducible assumption) | ((with_reducible refine Below.setCell ?_ ?_ _); rotate_left; (focus (first | omega | (simp; done) | (simp; omega)))) | ((with_reducible refine Below.alloc ?_ ?_ _); rotate_left; (focus (first | omega | (simp; done) | (simp; omega)))) | (with_reducible refine Below.drew ?_) | (refine below_on ?_ (by assumption))))
  have sz_w2 := kB.size
  have sl_w2 := lt_of_block k_b
  clear hB hb h_a h_b
  have h_a := k_a
  have h_b := k_b
  have hB := kB
  clear kB k_a k_b
  have hsz := hB.size
  go_upto_region 9 with ((go_at_call 14; refine (num_s _ _).mono ?_; rintro e w' ⟨rfl, rfl⟩))
  refine abs_wp (fun W => W.heap[w.heap.size]? = some (.cells #[.bool (ng (m)), .int .u64 (dg (ab (m)) 0), .int .u64 (dg (ab (m)) 1), .int .u64 (dg (ab (m)) 2), .int .u64 (dg (ab (m)) 3)] 25 (0, 0)) ∧ W.heap[w.heap.size + 1]? = some (.cells #[.bool (ng (n)), .int .u64 (dg (ab (n)) 0), .int .u64 (dg (ab (n)) 1), .int .u64 (dg (ab (n)) 2), .int .u64 (dg (ab (n)) 3)] 25 (0, 0)) ∧ W.heap[w2.heap.size]? = some (.cells #[.bool (ng (0)), .int .u64 (dg (ab (0)) 0), .int .u64 (dg (ab (0)) 1), .int .u64 (dg (ab (0)) 2), .int .u64 (dg (ab (0)) 3)] 25 (0, 0)) ∧ W.heap[w2.heap.size + 1]? = some (.cells #[.bool (ng (0)), .int .u64 (dg (ab (0)) 0), .int .u64 (dg (ab (0)) 1), .int .u64 (dg (ab (0)) 2), .int .u64 (dg (ab (0)) 3)] 25 (0, 0)) ∧ Below w.heap.size w W) ⟨heap_old (heap_old (h_a) _) _, heap_old (heap_old (h_b) _) _, heap_old (heap_new _ _) _, heap_at (by simp) _, (by focus (repeat (first | (with_reducible exact Below.refl _ _) | (with_reducible assumption) | ((with_reducible refine Below.setCell ?_ ?_ _); rotate_left; (focus (first | omega | (simp; done) | (simp; omega)))) | ((with_reducible refine Below.alloc ?_ ?_ _); rotate_left; (focus (first | omega | (simp; done) | (simp; omega)))) | (with_reducible refine Below.drew ?_) | (refine below_on ?_ (by assumption)))))⟩ fun W3 ⟨g_a, g_b, g_q, g_r, gB⟩ => ?_
  clear hB hsz h_a h_b
  have h_a := g_a
  have h_b := g_b
  have h_q := g_q
  have h_r := g_r
  have hB := gB
  clear gB g_a g_b g_q g_r
  have c_a := cell_at h_a
  have c_b := cell_at h_b
  go_wp2_with fail
  refine (gcd_at m (n) g HX.out HB9.out HG.out _).mono ?_
  rintro e w4 ⟨rfl, hb⟩
  have k_a := heap_below hb h_a
  have k_b := heap_below hb h_b
  have k_q := heap_below hb h_q
  have k_r := heap_below hb h_r
  have kB : Below w.heap.size w w4 := by
    have hsz := hB.size
    focus (repeat (first | (with_reducible exact Below.refl _ _) | (with_reducible assumption) | ((with_reducible refine Below.setCell ?_ ?_ _); rotate_left; (focus (first | omega | (simp; done) | (simp; omega)))) | ((with_reducible refine Below.alloc ?_ ?_ _); rotate_left; (focus (first | omega | (simp; done) | (simp; omega)))) | (with_reducible refine Below.drew ?_) | (refine below_on ?_ (by assumption))))
  have sz_w4 := kB.size
  have sl_w4 := lt_of_block k_r
  clear hB hb h_a h_b h_q h_r
  have h_a := k_a
  have h_b := k_b
  have h_q := k_q
  have h_r := k_r
  have hB := kB
  clear kB k_a k_b k_q k_r
  have hsz := hB.size
  go_upto_region 10 with (fail)
  refine abs_wp (fun W => W.heap[w.heap.size]? = some (.cells #[.bool (ng (m)), .int .u64 (dg (ab (m)) 0), .int .u64 (dg (ab (m)) 1), .int .u64 (dg (ab (m)) 2), .int .u64 (dg (ab (m)) 3)] 25 (0, 0)) ∧ W.heap[w.heap.size + 1]? = some (.cells #[.bool (ng (n)), .int .u64 (dg (ab (n)) 0), .int .u64 (dg (ab (n)) 1), .int .u64 (dg (ab (n)) 2), .int .u64 (dg (ab (n)) 3)] 25 (0, 0)) ∧ W.heap[w2.heap.size]? = some (.cells #[.bool (ng (0)), .int .u64 (dg (ab (0)) 0), .int .u64 (dg (ab (0)) 1), .int .u64 (dg (ab (0)) 2), .int .u64 (dg (ab (0)) 3)] 25 (0, 0)) ∧ W.heap[w2.heap.size + 1]? = some (.cells #[.bool (ng (0)), .int .u64 (dg (ab (0)) 0), .int .u64 (dg (ab (0)) 1), .int .u64 (dg (ab (0)) 2), .int .u64 (dg (ab (0)) 3)] 25 (0, 0)) ∧ W.heap[w4.heap.size]? = some (.cells #[.bool (ng (g)), .int .u64 (dg (ab (g)) 0), .int .u64 (dg (ab (g)) 1), .int .u64 (dg (ab (g)) 2), .int .u64 (dg (ab (g)) 3)] 25 (0, 0)) ∧ Below w.heap.size w W) ⟨heap_old (h_a) _, heap_old (h_b) _, heap_old (h_q) _, heap_old (h_r) _, heap_new _ _, (by focus (repeat (first | (with_reducible exact Below.refl _ _) | (with_reducible assumption) | ((with_reducible refine Below.setCell ?_ ?_ _); rotate_left; (focus (first | omega | (simp; done) | (simp; omega)))) | ((with_reducible refine Below.alloc ?_ ?_ _); rotate_left; (focus (first | omega | (simp; done) | (simp; omega)))) | (with_reducible refine Below.drew ?_) | (refine below_on ?_ (by assumption)))))⟩ fun W5 ⟨g_a, g_b, g_q, g_r, g_d, gB⟩ => ?_
  clear hB hsz h_a h_b h_q h_r
  have h_a := g_a
  have h_b := g_b
  have h_q := g_q
  have h_r := g_r
  have h_d := g_d
  have hB := gB
  clear gB g_a g_b g_q g_r g_d
  have c_d := cell_at h_d
  have hng := HZ3.out
  have hA := HZ2.out
  go_upto_region 12 with ((go_at_call 14; refine (num_s _ _).mono ?_; rintro e w' ⟨rfl, rfl⟩))
  clear hng hA
  refine abs_wp (fun W => W.heap[w.heap.size]? = some (.cells #[.bool (ng (m)), .int .u64 (dg (ab (m)) 0), .int .u64 (dg (ab (m)) 1), .int .u64 (dg (ab (m)) 2), .int .u64 (dg (ab (m)) 3)] 25 (0, 0)) ∧ W.heap[w.heap.size + 1]? = some (.cells #[.bool (ng (n)), .int .u64 (dg (ab (n)) 0), .int .u64 (dg (ab (n)) 1), .int .u64 (dg (ab (n)) 2), .int .u64 (dg (ab (n)) 3)] 25 (0, 0)) ∧ W.heap[w2.heap.size]? = some (.cells #[.bool (ng (0)), .int .u64 (dg (ab (0)) 0), .int .u64 (dg (ab (0)) 1), .int .u64 (dg (ab (0)) 2), .int .u64 (dg (ab (0)) 3)] 25 (0, 0)) ∧ W.heap[w2.heap.size + 1]? = some (.cells #[.bool (ng (0)), .int .u64 (dg (ab (0)) 0), .int .u64 (dg (ab (0)) 1), .int .u64 (dg (ab (0)) 2), .int .u64 (dg (ab (0)) 3)] 25 (0, 0)) ∧ W.heap[w4.heap.size]? = some (.cells #[.bool (ng (g)), .int .u64 (dg (ab (g)) 0), .int .u64 (dg (ab (g)) 1), .int .u64 (dg (ab (g)) 2), .int .u64 (dg (ab (g)) 3)] 25 (0, 0)) ∧ Below w.heap.size w W) ⟨h_a, h_b, h_q, h_r, h_d, (by focus (repeat (first | (with_reducible exact Below.refl _ _) | (with_reducible assumption) | ((with_reducible refine Below.setCell ?_ ?_ _); rotate_left; (focus (first | omega | (simp; done) | (simp; omega)))) | ((with_reducible refine Below.alloc ?_ ?_ _); rotate_left; (focus (first | omega | (simp; done) | (simp; omega)))) | (with_reducible refine Below.drew ?_) | (refine below_on ?_ (by assumption)))))⟩ fun W6 ⟨g_a, g_b, g_q, g_r, g_d, gB⟩ => ?_
  clear hB h_a h_b h_q h_r h_d
  have h_a := g_a
  have h_b := g_b
  have h_q := g_q
  have h_r := g_r
  have h_d := g_d
  have hB := gB
  clear gB g_a g_b g_q g_r g_d
  have c_a := cell_at h_a
  have c_d := cell_at h_d
  go_wp2_with fail
  refine (quo_at m g X 0 HX.out HGB.out HG0.out HQ1.out HR1.out _).mono ?_
  rintro e w7 ⟨rfl, hb⟩
  have k_a := heap_below hb h_a
  have k_b := heap_below hb h_b
  have k_q := heap_below hb h_q
  have k_r := heap_below hb h_r
  have k_d := heap_below hb h_d
  have kB : Below w.heap.size w w7 := by
    have hsz := hB.size
    focus (repeat (first | (with_reducible exact Below.refl _ _) | (with_reducible assumption) | ((with_reducible refine Below.setCell ?_ ?_ _); rotate_left; (focus (first | omega | (simp; done) | (simp; omega)))) | ((with_reducible refine Below.alloc ?_ ?_ _); rotate_left; (focus (first | omega | (simp; done) | (simp; omega)))) | (with_reducible refine Below.drew ?_) | (refine below_on ?_ (by assumption))))
  have sz_w7 := kB.size
  have sl_w7 := lt_of_block k_d
  clear hB hb h_a h_b h_q h_r h_d
  have h_a := k_a
  have h_b := k_b
  have h_q := k_q
  have h_r := k_r
  have h_d := k_d
  have hB := kB
  clear kB k_a k_b k_q k_r k_d
  have hsz := hB.size
  go_upto_region 13 with (fail)
  refine abs_wp (fun W => W.heap[w.heap.size]? = some (.cells #[.bool (ng (m)), .int .u64 (dg (ab (m)) 0), .int .u64 (dg (ab (m)) 1), .int .u64 (dg (ab (m)) 2), .int .u64 (dg (ab (m)) 3)] 25 (0, 0)) ∧ W.heap[w.heap.size + 1]? = some (.cells #[.bool (ng (n)), .int .u64 (dg (ab (n)) 0), .int .u64 (dg (ab (n)) 1), .int .u64 (dg (ab (n)) 2), .int .u64 (dg (ab (n)) 3)] 25 (0, 0)) ∧ W.heap[w2.heap.size]? = some (.cells #[.bool (ng (0)), .int .u64 (dg (ab (0)) 0), .int .u64 (dg (ab (0)) 1), .int .u64 (dg (ab (0)) 2), .int .u64 (dg (ab (0)) 3)] 25 (0, 0)) ∧ W.heap[w2.heap.size + 1]? = some (.cells #[.bool (ng (0)), .int .u64 (dg (ab (0)) 0), .int .u64 (dg (ab (0)) 1), .int .u64 (dg (ab (0)) 2), .int .u64 (dg (ab (0)) 3)] 25 (0, 0)) ∧ W.heap[w4.heap.size]? = some (.cells #[.bool (ng (g)), .int .u64 (dg (ab (g)) 0), .int .u64 (dg (ab (g)) 1), .int .u64 (dg (ab (g)) 2), .int .u64 (dg (ab (g)) 3)] 25 (0, 0)) ∧ W.heap[w7.heap.size]? = some (.cells #[.bool (ng (X)), .int .u64 (dg (ab (X)) 0), .int .u64 (dg (ab (X)) 1), .int .u64 (dg (ab (X)) 2), .int .u64 (dg (ab (X)) 3)] 25 (0, 0)) ∧ W.heap[w7.heap.size + 1]? = some (.cells #[.bool (ng (0)), .int .u64 (dg (ab (0)) 0), .int .u64 (dg (ab (0)) 1), .int .u64 (dg (ab (0)) 2), .int .u64 (dg (ab (0)) 3)] 25 (0, 0)) ∧ Below w.heap.size w W) ⟨heap_old (heap_old (h_a) _) _, heap_old (heap_old (h_b) _) _, heap_old (heap_old (h_q) _) _, heap_old (heap_old (h_r) _) _, heap_old (heap_old (h_d) _) _, heap_old (heap_new _ _) _, heap_at (by simp) _, (by focus (repeat (first | (with_reducible exact Below.refl _ _) | (with_reducible assumption) | ((with_reducible refine Below.setCell ?_ ?_ _); rotate_left; (focus (first | omega | (simp; done) | (simp; omega)))) | ((with_reducible refine Below.alloc ?_ ?_ _); rotate_left; (focus (first | omega | (simp; done) | (simp; omega)))) | (with_reducible refine Below.drew ?_) | (refine below_on ?_ (by assumption)))))⟩ fun W8 ⟨g_a, g_b, g_q, g_r, g_d, g_x, g_y, gB⟩ => ?_
  clear hB hsz h_a h_b h_q h_r h_d
  have h_a := g_a
  have h_b := g_b
  have h_q := g_q
  have h_r := g_r
  have h_d := g_d
  have h_x := g_x
  have h_y := g_y
  have hB := gB
  clear gB g_a g_b g_q g_r g_d g_x g_y
  have c_b := cell_at h_b
  have c_d := cell_at h_d
  go_wp2_with fail
  refine (quo_at (n) g U 0 HB9.out HGB.out HG0.out HQ2.out HR2.out _).mono ?_
  rintro e w9 ⟨rfl, hb⟩
  have k_a := heap_below hb h_a
  have k_b := heap_below hb h_b
  have k_q := heap_below hb h_q
  have k_r := heap_below hb h_r
  have k_d := heap_below hb h_d
  have k_x := heap_below hb h_x
  have k_y := heap_below hb h_y
  have kB : Below w.heap.size w w9 := by
    have hsz := hB.size
    focus (repeat (first | (with_reducible exact Below.refl _ _) | (with_reducible assumption) | ((with_reducible refine Below.setCell ?_ ?_ _); rotate_left; (focus (first | omega | (simp; done) | (simp; omega)))) | ((with_reducible refine Below.alloc ?_ ?_ _); rotate_left; (focus (first | omega | (simp; done) | (simp; omega)))) | (with_reducible refine Below.drew ?_) | (refine below_on ?_ (by assumption))))
  have sz_w9 := kB.size
  have sl_w9 := lt_of_block k_y
  clear hB hb h_a h_b h_q h_r h_d h_x h_y
  have h_a := k_a
  have h_b := k_b
  have h_q := k_q
  have h_r := k_r
  have h_d := k_d
  have h_x := k_x
  have h_y := k_y
  have hB := kB
  clear kB k_a k_b k_q k_r k_d k_x k_y
  have hsz := hB.size
  go_upto_region 14 with (fail)
  refine abs_wp (fun W => W.heap[w.heap.size]? = some (.cells #[.bool (ng (m)), .int .u64 (dg (ab (m)) 0), .int .u64 (dg (ab (m)) 1), .int .u64 (dg (ab (m)) 2), .int .u64 (dg (ab (m)) 3)] 25 (0, 0)) ∧ W.heap[w.heap.size + 1]? = some (.cells #[.bool (ng (n)), .int .u64 (dg (ab (n)) 0), .int .u64 (dg (ab (n)) 1), .int .u64 (dg (ab (n)) 2), .int .u64 (dg (ab (n)) 3)] 25 (0, 0)) ∧ W.heap[w2.heap.size]? = some (.cells #[.bool (ng (0)), .int .u64 (dg (ab (0)) 0), .int .u64 (dg (ab (0)) 1), .int .u64 (dg (ab (0)) 2), .int .u64 (dg (ab (0)) 3)] 25 (0, 0)) ∧ W.heap[w2.heap.size + 1]? = some (.cells #[.bool (ng (0)), .int .u64 (dg (ab (0)) 0), .int .u64 (dg (ab (0)) 1), .int .u64 (dg (ab (0)) 2), .int .u64 (dg (ab (0)) 3)] 25 (0, 0)) ∧ W.heap[w4.heap.size]? = some (.cells #[.bool (ng (g)), .int .u64 (dg (ab (g)) 0), .int .u64 (dg (ab (g)) 1), .int .u64 (dg (ab (g)) 2), .int .u64 (dg (ab (g)) 3)] 25 (0, 0)) ∧ W.heap[w7.heap.size]? = some (.cells #[.bool (ng (X)), .int .u64 (dg (ab (X)) 0), .int .u64 (dg (ab (X)) 1), .int .u64 (dg (ab (X)) 2), .int .u64 (dg (ab (X)) 3)] 25 (0, 0)) ∧ W.heap[w7.heap.size + 1]? = some (.cells #[.bool (ng (0)), .int .u64 (dg (ab (0)) 0), .int .u64 (dg (ab (0)) 1), .int .u64 (dg (ab (0)) 2), .int .u64 (dg (ab (0)) 3)] 25 (0, 0)) ∧ W.heap[w9.heap.size]? = some (.cells #[.bool (ng (U)), .int .u64 (dg (ab (U)) 0), .int .u64 (dg (ab (U)) 1), .int .u64 (dg (ab (U)) 2), .int .u64 (dg (ab (U)) 3)] 25 (0, 0)) ∧ W.heap[w9.heap.size + 1]? = some (.cells #[.bool (ng (0)), .int .u64 (dg (ab (0)) 0), .int .u64 (dg (ab (0)) 1), .int .u64 (dg (ab (0)) 2), .int .u64 (dg (ab (0)) 3)] 25 (0, 0)) ∧ Below w.heap.size w W) ⟨heap_old (heap_old (h_a) _) _, heap_old (heap_old (h_b) _) _, heap_old (heap_old (h_q) _) _, heap_old (heap_old (h_r) _) _, heap_old (heap_old (h_d) _) _, heap_old (heap_old (h_x) _) _, heap_old (heap_old (h_y) _) _, heap_old (heap_new _ _) _, heap_at (by simp) _, (by focus (repeat (first | (with_reducible exact Below.refl _ _) | (with_reducible assumption) | ((with_reducible refine Below.setCell ?_ ?_ _); rotate_left; (focus (first | omega | (simp; done) | (simp; omega)))) | ((with_reducible refine Below.alloc ?_ ?_ _); rotate_left; (focus (first | omega | (simp; done) | (simp; omega)))) | (with_reducible refine Below.drew ?_) | (refine below_on ?_ (by assumption)))))⟩ fun W10 ⟨g_a, g_b, g_q, g_r, g_d, g_x, g_y, g_u, g_v, gB⟩ => ?_
  clear hB hsz h_a h_b h_q h_r h_d h_x h_y
  have h_a := g_a
  have h_b := g_b
  have h_q := g_q
  have h_r := g_r
  have h_d := g_d
  have h_x := g_x
  have h_y := g_y
  have h_u := g_u
  have h_v := g_v
  have hB := gB
  clear gB g_a g_b g_q g_r g_d g_x g_y g_u g_v
  have c_x := cell_at h_x
  have c_u := cell_at h_u
  go_wp2_with fail
  refine (gcd_at X U 1 HXB.out HUB.out HG1.out _).mono ?_
  rintro e w11 ⟨rfl, hb⟩
  have k_a := heap_below hb h_a
  have k_b := heap_below hb h_b
  have k_q := heap_below hb h_q
  have k_r := heap_below hb h_r
  have k_d := heap_below hb h_d
  have k_x := heap_below hb h_x
  have k_y := heap_below hb h_y
  have k_u := heap_below hb h_u
  have k_v := heap_below hb h_v
  have kB : Below w.heap.size w w11 := by
    have hsz := hB.size
    focus (repeat (first | (with_reducible exact Below.refl _ _) | (with_reducible assumption) | ((with_reducible refine Below.setCell ?_ ?_ _); rotate_left; (focus (first | omega | (simp; done) | (simp; omega)))) | ((with_reducible refine Below.alloc ?_ ?_ _); rotate_left; (focus (first | omega | (simp; done) | (simp; omega)))) | (with_reducible refine Below.drew ?_) | (refine below_on ?_ (by assumption))))
  have sz_w11 := kB.size
  have sl_w11 := lt_of_block k_v
  clear hB hb h_a h_b h_q h_r h_d h_x h_y h_u h_v
  have h_a := k_a
  have h_b := k_b
  have h_q := k_q
  have h_r := k_r
  have h_d := k_d
  have h_x := k_x
  have h_y := k_y
  have h_u := k_u
  have h_v := k_v
  have hB := kB
  clear kB k_a k_b k_q k_r k_d k_x k_y k_u k_v
  have hsz := hB.size
  go_upto_region 15 with (fail)
  refine abs_wp (fun W => W.heap[w.heap.size]? = some (.cells #[.bool (ng (m)), .int .u64 (dg (ab (m)) 0), .int .u64 (dg (ab (m)) 1), .int .u64 (dg (ab (m)) 2), .int .u64 (dg (ab (m)) 3)] 25 (0, 0)) ∧ W.heap[w.heap.size + 1]? = some (.cells #[.bool (ng (n)), .int .u64 (dg (ab (n)) 0), .int .u64 (dg (ab (n)) 1), .int .u64 (dg (ab (n)) 2), .int .u64 (dg (ab (n)) 3)] 25 (0, 0)) ∧ W.heap[w2.heap.size]? = some (.cells #[.bool (ng (0)), .int .u64 (dg (ab (0)) 0), .int .u64 (dg (ab (0)) 1), .int .u64 (dg (ab (0)) 2), .int .u64 (dg (ab (0)) 3)] 25 (0, 0)) ∧ W.heap[w2.heap.size + 1]? = some (.cells #[.bool (ng (0)), .int .u64 (dg (ab (0)) 0), .int .u64 (dg (ab (0)) 1), .int .u64 (dg (ab (0)) 2), .int .u64 (dg (ab (0)) 3)] 25 (0, 0)) ∧ W.heap[w4.heap.size]? = some (.cells #[.bool (ng (g)), .int .u64 (dg (ab (g)) 0), .int .u64 (dg (ab (g)) 1), .int .u64 (dg (ab (g)) 2), .int .u64 (dg (ab (g)) 3)] 25 (0, 0)) ∧ W.heap[w7.heap.size]? = some (.cells #[.bool (ng (X)), .int .u64 (dg (ab (X)) 0), .int .u64 (dg (ab (X)) 1), .int .u64 (dg (ab (X)) 2), .int .u64 (dg (ab (X)) 3)] 25 (0, 0)) ∧ W.heap[w7.heap.size + 1]? = some (.cells #[.bool (ng (0)), .int .u64 (dg (ab (0)) 0), .int .u64 (dg (ab (0)) 1), .int .u64 (dg (ab (0)) 2), .int .u64 (dg (ab (0)) 3)] 25 (0, 0)) ∧ W.heap[w9.heap.size]? = some (.cells #[.bool (ng (U)), .int .u64 (dg (ab (U)) 0), .int .u64 (dg (ab (U)) 1), .int .u64 (dg (ab (U)) 2), .int .u64 (dg (ab (U)) 3)] 25 (0, 0)) ∧ W.heap[w9.heap.size + 1]? = some (.cells #[.bool (ng (0)), .int .u64 (dg (ab (0)) 0), .int .u64 (dg (ab (0)) 1), .int .u64 (dg (ab (0)) 2), .int .u64 (dg (ab (0)) 3)] 25 (0, 0)) ∧ W.heap[w11.heap.size]? = some (.cells #[.bool (ng (1)), .int .u64 (dg (ab (1)) 0), .int .u64 (dg (ab (1)) 1), .int .u64 (dg (ab (1)) 2), .int .u64 (dg (ab (1)) 3)] 25 (0, 0)) ∧ Below w.heap.size w W) ⟨heap_old (h_a) _, heap_old (h_b) _, heap_old (h_q) _, heap_old (h_r) _, heap_old (h_d) _, heap_old (h_x) _, heap_old (h_y) _, heap_old (h_u) _, heap_old (h_v) _, heap_new _ _, (by focus (repeat (first | (with_reducible exact Below.refl _ _) | (with_reducible assumption) | ((with_reducible refine Below.setCell ?_ ?_ _); rotate_left; (focus (first | omega | (simp; done) | (simp; omega)))) | ((with_reducible refine Below.alloc ?_ ?_ _); rotate_left; (focus (first | omega | (simp; done) | (simp; omega)))) | (with_reducible refine Below.drew ?_) | (refine below_on ?_ (by assumption)))))⟩ fun W12 ⟨g_a, g_b, g_q, g_r, g_d, g_x, g_y, g_u, g_v, g_o, gB⟩ => ?_
  clear hB hsz h_a h_b h_q h_r h_d h_x h_y h_u h_v
  have h_a := g_a
  have h_b := g_b
  have h_q := g_q
  have h_r := g_r
  have h_d := g_d
  have h_x := g_x
  have h_y := g_y
  have h_u := g_u
  have h_v := g_v
  have h_o := g_o
  have hB := gB
  clear gB g_a g_b g_q g_r g_d g_x g_y g_u g_v g_o
  refine region_qt 29 (by kernel_rfl) (by kernel_rfl) fun X _ mk hmk hcl => ?_
  have q1 := fun x => cell_at (heap_below (hmk x) h_y)
  have q2 := fun x => cell_at (heap_below (hmk x) h_v)
  have q3 := fun x => cell_at (heap_below (hmk x) h_o)
  have n0 : ng 0 = false := rfl
  have n1 : ng 1 = false := rfl
  have e0 : dg (ab 0) 0 = 0 := by decide
  have e1 : dg (ab 0) 1 = 0 := by decide
  have e2 : dg (ab 0) 2 = 0 := by decide
  have e3 : dg (ab 0) 3 = 0 := by decide
  have e4 : dg (ab 1) 0 = 1 := by decide
  simp only [List.take_succ_cons, List.take_zero, List.drop_succ_cons, List.drop_zero]
  repeat (go_big_quiet_step ((first | (go_at_call 31; exact (of_word _ (by decide) (by decide) _).mono fun e w' ⟨he, hw⟩ => ⟨he, hcl _ _ hw⟩) | (go_at_call 14; exact (num_any _ _).mono fun e w' ⟨he, hw⟩ => ⟨he, hw ▸ ⟨_, rfl⟩⟩))))
  refine wpQuiet_nil ?_
  rintro _ ⟨xw, rfl⟩
  have hW1 := hmk xw
  clear hcl hmk q1 q2 q3 n0 n1 e0 e1 e2 e3 e4
  generalize mk xw = W99 at hW1
  have hF : Below w.heap.size w W99 := below_on hB hW1
  go_wp2
  go_ret
  exact ⟨rfl, hF⟩
set_option maxRecDepth 100000 in
set_option maxHeartbeats 4000000 in
theorem divides_c (m n : Int) (HX : Hd (ab m < 2 ^ 256)) (HY : Hd (ab n < 2 ^ 256)) (HN : Hd (n = 0)) (HG : Hd (((Nat.gcd (ab m) (ab n) : Nat) : Int) = 0)) (w : World) :
    Calls Try.prog 42 #[.agg #[.bool (ng (m)), .int .u64 (dg (ab (m)) 0), .int .u64 (dg (ab (m)) 1), .int .u64 (dg (ab (m)) 2), .int .u64 (dg (ab (m)) 3)], .agg #[.bool (ng (n)), .int .u64 (dg (ab (n)) 0), .int .u64 (dg (ab (n)) 1), .int .u64 (dg (ab (n)) 2), .int .u64 (dg (ab (n)) 3)]] w fun e w' => e = .returned (.bool true) ∧ Below w.heap.size w w' := by
  go_enter Try.func42, Try.ntmps42
  have hB := Below.refl w.heap.size w
  have hsz := hB.size
  go_upto_region 1 with (fail)
  refine abs_wp (fun W => W.heap[w.heap.size]? = some (.cells #[.bool (ng (m)), .int .u64 (dg (ab (m)) 0), .int .u64 (dg (ab (m)) 1), .int .u64 (dg (ab (m)) 2), .int .u64 (dg (ab (m)) 3)] 25 (0, 0)) ∧ W.heap[w.heap.size + 1]? = some (.cells #[.bool (ng (n)), .int .u64 (dg (ab (n)) 0), .int .u64 (dg (ab (n)) 1), .int .u64 (dg (ab (n)) 2), .int .u64 (dg (ab (n)) 3)] 25 (0, 0)) ∧ Below w.heap.size w W) ⟨heap_old (heap_new _ _) _, heap_at (by simp) _, (by focus (repeat (first | (with_reducible exact Below.refl _ _) | (with_reducible assumption) | ((with_reducible refine Below.setCell ?_ ?_ _); rotate_left; (focus (first | omega | (simp; done) | (simp; omega)))) | ((with_reducible refine Below.alloc ?_ ?_ _); rotate_left; (focus (first | omega | (simp; done) | (simp; omega)))) | (with_reducible refine Below.drew ?_) | (refine below_on ?_ (by assumption)))))⟩ fun W1 ⟨g_a, g_b, gB⟩ => ?_
  clear hB hsz 
  have h_a := g_a
  have h_b := g_b
  have hB := gB
  clear gB g_a g_b
  have c_a := cell_at h_a
  have c_b := cell_at h_b
  go_wp2_with fail
  refine (quo_zero m n HX.out HY.out HN.out _).mono ?_
  rintro e w2 ⟨rfl, hb⟩
  have k_a := heap_below hb h_a
  have k_b := heap_below hb h_b
  have kB : Below w.heap.size w w2 := by
    have hsz := hB.size
    focus (repeat (first | (with_reducible exact Below.refl _ _) | (with_reducible assumption) | ((with_reducible refine Below.setCell ?_ ?_ _); rotate_left; (focus (first | omega | (simp; done) | (simp; omega)))) | ((with_reducible refine Below.alloc ?_ ?_ _); rotate_left; (focus (first | omega | (simp; done) | (simp; omega)))) | (with_reducible refine Below.drew ?_) | (refine below_on ?_ (by assumption))))
  have sz_w2 := kB.size
  have sl_w2 := lt_of_block k_b
  clear hB hb h_a h_b
  have h_a := k_a
  have h_b := k_b
  have hB := kB
  clear kB k_a k_b
  have hsz := hB.size
  go_upto_region 9 with ((go_at_call 14; refine (num_s _ _).mono ?_; rintro e w' ⟨rfl, rfl⟩))
  refine abs_wp (fun W => W.heap[w.heap.size]? = some (.cells #[.bool (ng (m)), .int .u64 (dg (ab (m)) 0), .int .u64 (dg (ab (m)) 1), .int .u64 (dg (ab (m)) 2), .int .u64 (dg (ab (m)) 3)] 25 (0, 0)) ∧ W.heap[w.heap.size + 1]? = some (.cells #[.bool (ng (n)), .int .u64 (dg (ab (n)) 0), .int .u64 (dg (ab (n)) 1), .int .u64 (dg (ab (n)) 2), .int .u64 (dg (ab (n)) 3)] 25 (0, 0)) ∧ W.heap[w2.heap.size]? = some (.cells #[.bool (ng (0)), .int .u64 (dg (ab (0)) 0), .int .u64 (dg (ab (0)) 1), .int .u64 (dg (ab (0)) 2), .int .u64 (dg (ab (0)) 3)] 25 (0, 0)) ∧ W.heap[w2.heap.size + 1]? = some (.cells #[.bool (ng (0)), .int .u64 (dg (ab (0)) 0), .int .u64 (dg (ab (0)) 1), .int .u64 (dg (ab (0)) 2), .int .u64 (dg (ab (0)) 3)] 25 (0, 0)) ∧ Below w.heap.size w W) ⟨heap_old (heap_old (h_a) _) _, heap_old (heap_old (h_b) _) _, heap_old (heap_new _ _) _, heap_at (by simp) _, (by focus (repeat (first | (with_reducible exact Below.refl _ _) | (with_reducible assumption) | ((with_reducible refine Below.setCell ?_ ?_ _); rotate_left; (focus (first | omega | (simp; done) | (simp; omega)))) | ((with_reducible refine Below.alloc ?_ ?_ _); rotate_left; (focus (first | omega | (simp; done) | (simp; omega)))) | (with_reducible refine Below.drew ?_) | (refine below_on ?_ (by assumption)))))⟩ fun W3 ⟨g_a, g_b, g_q, g_r, gB⟩ => ?_
  clear hB hsz h_a h_b
  have h_a := g_a
  have h_b := g_b
  have h_q := g_q
  have h_r := g_r
  have hB := gB
  clear gB g_a g_b g_q g_r
  have c_a := cell_at h_a
  have c_b := cell_at h_b
  go_wp2_with fail
  refine (gcd_at m n 0 HX.out HY.out HG.out _).mono ?_
  rintro e w4 ⟨rfl, hb⟩
  have k_a := heap_below hb h_a
  have k_b := heap_below hb h_b
  have k_q := heap_below hb h_q
  have k_r := heap_below hb h_r
  have kB : Below w.heap.size w w4 := by
    have hsz := hB.size
    focus (repeat (first | (with_reducible exact Below.refl _ _) | (with_reducible assumption) | ((with_reducible refine Below.setCell ?_ ?_ _); rotate_left; (focus (first | omega | (simp; done) | (simp; omega)))) | ((with_reducible refine Below.alloc ?_ ?_ _); rotate_left; (focus (first | omega | (simp; done) | (simp; omega)))) | (with_reducible refine Below.drew ?_) | (refine below_on ?_ (by assumption))))
  have sz_w4 := kB.size
  have sl_w4 := lt_of_block k_r
  clear hB hb h_a h_b h_q h_r
  have h_a := k_a
  have h_b := k_b
  have h_q := k_q
  have h_r := k_r
  have hB := kB
  clear kB k_a k_b k_q k_r
  have hsz := hB.size
  go_upto_region 10 with (fail)
  refine abs_wp (fun W => W.heap[w.heap.size]? = some (.cells #[.bool (ng (m)), .int .u64 (dg (ab (m)) 0), .int .u64 (dg (ab (m)) 1), .int .u64 (dg (ab (m)) 2), .int .u64 (dg (ab (m)) 3)] 25 (0, 0)) ∧ W.heap[w.heap.size + 1]? = some (.cells #[.bool (ng (n)), .int .u64 (dg (ab (n)) 0), .int .u64 (dg (ab (n)) 1), .int .u64 (dg (ab (n)) 2), .int .u64 (dg (ab (n)) 3)] 25 (0, 0)) ∧ W.heap[w2.heap.size]? = some (.cells #[.bool (ng (0)), .int .u64 (dg (ab (0)) 0), .int .u64 (dg (ab (0)) 1), .int .u64 (dg (ab (0)) 2), .int .u64 (dg (ab (0)) 3)] 25 (0, 0)) ∧ W.heap[w2.heap.size + 1]? = some (.cells #[.bool (ng (0)), .int .u64 (dg (ab (0)) 0), .int .u64 (dg (ab (0)) 1), .int .u64 (dg (ab (0)) 2), .int .u64 (dg (ab (0)) 3)] 25 (0, 0)) ∧ W.heap[w4.heap.size]? = some (.cells #[.bool (ng (0)), .int .u64 (dg (ab (0)) 0), .int .u64 (dg (ab (0)) 1), .int .u64 (dg (ab (0)) 2), .int .u64 (dg (ab (0)) 3)] 25 (0, 0)) ∧ Below w.heap.size w W) ⟨heap_old (h_a) _, heap_old (h_b) _, heap_old (h_q) _, heap_old (h_r) _, heap_new _ _, (by focus (repeat (first | (with_reducible exact Below.refl _ _) | (with_reducible assumption) | ((with_reducible refine Below.setCell ?_ ?_ _); rotate_left; (focus (first | omega | (simp; done) | (simp; omega)))) | ((with_reducible refine Below.alloc ?_ ?_ _); rotate_left; (focus (first | omega | (simp; done) | (simp; omega)))) | (with_reducible refine Below.drew ?_) | (refine below_on ?_ (by assumption)))))⟩ fun W5 ⟨g_a, g_b, g_q, g_r, g_d, gB⟩ => ?_
  clear hB hsz h_a h_b h_q h_r
  have h_a := g_a
  have h_b := g_b
  have h_q := g_q
  have h_r := g_r
  have h_d := g_d
  have hB := gB
  clear gB g_a g_b g_q g_r g_d
  have c_d := cell_at h_d
  have n0 : ng 0 = false := rfl
  have e0 : dg (ab 0) 0 = 0 := by decide
  have e1 : dg (ab 0) 1 = 0 := by decide
  have e2 : dg (ab 0) 2 = 0 := by decide
  have e3 : dg (ab 0) 3 = 0 := by decide
  go_wp2_with ((go_at_call 14; refine (num_s _ _).mono ?_; rintro e w' ⟨rfl, rfl⟩))
  go_ret
  exact ⟨rfl, hB⟩
set_option maxRecDepth 100000 in
set_option maxHeartbeats 4000000 in
theorem divides_d (p q : Bool × Nat) (HP : Hd (p.2 < 2 ^ 256)) (HQ : Hd (q.2 < 2 ^ 256)) (HO : Hd (¬ (okP p ∧ okP q))) (w : World) :
    Calls Try.prog 42 #[.agg #[.bool (p.1), .int .u64 (dg (p.2) 0), .int .u64 (dg (p.2) 1), .int .u64 (dg (p.2) 2), .int .u64 (dg (p.2) 3)], .agg #[.bool (q.1), .int .u64 (dg (q.2) 0), .int .u64 (dg (q.2) 1), .int .u64 (dg (q.2) 2), .int .u64 (dg (q.2) 3)]] w fun e w' => e = .returned (.bool true) ∧ Below w.heap.size w w' := by
  go_enter Try.func42, Try.ntmps42
  have hB := Below.refl w.heap.size w
  go_upto_region 1 with (fail)
  refine abs_wp (fun W => W.heap[w.heap.size]? = some (.cells #[.bool (p.1), .int .u64 (dg (p.2) 0), .int .u64 (dg (p.2) 1), .int .u64 (dg (p.2) 2), .int .u64 (dg (p.2) 3)] 25 (0, 0)) ∧ W.heap[w.heap.size + 1]? = some (.cells #[.bool (q.1), .int .u64 (dg (q.2) 0), .int .u64 (dg (q.2) 1), .int .u64 (dg (q.2) 2), .int .u64 (dg (q.2) 3)] 25 (0, 0)) ∧ Below w.heap.size w W) ⟨heap_old (heap_new _ _) _, heap_at (by simp) _, by focus (repeat (first | (with_reducible exact Below.refl _ _) | (with_reducible assumption) | ((with_reducible refine Below.setCell ?_ ?_ _); rotate_left; (focus (first | omega | (simp; done) | (simp; omega)))) | ((with_reducible refine Below.alloc ?_ ?_ _); rotate_left; (focus (first | omega | (simp; done) | (simp; omega)))) | (with_reducible refine Below.drew ?_) | (refine below_on ?_ (by assumption))))⟩ fun W ⟨y0, y1, gB⟩ => ?_
  clear hB
  have c0 := cell_at y0
  have c1 := cell_at y1
  go_wp2_with fail
  refine (quo_bad p q HP.out HQ.out HO.out _).mono ?_
  rintro e w1 ⟨rfl, hb1⟩
  have z0 := heap_below hb1 y0
  have z1 := heap_below hb1 y1
  have hB := below_on gB hb1
  have hsz := hB.size
  clear y0 y1 c0 c1 gB hb1
  go_upto_region 9 with ((go_at_call 14; refine (num_s _ _).mono ?_; rintro e w' ⟨rfl, rfl⟩))
  refine abs_wp (fun W => W.heap[w.heap.size]? = some (.cells #[.bool (p.1), .int .u64 (dg (p.2) 0), .int .u64 (dg (p.2) 1), .int .u64 (dg (p.2) 2), .int .u64 (dg (p.2) 3)] 25 (0, 0)) ∧ W.heap[w.heap.size + 1]? = some (.cells #[.bool (q.1), .int .u64 (dg (q.2) 0), .int .u64 (dg (q.2) 1), .int .u64 (dg (q.2) 2), .int .u64 (dg (q.2) 3)] 25 (0, 0)) ∧ Below w.heap.size w W) ⟨heap_old (heap_old z0 _) _, heap_old (heap_old z1 _) _, by focus (repeat (first | (with_reducible exact Below.refl _ _) | (with_reducible assumption) | ((with_reducible refine Below.setCell ?_ ?_ _); rotate_left; (focus (first | omega | (simp; done) | (simp; omega)))) | ((with_reducible refine Below.alloc ?_ ?_ _); rotate_left; (focus (first | omega | (simp; done) | (simp; omega)))) | (with_reducible refine Below.drew ?_) | (refine below_on ?_ (by assumption))))⟩ fun W ⟨y0, y1, gB⟩ => ?_
  clear hB z0 z1 hsz
  have c0 := cell_at y0
  have c1 := cell_at y1
  go_wp2_with fail
  refine (gcd_bad p q HP.out HQ.out HO.out _).mono ?_
  rintro e w2 ⟨rfl, hb1⟩
  have hB := below_on gB hb1
  have hsz := hB.size
  clear y0 y1 c0 c1 gB hb1
  go_upto_region 10 with (fail)
  refine abs_wp (fun W => Below w.heap.size w W) (by focus (repeat (first | (with_reducible exact Below.refl _ _) | (with_reducible assumption) | ((with_reducible refine Below.setCell ?_ ?_ _); rotate_left; (focus (first | omega | (simp; done) | (simp; omega)))) | ((with_reducible refine Below.alloc ?_ ?_ _); rotate_left; (focus (first | omega | (simp; done) | (simp; omega)))) | (with_reducible refine Below.drew ?_) | (refine below_on ?_ (by assumption))))) fun W gB => ?_
  clear hB hsz
  go_wp2_with ((go_at_call 14; refine (num_s _ _).mono ?_; rintro e w' ⟨rfl, rfl⟩))
  go_ret
  exact ⟨rfl, gB⟩
end Go.Proofs.Yteibcklcegkbcaa
