/-
  The walk of LimbMirrors, path by path (printed by gen/mirrors.py of this project). Conditions stand in each theorem.
-/
import Derived.Test.YteibcklcegkbcaaMi0
namespace Go.Proofs.Yteibcklcegkbcaa
open Go.RowKit Go.BigFrame

set_option maxRecDepth 100000 in
set_option maxHeartbeats 4000000 in
theorem mirrors_110 (m n : Int) (HX : Hd (ab m < 2 ^ 256)) (HY : Hd (ab n < 2 ^ 256)) (HX2 : Hd (ab (-m) < 2 ^ 256)) (HY2 : Hd (ab (-n) < 2 ^ 256)) (HA : Hd (addV [m, n] = m + n ∧ addE [m, n] = 0 ∧ addV [-m, -n] = -(m + n) ∧ addE [-m, -n] = 0 ∧ ab (-(m + n)) < 2 ^ 256 ∧ True)) (HM : Hd (mulV [m, n] = m * n ∧ mulE [m, n] = 0 ∧ mulV [-m, n] = -(m * n) ∧ mulE [-m, n] = 0 ∧ ab (-(m * n)) < 2 ^ 256 ∧ True)) (HQ : Hd (n = 0)) (w : World) :
    Calls Try.prog 6 #[.agg #[.bool (ng (m)), .int .u64 (dg (ab (m)) 0), .int .u64 (dg (ab (m)) 1), .int .u64 (dg (ab (m)) 2), .int .u64 (dg (ab (m)) 3)], .agg #[.bool (ng (n)), .int .u64 (dg (ab (n)) 0), .int .u64 (dg (ab (n)) 1), .int .u64 (dg (ab (n)) 2), .int .u64 (dg (ab (n)) 3)]] w fun e w' => e = .returned (.bool true) ∧ Below w.heap.size w w' := by
  go_enter Try.func6, Try.ntmps6
  have hB := Below.refl w.heap.size w
  have hsz := hB.size
  go_upto_region 1 with (fail)
  refine abs_wp (fun W => W.heap[w.heap.size]? = some (.cells #[.bool (ng (m)), .int .u64 (dg (ab (m)) 0), .int .u64 (dg (ab (m)) 1), .int .u64 (dg (ab (m)) 2), .int .u64 (dg (ab (m)) 3)] 25 (0, 0)) ∧ W.heap[w.heap.size + 1]? = some (.cells #[.bool (ng (n)), .int .u64 (dg (ab (n)) 0), .int .u64 (dg (ab (n)) 1), .int .u64 (dg (ab (n)) 2), .int .u64 (dg (ab (n)) 3)] 25 (0, 0)) ∧ Below w.heap.size w W) ⟨heap_old (heap_new _ _) _, heap_at (by simp) _, (by focus (repeat (first | (with_reducible exact Below.refl _ _) | (with_reducible assumption) | ((with_reducible refine Below.setCell ?_ ?_ _); rotate_left; (focus (first | omega | (simp; done) | (simp; omega)))) | ((with_reducible refine Below.alloc ?_ ?_ _); rotate_left; (focus (first | omega | (simp; done) | (simp; omega)))) | (with_reducible refine Below.drew ?_) | (refine below_on ?_ (by assumption)))))⟩ fun W1 ⟨g_a, g_b, gB⟩ => ?_
  clear hB hsz 
  have h_a := g_a
  have h_b := g_b
  have hB := gB
  clear gB g_a g_b
  have c_a := cell_at h_a
  go_wp2_with fail
  refine (neg_ok _ HX.out _).mono ?_
  rintro e w2 ⟨rfl, hb⟩
  have k_a := heap_below hb h_a
  have k_b := heap_below hb h_b
  have kB : Below w.heap.size w w2 := by
    have hsz := hB.size
    focus (repeat (first | (with_reducible exact Below.refl _ _) | (with_reducible assumption) | ((with_reducible refine Below.setCell ?_ ?_ _); rotate_left; (focus (first | omega | (simp; done) | (simp; omega)))) | ((with_reducible refine Below.alloc ?_ ?_ _); rotate_left; (focus (first | omega | (simp; done) | (simp; omega)))) | (with_reducible refine Below.drew ?_) | (refine below_on ?_ (by assumption))))
  clear hB hb h_a h_b
  have h_a := k_a
  have h_b := k_b
  have hB := kB
  clear kB k_a k_b
  have hsz := hB.size
  go_upto_region 2 with (fail)
  refine abs_wp (fun W => W.heap[w.heap.size]? = some (.cells #[.bool (ng (m)), .int .u64 (dg (ab (m)) 0), .int .u64 (dg (ab (m)) 1), .int .u64 (dg (ab (m)) 2), .int .u64 (dg (ab (m)) 3)] 25 (0, 0)) ∧ W.heap[w.heap.size + 1]? = some (.cells #[.bool (ng (n)), .int .u64 (dg (ab (n)) 0), .int .u64 (dg (ab (n)) 1), .int .u64 (dg (ab (n)) 2), .int .u64 (dg (ab (n)) 3)] 25 (0, 0)) ∧ W.heap[w2.heap.size]? = some (.cells #[.bool (ng (-m)), .int .u64 (dg (ab (-m)) 0), .int .u64 (dg (ab (-m)) 1), .int .u64 (dg (ab (-m)) 2), .int .u64 (dg (ab (-m)) 3)] 25 (0, 0)) ∧ Below w.heap.size w W) ⟨heap_old (h_a) _, heap_old (h_b) _, heap_new _ _, (by focus (repeat (first | (with_reducible exact Below.refl _ _) | (with_reducible assumption) | ((with_reducible refine Below.setCell ?_ ?_ _); rotate_left; (focus (first | omega | (simp; done) | (simp; omega)))) | ((with_reducible refine Below.alloc ?_ ?_ _); rotate_left; (focus (first | omega | (simp; done) | (simp; omega)))) | (with_reducible refine Below.drew ?_) | (refine below_on ?_ (by assumption)))))⟩ fun W3 ⟨g_a, g_b, g_x, gB⟩ => ?_
  clear hB hsz h_a h_b
  have h_a := g_a
  have h_b := g_b
  have h_x := g_x
  have hB := gB
  clear gB g_a g_b g_x
  have c_b := cell_at h_b
  go_wp2_with fail
  refine (neg_ok _ HY.out _).mono ?_
  rintro e w4 ⟨rfl, hb⟩
  have k_a := heap_below hb h_a
  have k_b := heap_below hb h_b
  have k_x := heap_below hb h_x
  have kB : Below w.heap.size w w4 := by
    have hsz := hB.size
    focus (repeat (first | (with_reducible exact Below.refl _ _) | (with_reducible assumption) | ((with_reducible refine Below.setCell ?_ ?_ _); rotate_left; (focus (first | omega | (simp; done) | (simp; omega)))) | ((with_reducible refine Below.alloc ?_ ?_ _); rotate_left; (focus (first | omega | (simp; done) | (simp; omega)))) | (with_reducible refine Below.drew ?_) | (refine below_on ?_ (by assumption))))
  clear hB hb h_a h_b h_x
  have h_a := k_a
  have h_b := k_b
  have h_x := k_x
  have hB := kB
  clear kB k_a k_b k_x
  have hsz := hB.size
  go_upto_region 3 with (fail)
  refine abs_wp (fun W => W.heap[w.heap.size]? = some (.cells #[.bool (ng (m)), .int .u64 (dg (ab (m)) 0), .int .u64 (dg (ab (m)) 1), .int .u64 (dg (ab (m)) 2), .int .u64 (dg (ab (m)) 3)] 25 (0, 0)) ∧ W.heap[w.heap.size + 1]? = some (.cells #[.bool (ng (n)), .int .u64 (dg (ab (n)) 0), .int .u64 (dg (ab (n)) 1), .int .u64 (dg (ab (n)) 2), .int .u64 (dg (ab (n)) 3)] 25 (0, 0)) ∧ W.heap[w2.heap.size]? = some (.cells #[.bool (ng (-m)), .int .u64 (dg (ab (-m)) 0), .int .u64 (dg (ab (-m)) 1), .int .u64 (dg (ab (-m)) 2), .int .u64 (dg (ab (-m)) 3)] 25 (0, 0)) ∧ W.heap[w4.heap.size]? = some (.cells #[.bool (ng (-n)), .int .u64 (dg (ab (-n)) 0), .int .u64 (dg (ab (-n)) 1), .int .u64 (dg (ab (-n)) 2), .int .u64 (dg (ab (-n)) 3)] 25 (0, 0)) ∧ Below w.heap.size w W) ⟨heap_old (h_a) _, heap_old (h_b) _, heap_old (h_x) _, heap_new _ _, (by focus (repeat (first | (with_reducible exact Below.refl _ _) | (with_reducible assumption) | ((with_reducible refine Below.setCell ?_ ?_ _); rotate_left; (focus (first | omega | (simp; done) | (simp; omega)))) | ((with_reducible refine Below.alloc ?_ ?_ _); rotate_left; (focus (first | omega | (simp; done) | (simp; omega)))) | (with_reducible refine Below.drew ?_) | (refine below_on ?_ (by assumption)))))⟩ fun W5 ⟨g_a, g_b, g_x, g_y, gB⟩ => ?_
  clear hB hsz h_a h_b h_x
  have h_a := g_a
  have h_b := g_b
  have h_x := g_x
  have h_y := g_y
  have hB := gB
  clear gB g_a g_b g_x g_y
  go_upto_region 5 with ((go_at_call 14; refine (num_s _ _).mono ?_; rintro e w' ⟨rfl, rfl⟩))
  refine abs_wp (fun W => W.heap[w.heap.size]? = some (.cells #[.bool (ng (m)), .int .u64 (dg (ab (m)) 0), .int .u64 (dg (ab (m)) 1), .int .u64 (dg (ab (m)) 2), .int .u64 (dg (ab (m)) 3)] 25 (0, 0)) ∧ W.heap[w.heap.size + 1]? = some (.cells #[.bool (ng (n)), .int .u64 (dg (ab (n)) 0), .int .u64 (dg (ab (n)) 1), .int .u64 (dg (ab (n)) 2), .int .u64 (dg (ab (n)) 3)] 25 (0, 0)) ∧ W.heap[w2.heap.size]? = some (.cells #[.bool (ng (-m)), .int .u64 (dg (ab (-m)) 0), .int .u64 (dg (ab (-m)) 1), .int .u64 (dg (ab (-m)) 2), .int .u64 (dg (ab (-m)) 3)] 25 (0, 0)) ∧ W.heap[w4.heap.size]? = some (.cells #[.bool (ng (-n)), .int .u64 (dg (ab (-n)) 0), .int .u64 (dg (ab (-n)) 1), .int .u64 (dg (ab (-n)) 2), .int .u64 (dg (ab (-n)) 3)] 25 (0, 0)) ∧ Below w.heap.size w W) ⟨h_a, h_b, h_x, h_y, (by focus (repeat (first | (with_reducible exact Below.refl _ _) | (with_reducible assumption) | ((with_reducible refine Below.setCell ?_ ?_ _); rotate_left; (focus (first | omega | (simp; done) | (simp; omega)))) | ((with_reducible refine Below.alloc ?_ ?_ _); rotate_left; (focus (first | omega | (simp; done) | (simp; omega)))) | (with_reducible refine Below.drew ?_) | (refine below_on ?_ (by assumption)))))⟩ fun W6 ⟨g_a, g_b, g_x, g_y, gB⟩ => ?_
  clear hB h_a h_b h_x h_y
  have h_a := g_a
  have h_b := g_b
  have h_x := g_x
  have h_y := g_y
  have hB := gB
  clear gB g_a g_b g_x g_y
  have c_a := cell_at h_a
  have c_b := cell_at h_b
  go_wp2_with fail
  refine (add_at _ _ [m, n] (m + n) 0 _ (ints_two_z (b := W6.heap.size) HX.out HY.out (by focus (repeat (first | (with_reducible exact heap_at (by first | rfl | (simp; done) | (simp; omega)) _) | (with_reducible refine heap_old ?_ _))))) HA.out.1 HA.out.2.1).mono ?_
  rintro e w7 ⟨rfl, hb⟩
  have k_a := heap_below hb (heap_old h_a _)
  have k_b := heap_below hb (heap_old h_b _)
  have k_x := heap_below hb (heap_old h_x _)
  have k_y := heap_below hb (heap_old h_y _)
  have kB : Below w.heap.size w w7 := by
    have hsz := hB.size
    focus (repeat (first | (with_reducible exact Below.refl _ _) | (with_reducible assumption) | ((with_reducible refine Below.setCell ?_ ?_ _); rotate_left; (focus (first | omega | (simp; done) | (simp; omega)))) | ((with_reducible refine Below.alloc ?_ ?_ _); rotate_left; (focus (first | omega | (simp; done) | (simp; omega)))) | (with_reducible refine Below.drew ?_) | (refine below_on ?_ (by assumption))))
  clear hB hb h_a h_b h_x h_y
  have h_a := k_a
  have h_b := k_b
  have h_x := k_x
  have h_y := k_y
  have hB := kB
  clear kB k_a k_b k_x k_y
  go_wp2_with fail
  refine (sure_any (m + n) 0 _).mono ?_
  rintro e w8 ⟨rfl, hb⟩
  have k_a := heap_below hb h_a
  have k_b := heap_below hb h_b
  have k_x := heap_below hb h_x
  have k_y := heap_below hb h_y
  have kB : Below w.heap.size w w8 := by
    have hsz := hB.size
    focus (repeat (first | (with_reducible exact Below.refl _ _) | (with_reducible assumption) | ((with_reducible refine Below.setCell ?_ ?_ _); rotate_left; (focus (first | omega | (simp; done) | (simp; omega)))) | ((with_reducible refine Below.alloc ?_ ?_ _); rotate_left; (focus (first | omega | (simp; done) | (simp; omega)))) | (with_reducible refine Below.drew ?_) | (refine below_on ?_ (by assumption))))
  clear hB hb h_a h_b h_x h_y
  have h_a := k_a
  have h_b := k_b
  have h_x := k_x
  have h_y := k_y
  have hB := kB
  clear kB k_a k_b k_x k_y
  have hsz := hB.size
  go_upto_region 7 with (fail)
  refine abs_wp (fun W => W.heap[w.heap.size]? = some (.cells #[.bool (ng (m)), .int .u64 (dg (ab (m)) 0), .int .u64 (dg (ab (m)) 1), .int .u64 (dg (ab (m)) 2), .int .u64 (dg (ab (m)) 3)] 25 (0, 0)) ∧ W.heap[w.heap.size + 1]? = some (.cells #[.bool (ng (n)), .int .u64 (dg (ab (n)) 0), .int .u64 (dg (ab (n)) 1), .int .u64 (dg (ab (n)) 2), .int .u64 (dg (ab (n)) 3)] 25 (0, 0)) ∧ W.heap[w2.heap.size]? = some (.cells #[.bool (ng (-m)), .int .u64 (dg (ab (-m)) 0), .int .u64 (dg (ab (-m)) 1), .int .u64 (dg (ab (-m)) 2), .int .u64 (dg (ab (-m)) 3)] 25 (0, 0)) ∧ W.heap[w4.heap.size]? = some (.cells #[.bool (ng (-n)), .int .u64 (dg (ab (-n)) 0), .int .u64 (dg (ab (-n)) 1), .int .u64 (dg (ab (-n)) 2), .int .u64 (dg (ab (-n)) 3)] 25 (0, 0)) ∧ W.heap[w8.heap.size]? = some (.cells #[.bool (ng (m + n)), .int .u64 (dg (ab (m + n)) 0), .int .u64 (dg (ab (m + n)) 1), .int .u64 (dg (ab (m + n)) 2), .int .u64 (dg (ab (m + n)) 3)] 25 (0, 0)) ∧ Below w.heap.size w W) ⟨heap_old (h_a) _, heap_old (h_b) _, heap_old (h_x) _, heap_old (h_y) _, heap_new _ _, (by focus (repeat (first | (with_reducible exact Below.refl _ _) | (with_reducible assumption) | ((with_reducible refine Below.setCell ?_ ?_ _); rotate_left; (focus (first | omega | (simp; done) | (simp; omega)))) | ((with_reducible refine Below.alloc ?_ ?_ _); rotate_left; (focus (first | omega | (simp; done) | (simp; omega)))) | (with_reducible refine Below.drew ?_) | (refine below_on ?_ (by assumption)))))⟩ fun W9 ⟨g_a, g_b, g_x, g_y, g_s, gB⟩ => ?_
  clear hB hsz h_a h_b h_x h_y
  have h_a := g_a
  have h_b := g_b
  have h_x := g_x
  have h_y := g_y
  have h_s := g_s
  have hB := gB
  clear gB g_a g_b g_x g_y g_s
  have c_x := cell_at h_x
  have c_y := cell_at h_y
  go_wp2_with fail
  refine (add_at _ _ [-m, -n] (-(m + n)) 0 _ (ints_two_z (b := W9.heap.size) HX2.out HY2.out (by focus (repeat (first | (with_reducible exact heap_at (by first | rfl | (simp; done) | (simp; omega)) _) | (with_reducible refine heap_old ?_ _))))) HA.out.2.2.1 HA.out.2.2.2.1).mono ?_
  rintro e w10 ⟨rfl, hb⟩
  have k_a := heap_below hb (heap_old h_a _)
  have k_b := heap_below hb (heap_old h_b _)
  have k_x := heap_below hb (heap_old h_x _)
  have k_y := heap_below hb (heap_old h_y _)
  have k_s := heap_below hb (heap_old h_s _)
  have kB : Below w.heap.size w w10 := by
    have hsz := hB.size
    focus (repeat (first | (with_reducible exact Below.refl _ _) | (with_reducible assumption) | ((with_reducible refine Below.setCell ?_ ?_ _); rotate_left; (focus (first | omega | (simp; done) | (simp; omega)))) | ((with_reducible refine Below.alloc ?_ ?_ _); rotate_left; (focus (first | omega | (simp; done) | (simp; omega)))) | (with_reducible refine Below.drew ?_) | (refine below_on ?_ (by assumption))))
  clear hB hb h_a h_b h_x h_y h_s
  have h_a := k_a
  have h_b := k_b
  have h_x := k_x
  have h_y := k_y
  have h_s := k_s
  have hB := kB
  clear kB k_a k_b k_x k_y k_s
  go_wp2_with fail
  refine (sure_any (-(m + n)) 0 _).mono ?_
  rintro e w11 ⟨rfl, hb⟩
  have k_a := heap_below hb h_a
  have k_b := heap_below hb h_b
  have k_x := heap_below hb h_x
  have k_y := heap_below hb h_y
  have k_s := heap_below hb h_s
  have kB : Below w.heap.size w w11 := by
    have hsz := hB.size
    focus (repeat (first | (with_reducible exact Below.refl _ _) | (with_reducible assumption) | ((with_reducible refine Below.setCell ?_ ?_ _); rotate_left; (focus (first | omega | (simp; done) | (simp; omega)))) | ((with_reducible refine Below.alloc ?_ ?_ _); rotate_left; (focus (first | omega | (simp; done) | (simp; omega)))) | (with_reducible refine Below.drew ?_) | (refine below_on ?_ (by assumption))))
  clear hB hb h_a h_b h_x h_y h_s
  have h_a := k_a
  have h_b := k_b
  have h_x := k_x
  have h_y := k_y
  have h_s := k_s
  have hB := kB
  clear kB k_a k_b k_x k_y k_s
  have hsz := hB.size
  go_upto_region 8 with (fail)
  refine abs_wp (fun W => W.heap[w.heap.size]? = some (.cells #[.bool (ng (m)), .int .u64 (dg (ab (m)) 0), .int .u64 (dg (ab (m)) 1), .int .u64 (dg (ab (m)) 2), .int .u64 (dg (ab (m)) 3)] 25 (0, 0)) ∧ W.heap[w.heap.size + 1]? = some (.cells #[.bool (ng (n)), .int .u64 (dg (ab (n)) 0), .int .u64 (dg (ab (n)) 1), .int .u64 (dg (ab (n)) 2), .int .u64 (dg (ab (n)) 3)] 25 (0, 0)) ∧ W.heap[w2.heap.size]? = some (.cells #[.bool (ng (-m)), .int .u64 (dg (ab (-m)) 0), .int .u64 (dg (ab (-m)) 1), .int .u64 (dg (ab (-m)) 2), .int .u64 (dg (ab (-m)) 3)] 25 (0, 0)) ∧ W.heap[w4.heap.size]? = some (.cells #[.bool (ng (-n)), .int .u64 (dg (ab (-n)) 0), .int .u64 (dg (ab (-n)) 1), .int .u64 (dg (ab (-n)) 2), .int .u64 (dg (ab (-n)) 3)] 25 (0, 0)) ∧ W.heap[w8.heap.size]? = some (.cells #[.bool (ng (m + n)), .int .u64 (dg (ab (m + n)) 0), .int .u64 (dg (ab (m + n)) 1), .int .u64 (dg (ab (m + n)) 2), .int .u64 (dg (ab (m + n)) 3)] 25 (0, 0)) ∧ W.heap[w11.heap.size]? = some (.cells #[.bool (ng (-(m + n))), .int .u64 (dg (ab (-(m + n))) 0), .int .u64 (dg (ab (-(m + n))) 1), .int .u64 (dg (ab (-(m + n))) 2), .int .u64 (dg (ab (-(m + n))) 3)] 25 (0, 0)) ∧ Below w.heap.size w W) ⟨heap_old (h_a) _, heap_old (h_b) _, heap_old (h_x) _, heap_old (h_y) _, heap_old (h_s) _, heap_new _ _, (by focus (repeat (first | (with_reducible exact Below.refl _ _) | (with_reducible assumption) | ((with_reducible refine Below.setCell ?_ ?_ _); rotate_left; (focus (first | omega | (simp; done) | (simp; omega)))) | ((with_reducible refine Below.alloc ?_ ?_ _); rotate_left; (focus (first | omega | (simp; done) | (simp; omega)))) | (with_reducible refine Below.drew ?_) | (refine below_on ?_ (by assumption)))))⟩ fun W12 ⟨g_a, g_b, g_x, g_y, g_s, g_t, gB⟩ => ?_
  clear hB hsz h_a h_b h_x h_y h_s
  have h_a := g_a
  have h_b := g_b
  have h_x := g_x
  have h_y := g_y
  have h_s := g_s
  have h_t := g_t
  have hB := gB
  clear gB g_a g_b g_x g_y g_s g_t
  have c_t := cell_at h_t
  go_wp2_with fail
  refine (neg_at (-(m + n)) (m + n) HA.out.2.2.2.2.1 (Int.neg_neg _) _).mono ?_
  rintro e w13 ⟨rfl, hb⟩
  have k_a := heap_below hb h_a
  have k_b := heap_below hb h_b
  have k_x := heap_below hb h_x
  have k_y := heap_below hb h_y
  have k_s := heap_below hb h_s
  have k_t := heap_below hb h_t
  have kB : Below w.heap.size w w13 := by
    have hsz := hB.size
    focus (repeat (first | (with_reducible exact Below.refl _ _) | (with_reducible assumption) | ((with_reducible refine Below.setCell ?_ ?_ _); rotate_left; (focus (first | omega | (simp; done) | (simp; omega)))) | ((with_reducible refine Below.alloc ?_ ?_ _); rotate_left; (focus (first | omega | (simp; done) | (simp; omega)))) | (with_reducible refine Below.drew ?_) | (refine below_on ?_ (by assumption))))
  clear hB hb h_a h_b h_x h_y h_s h_t
  have h_a := k_a
  have h_b := k_b
  have h_x := k_x
  have h_y := k_y
  have h_s := k_s
  have h_t := k_t
  have hB := kB
  clear kB k_a k_b k_x k_y k_s k_t
  go_wp2_with fail
  refine (sure_any (m + n) 0 _).mono ?_
  rintro e w14 ⟨rfl, hb⟩
  have k_a := heap_below hb h_a
  have k_b := heap_below hb h_b
  have k_x := heap_below hb h_x
  have k_y := heap_below hb h_y
  have k_s := heap_below hb h_s
  have k_t := heap_below hb h_t
  have kB : Below w.heap.size w w14 := by
    have hsz := hB.size
    focus (repeat (first | (with_reducible exact Below.refl _ _) | (with_reducible assumption) | ((with_reducible refine Below.setCell ?_ ?_ _); rotate_left; (focus (first | omega | (simp; done) | (simp; omega)))) | ((with_reducible refine Below.alloc ?_ ?_ _); rotate_left; (focus (first | omega | (simp; done) | (simp; omega)))) | (with_reducible refine Below.drew ?_) | (refine below_on ?_ (by assumption))))
  clear hB hb h_a h_b h_x h_y h_s h_t
  have h_a := k_a
  have h_b := k_b
  have h_x := k_x
  have h_y := k_y
  have h_s := k_s
  have h_t := k_t
  have hB := kB
  clear kB k_a k_b k_x k_y k_s k_t
  have hsz := hB.size
  go_upto_region 9 with (fail)
  refine abs_wp (fun W => W.heap[w.heap.size]? = some (.cells #[.bool (ng (m)), .int .u64 (dg (ab (m)) 0), .int .u64 (dg (ab (m)) 1), .int .u64 (dg (ab (m)) 2), .int .u64 (dg (ab (m)) 3)] 25 (0, 0)) ∧ W.heap[w.heap.size + 1]? = some (.cells #[.bool (ng (n)), .int .u64 (dg (ab (n)) 0), .int .u64 (dg (ab (n)) 1), .int .u64 (dg (ab (n)) 2), .int .u64 (dg (ab (n)) 3)] 25 (0, 0)) ∧ W.heap[w2.heap.size]? = some (.cells #[.bool (ng (-m)), .int .u64 (dg (ab (-m)) 0), .int .u64 (dg (ab (-m)) 1), .int .u64 (dg (ab (-m)) 2), .int .u64 (dg (ab (-m)) 3)] 25 (0, 0)) ∧ W.heap[w4.heap.size]? = some (.cells #[.bool (ng (-n)), .int .u64 (dg (ab (-n)) 0), .int .u64 (dg (ab (-n)) 1), .int .u64 (dg (ab (-n)) 2), .int .u64 (dg (ab (-n)) 3)] 25 (0, 0)) ∧ W.heap[w8.heap.size]? = some (.cells #[.bool (ng (m + n)), .int .u64 (dg (ab (m + n)) 0), .int .u64 (dg (ab (m + n)) 1), .int .u64 (dg (ab (m + n)) 2), .int .u64 (dg (ab (m + n)) 3)] 25 (0, 0)) ∧ W.heap[w11.heap.size]? = some (.cells #[.bool (ng (-(m + n))), .int .u64 (dg (ab (-(m + n))) 0), .int .u64 (dg (ab (-(m + n))) 1), .int .u64 (dg (ab (-(m + n))) 2), .int .u64 (dg (ab (-(m + n))) 3)] 25 (0, 0)) ∧ W.heap[w14.heap.size]? = some (.cells #[.bool (ng (m + n)), .int .u64 (dg (ab (m + n)) 0), .int .u64 (dg (ab (m + n)) 1), .int .u64 (dg (ab (m + n)) 2), .int .u64 (dg (ab (m + n)) 3)] 25 (0, 0)) ∧ Below w.heap.size w W) ⟨heap_old (h_a) _, heap_old (h_b) _, heap_old (h_x) _, heap_old (h_y) _, heap_old (h_s) _, heap_old (h_t) _, heap_new _ _, (by focus (repeat (first | (with_reducible exact Below.refl _ _) | (with_reducible assumption) | ((with_reducible refine Below.setCell ?_ ?_ _); rotate_left; (focus (first | omega | (simp; done) | (simp; omega)))) | ((with_reducible refine Below.alloc ?_ ?_ _); rotate_left; (focus (first | omega | (simp; done) | (simp; omega)))) | (with_reducible refine Below.drew ?_) | (refine below_on ?_ (by assumption)))))⟩ fun W15 ⟨g_a, g_b, g_x, g_y, g_s, g_t, g_u, gB⟩ => ?_
  clear hB hsz h_a h_b h_x h_y h_s h_t
  have h_a := g_a
  have h_b := g_b
  have h_x := g_x
  have h_y := g_y
  have h_s := g_s
  have h_t := g_t
  have h_u := g_u
  have hB := gB
  clear gB g_a g_b g_x g_y g_s g_t g_u
  have c_u := cell_at h_u
  have c_s := cell_at h_s
  go_upto_region 11 with (fail)
  refine abs_wp (fun W => W.heap[w.heap.size]? = some (.cells #[.bool (ng (m)), .int .u64 (dg (ab (m)) 0), .int .u64 (dg (ab (m)) 1), .int .u64 (dg (ab (m)) 2), .int .u64 (dg (ab (m)) 3)] 25 (0, 0)) ∧ W.heap[w.heap.size + 1]? = some (.cells #[.bool (ng (n)), .int .u64 (dg (ab (n)) 0), .int .u64 (dg (ab (n)) 1), .int .u64 (dg (ab (n)) 2), .int .u64 (dg (ab (n)) 3)] 25 (0, 0)) ∧ W.heap[w2.heap.size]? = some (.cells #[.bool (ng (-m)), .int .u64 (dg (ab (-m)) 0), .int .u64 (dg (ab (-m)) 1), .int .u64 (dg (ab (-m)) 2), .int .u64 (dg (ab (-m)) 3)] 25 (0, 0)) ∧ Below w.heap.size w W) ⟨h_a, h_b, h_x, (by focus (repeat (first | (with_reducible exact Below.refl _ _) | (with_reducible assumption) | ((with_reducible refine Below.setCell ?_ ?_ _); rotate_left; (focus (first | omega | (simp; done) | (simp; omega)))) | ((with_reducible refine Below.alloc ?_ ?_ _); rotate_left; (focus (first | omega | (simp; done) | (simp; omega)))) | (with_reducible refine Below.drew ?_) | (refine below_on ?_ (by assumption)))))⟩ fun W16 ⟨g_a, g_b, g_x, gB⟩ => ?_
  clear hB h_a h_b h_x h_y h_s h_t h_u
  have h_a := g_a
  have h_b := g_b
  have h_x := g_x
  have hB := gB
  clear gB g_a g_b g_x
  have c_a := cell_at h_a
  have c_b := cell_at h_b
  go_wp2_with fail
  refine (mul_at _ _ [m, n] (m * n) 0 _ (ints_two_z (b := W16.heap.size) HX.out HY.out (by focus (repeat (first | (with_reducible exact heap_at (by first | rfl | (simp; done) | (simp; omega)) _) | (with_reducible refine heap_old ?_ _))))) HM.out.1 HM.out.2.1).mono ?_
  rintro e w17 ⟨rfl, hb⟩
  have k_a := heap_below hb (heap_old h_a _)
  have k_b := heap_below hb (heap_old h_b _)
  have k_x := heap_below hb (heap_old h_x _)
  have kB : Below w.heap.size w w17 := by
    have hsz := hB.size
    focus (repeat (first | (with_reducible exact Below.refl _ _) | (with_reducible assumption) | ((with_reducible refine Below.setCell ?_ ?_ _); rotate_left; (focus (first | omega | (simp; done) | (simp; omega)))) | ((with_reducible refine Below.alloc ?_ ?_ _); rotate_left; (focus (first | omega | (simp; done) | (simp; omega)))) | (with_reducible refine Below.drew ?_) | (refine below_on ?_ (by assumption))))
  clear hB hb h_a h_b h_x
  have h_a := k_a
  have h_b := k_b
  have h_x := k_x
  have hB := kB
  clear kB k_a k_b k_x
  go_wp2_with fail
  refine (sure_any (m * n) 0 _).mono ?_
  rintro e w18 ⟨rfl, hb⟩
  have k_a := heap_below hb h_a
  have k_b := heap_below hb h_b
  have k_x := heap_below hb h_x
  have kB : Below w.heap.size w w18 := by
    have hsz := hB.size
    focus (repeat (first | (with_reducible exact Below.refl _ _) | (with_reducible assumption) | ((with_reducible refine Below.setCell ?_ ?_ _); rotate_left; (focus (first | omega | (simp; done) | (simp; omega)))) | ((with_reducible refine Below.alloc ?_ ?_ _); rotate_left; (focus (first | omega | (simp; done) | (simp; omega)))) | (with_reducible refine Below.drew ?_) | (refine below_on ?_ (by assumption))))
  clear hB hb h_a h_b h_x
  have h_a := k_a
  have h_b := k_b
  have h_x := k_x
  have hB := kB
  clear kB k_a k_b k_x
  have hsz := hB.size
  go_upto_region 13 with (fail)
  refine abs_wp (fun W => W.heap[w.heap.size]? = some (.cells #[.bool (ng (m)), .int .u64 (dg (ab (m)) 0), .int .u64 (dg (ab (m)) 1), .int .u64 (dg (ab (m)) 2), .int .u64 (dg (ab (m)) 3)] 25 (0, 0)) ∧ W.heap[w.heap.size + 1]? = some (.cells #[.bool (ng (n)), .int .u64 (dg (ab (n)) 0), .int .u64 (dg (ab (n)) 1), .int .u64 (dg (ab (n)) 2), .int .u64 (dg (ab (n)) 3)] 25 (0, 0)) ∧ W.heap[w2.heap.size]? = some (.cells #[.bool (ng (-m)), .int .u64 (dg (ab (-m)) 0), .int .u64 (dg (ab (-m)) 1), .int .u64 (dg (ab (-m)) 2), .int .u64 (dg (ab (-m)) 3)] 25 (0, 0)) ∧ W.heap[w18.heap.size]? = some (.cells #[.bool (ng (m * n)), .int .u64 (dg (ab (m * n)) 0), .int .u64 (dg (ab (m * n)) 1), .int .u64 (dg (ab (m * n)) 2), .int .u64 (dg (ab (m * n)) 3)] 25 (0, 0)) ∧ Below w.heap.size w W) ⟨heap_old (h_a) _, heap_old (h_b) _, heap_old (h_x) _, heap_new _ _, (by focus (repeat (first | (with_reducible exact Below.refl _ _) | (with_reducible assumption) | ((with_reducible refine Below.setCell ?_ ?_ _); rotate_left; (focus (first | omega | (simp; done) | (simp; omega)))) | ((with_reducible refine Below.alloc ?_ ?_ _); rotate_left; (focus (first | omega | (simp; done) | (simp; omega)))) | (with_reducible refine Below.drew ?_) | (refine below_on ?_ (by assumption)))))⟩ fun W19 ⟨g_a, g_b, g_x, g_s, gB⟩ => ?_
  clear hB hsz h_a h_b h_x
  have h_a := g_a
  have h_b := g_b
  have h_x := g_x
  have h_s := g_s
  have hB := gB
  clear gB g_a g_b g_x g_s
  have c_x := cell_at h_x
  have c_b := cell_at h_b
  go_wp2_with fail
  refine (mul_at _ _ [-m, n] (-(m * n)) 0 _ (ints_two_z (b := W19.heap.size) HX2.out HY.out (by focus (repeat (first | (with_reducible exact heap_at (by first | rfl | (simp; done) | (simp; omega)) _) | (with_reducible refine heap_old ?_ _))))) HM.out.2.2.1 HM.out.2.2.2.1).mono ?_
  rintro e w20 ⟨rfl, hb⟩
  have k_a := heap_below hb (heap_old h_a _)
  have k_b := heap_below hb (heap_old h_b _)
  have k_x := heap_below hb (heap_old h_x _)
  have k_s := heap_below hb (heap_old h_s _)
  have kB : Below w.heap.size w w20 := by
    have hsz := hB.size
    focus (repeat (first | (with_reducible exact Below.refl _ _) | (with_reducible assumption) | ((with_reducible refine Below.setCell ?_ ?_ _); rotate_left; (focus (first | omega | (simp; done) | (simp; omega)))) | ((with_reducible refine Below.alloc ?_ ?_ _); rotate_left; (focus (first | omega | (simp; done) | (simp; omega)))) | (with_reducible refine Below.drew ?_) | (refine below_on ?_ (by assumption))))
  clear hB hb h_a h_b h_x h_s
  have h_a := k_a
  have h_b := k_b
  have h_x := k_x
  have h_s := k_s
  have hB := kB
  clear kB k_a k_b k_x k_s
  go_wp2_with fail
  refine (sure_any (-(m * n)) 0 _).mono ?_
  rintro e w21 ⟨rfl, hb⟩
  have k_a := heap_below hb h_a
  have k_b := heap_below hb h_b
  have k_x := heap_below hb h_x
  have k_s := heap_below hb h_s
  have kB : Below w.heap.size w w21 := by
    have hsz := hB.size
    focus (repeat (first | (with_reducible exact Below.refl _ _) | (with_reducible assumption) | ((with_reducible refine Below.setCell ?_ ?_ _); rotate_left; (focus (first | omega | (simp; done) | (simp; omega)))) | ((with_reducible refine Below.alloc ?_ ?_ _); rotate_left; (focus (first | omega | (simp; done) | (simp; omega)))) | (with_reducible refine Below.drew ?_) | (refine below_on ?_ (by assumption))))
  clear hB hb h_a h_b h_x h_s
  have h_a := k_a
  have h_b := k_b
  have h_x := k_x
  have h_s := k_s
  have hB := kB
  clear kB k_a k_b k_x k_s
  have hsz := hB.size
  go_upto_region 14 with (fail)
  refine abs_wp (fun W => W.heap[w.heap.size]? = some (.cells #[.bool (ng (m)), .int .u64 (dg (ab (m)) 0), .int .u64 (dg (ab (m)) 1), .int .u64 (dg (ab (m)) 2), .int .u64 (dg (ab (m)) 3)] 25 (0, 0)) ∧ W.heap[w.heap.size + 1]? = some (.cells #[.bool (ng (n)), .int .u64 (dg (ab (n)) 0), .int .u64 (dg (ab (n)) 1), .int .u64 (dg (ab (n)) 2), .int .u64 (dg (ab (n)) 3)] 25 (0, 0)) ∧ W.heap[w2.heap.size]? = some (.cells #[.bool (ng (-m)), .int .u64 (dg (ab (-m)) 0), .int .u64 (dg (ab (-m)) 1), .int .u64 (dg (ab (-m)) 2), .int .u64 (dg (ab (-m)) 3)] 25 (0, 0)) ∧ W.heap[w18.heap.size]? = some (.cells #[.bool (ng (m * n)), .int .u64 (dg (ab (m * n)) 0), .int .u64 (dg (ab (m * n)) 1), .int .u64 (dg (ab (m * n)) 2), .int .u64 (dg (ab (m * n)) 3)] 25 (0, 0)) ∧ W.heap[w21.heap.size]? = some (.cells #[.bool (ng (-(m * n))), .int .u64 (dg (ab (-(m * n))) 0), .int .u64 (dg (ab (-(m * n))) 1), .int .u64 (dg (ab (-(m * n))) 2), .int .u64 (dg (ab (-(m * n))) 3)] 25 (0, 0)) ∧ Below w.heap.size w W) ⟨heap_old (h_a) _, heap_old (h_b) _, heap_old (h_x) _, heap_old (h_s) _, heap_new _ _, (by focus (repeat (first | (with_reducible exact Below.refl _ _) | (with_reducible assumption) | ((with_reducible refine Below.setCell ?_ ?_ _); rotate_left; (focus (first | omega | (simp; done) | (simp; omega)))) | ((with_reducible refine Below.alloc ?_ ?_ _); rotate_left; (focus (first | omega | (simp; done) | (simp; omega)))) | (with_reducible refine Below.drew ?_) | (refine below_on ?_ (by assumption)))))⟩ fun W22 ⟨g_a, g_b, g_x, g_s, g_t, gB⟩ => ?_
  clear hB hsz h_a h_b h_x h_s
  have h_a := g_a
  have h_b := g_b
  have h_x := g_x
  have h_s := g_s
  have h_t := g_t
  have hB := gB
  clear gB g_a g_b g_x g_s g_t
  have c_t := cell_at h_t
  go_wp2_with fail
  refine (neg_at (-(m * n)) (m * n) HM.out.2.2.2.2.1 (Int.neg_neg _) _).mono ?_
  rintro e w23 ⟨rfl, hb⟩
  have k_a := heap_below hb h_a
  have k_b := heap_below hb h_b
  have k_x := heap_below hb h_x
  have k_s := heap_below hb h_s
  have k_t := heap_below hb h_t
  have kB : Below w.heap.size w w23 := by
    have hsz := hB.size
    focus (repeat (first | (with_reducible exact Below.refl _ _) | (with_reducible assumption) | ((with_reducible refine Below.setCell ?_ ?_ _); rotate_left; (focus (first | omega | (simp; done) | (simp; omega)))) | ((with_reducible refine Below.alloc ?_ ?_ _); rotate_left; (focus (first | omega | (simp; done) | (simp; omega)))) | (with_reducible refine Below.drew ?_) | (refine below_on ?_ (by assumption))))
  clear hB hb h_a h_b h_x h_s h_t
  have h_a := k_a
  have h_b := k_b
  have h_x := k_x
  have h_s := k_s
  have h_t := k_t
  have hB := kB
  clear kB k_a k_b k_x k_s k_t
  go_wp2_with fail
  refine (sure_any (m * n) 0 _).mono ?_
  rintro e w24 ⟨rfl, hb⟩
  have k_a := heap_below hb h_a
  have k_b := heap_below hb h_b
  have k_x := heap_below hb h_x
  have k_s := heap_below hb h_s
  have k_t := heap_below hb h_t
  have kB : Below w.heap.size w w24 := by
    have hsz := hB.size
    focus (repeat (first | (with_reducible exact Below.refl _ _) | (with_reducible assumption) | ((with_reducible refine Below.setCell ?_ ?_ _); rotate_left; (focus (first | omega | (simp; done) | (simp; omega)))) | ((with_reducible refine Below.alloc ?_ ?_ _); rotate_left; (focus (first | omega | (simp; done) | (simp; omega)))) | (with_reducible refine Below.drew ?_) | (refine below_on ?_ (by assumption))))
  clear hB hb h_a h_b h_x h_s h_t
  have h_a := k_a
  have h_b := k_b
  have h_x := k_x
  have h_s := k_s
  have h_t := k_t
  have hB := kB
  clear kB k_a k_b k_x k_s k_t
  have hsz := hB.size
  go_upto_region 15 with (fail)
  refine abs_wp (fun W => W.heap[w.heap.size]? = some (.cells #[.bool (ng (m)), .int .u64 (dg (ab (m)) 0), .int .u64 (dg (ab (m)) 1), .int .u64 (dg (ab (m)) 2), .int .u64 (dg (ab (m)) 3)] 25 (0, 0)) ∧ W.heap[w.heap.size + 1]? = some (.cells #[.bool (ng (n)), .int .u64 (dg (ab (n)) 0), .int .u64 (dg (ab (n)) 1), .int .u64 (dg (ab (n)) 2), .int .u64 (dg (ab (n)) 3)] 25 (0, 0)) ∧ W.heap[w2.heap.size]? = some (.cells #[.bool (ng (-m)), .int .u64 (dg (ab (-m)) 0), .int .u64 (dg (ab (-m)) 1), .int .u64 (dg (ab (-m)) 2), .int .u64 (dg (ab (-m)) 3)] 25 (0, 0)) ∧ W.heap[w18.heap.size]? = some (.cells #[.bool (ng (m * n)), .int .u64 (dg (ab (m * n)) 0), .int .u64 (dg (ab (m * n)) 1), .int .u64 (dg (ab (m * n)) 2), .int .u64 (dg (ab (m * n)) 3)] 25 (0, 0)) ∧ W.heap[w21.heap.size]? = some (.cells #[.bool (ng (-(m * n))), .int .u64 (dg (ab (-(m * n))) 0), .int .u64 (dg (ab (-(m * n))) 1), .int .u64 (dg (ab (-(m * n))) 2), .int .u64 (dg (ab (-(m * n))) 3)] 25 (0, 0)) ∧ W.heap[w24.heap.size]? = some (.cells #[.bool (ng (m * n)), .int .u64 (dg (ab (m * n)) 0), .int .u64 (dg (ab (m * n)) 1), .int .u64 (dg (ab (m * n)) 2), .int .u64 (dg (ab (m * n)) 3)] 25 (0, 0)) ∧ Below w.heap.size w W) ⟨heap_old (h_a) _, heap_old (h_b) _, heap_old (h_x) _, heap_old (h_s) _, heap_old (h_t) _, heap_new _ _, (by focus (repeat (first | (with_reducible exact Below.refl _ _) | (with_reducible assumption) | ((with_reducible refine Below.setCell ?_ ?_ _); rotate_left; (focus (first | omega | (simp; done) | (simp; omega)))) | ((with_reducible refine Below.alloc ?_ ?_ _); rotate_left; (focus (first | omega | (simp; done) | (simp; omega)))) | (with_reducible refine Below.drew ?_) | (refine below_on ?_ (by assumption)))))⟩ fun W25 ⟨g_a, g_b, g_x, g_s, g_t, g_u, gB⟩ => ?_
  clear hB hsz h_a h_b h_x h_s h_t
  have h_a := g_a
  have h_b := g_b
  have h_x := g_x
  have h_s := g_s
  have h_t := g_t
  have h_u := g_u
  have hB := gB
  clear gB g_a g_b g_x g_s g_t g_u
  have c_u := cell_at h_u
  have c_s := cell_at h_s
  go_upto_region 17 with (fail)
  refine abs_wp (fun W => W.heap[w.heap.size]? = some (.cells #[.bool (ng (m)), .int .u64 (dg (ab (m)) 0), .int .u64 (dg (ab (m)) 1), .int .u64 (dg (ab (m)) 2), .int .u64 (dg (ab (m)) 3)] 25 (0, 0)) ∧ W.heap[w.heap.size + 1]? = some (.cells #[.bool (ng (n)), .int .u64 (dg (ab (n)) 0), .int .u64 (dg (ab (n)) 1), .int .u64 (dg (ab (n)) 2), .int .u64 (dg (ab (n)) 3)] 25 (0, 0)) ∧ W.heap[w2.heap.size]? = some (.cells #[.bool (ng (-m)), .int .u64 (dg (ab (-m)) 0), .int .u64 (dg (ab (-m)) 1), .int .u64 (dg (ab (-m)) 2), .int .u64 (dg (ab (-m)) 3)] 25 (0, 0)) ∧ Below w.heap.size w W) ⟨h_a, h_b, h_x, (by focus (repeat (first | (with_reducible exact Below.refl _ _) | (with_reducible assumption) | ((with_reducible refine Below.setCell ?_ ?_ _); rotate_left; (focus (first | omega | (simp; done) | (simp; omega)))) | ((with_reducible refine Below.alloc ?_ ?_ _); rotate_left; (focus (first | omega | (simp; done) | (simp; omega)))) | (with_reducible refine Below.drew ?_) | (refine below_on ?_ (by assumption)))))⟩ fun W26 ⟨g_a, g_b, g_x, gB⟩ => ?_
  clear hB h_a h_b h_x h_s h_t h_u
  have h_a := g_a
  have h_b := g_b
  have h_x := g_x
  have hB := gB
  clear gB g_a g_b g_x
  have c_a := cell_at h_a
  have c_b := cell_at h_b
  go_wp2_with fail
  refine (gcd_at _ _ ((Nat.gcd (ab m) (ab n) : Nat) : Int) HX.out HY.out rfl _).mono ?_
  rintro e w27 ⟨rfl, hb⟩
  have k_a := heap_below hb h_a
  have k_b := heap_below hb h_b
  have k_x := heap_below hb h_x
  have kB : Below w.heap.size w w27 := by
    have hsz := hB.size
    focus (repeat (first | (with_reducible exact Below.refl _ _) | (with_reducible assumption) | ((with_reducible refine Below.setCell ?_ ?_ _); rotate_left; (focus (first | omega | (simp; done) | (simp; omega)))) | ((with_reducible refine Below.alloc ?_ ?_ _); rotate_left; (focus (first | omega | (simp; done) | (simp; omega)))) | (with_reducible refine Below.drew ?_) | (refine below_on ?_ (by assumption))))
  clear hB hb h_a h_b h_x
  have h_a := k_a
  have h_b := k_b
  have h_x := k_x
  have hB := kB
  clear kB k_a k_b k_x
  have hsz := hB.size
  go_upto_region 18 with (fail)
  refine abs_wp (fun W => W.heap[w.heap.size]? = some (.cells #[.bool (ng (m)), .int .u64 (dg (ab (m)) 0), .int .u64 (dg (ab (m)) 1), .int .u64 (dg (ab (m)) 2), .int .u64 (dg (ab (m)) 3)] 25 (0, 0)) ∧ W.heap[w.heap.size + 1]? = some (.cells #[.bool (ng (n)), .int .u64 (dg (ab (n)) 0), .int .u64 (dg (ab (n)) 1), .int .u64 (dg (ab (n)) 2), .int .u64 (dg (ab (n)) 3)] 25 (0, 0)) ∧ W.heap[w2.heap.size]? = some (.cells #[.bool (ng (-m)), .int .u64 (dg (ab (-m)) 0), .int .u64 (dg (ab (-m)) 1), .int .u64 (dg (ab (-m)) 2), .int .u64 (dg (ab (-m)) 3)] 25 (0, 0)) ∧ W.heap[w27.heap.size]? = some (.cells #[.bool (ng (((Nat.gcd (ab m) (ab n) : Nat) : Int))), .int .u64 (dg (ab (((Nat.gcd (ab m) (ab n) : Nat) : Int))) 0), .int .u64 (dg (ab (((Nat.gcd (ab m) (ab n) : Nat) : Int))) 1), .int .u64 (dg (ab (((Nat.gcd (ab m) (ab n) : Nat) : Int))) 2), .int .u64 (dg (ab (((Nat.gcd (ab m) (ab n) : Nat) : Int))) 3)] 25 (0, 0)) ∧ Below w.heap.size w W) ⟨heap_old (h_a) _, heap_old (h_b) _, heap_old (h_x) _, heap_new _ _, (by focus (repeat (first | (with_reducible exact Below.refl _ _) | (with_reducible assumption) | ((with_reducible refine Below.setCell ?_ ?_ _); rotate_left; (focus (first | omega | (simp; done) | (simp; omega)))) | ((with_reducible refine Below.alloc ?_ ?_ _); rotate_left; (focus (first | omega | (simp; done) | (simp; omega)))) | (with_reducible refine Below.drew ?_) | (refine below_on ?_ (by assumption)))))⟩ fun W28 ⟨g_a, g_b, g_x, g_g, gB⟩ => ?_
  clear hB hsz h_a h_b h_x
  have h_a := g_a
  have h_b := g_b
  have h_x := g_x
  have h_g := g_g
  have hB := gB
  clear gB g_a g_b g_x g_g
  have c_x := cell_at h_x
  have c_b := cell_at h_b
  go_wp2_with fail
  refine (gcd_at _ _ ((Nat.gcd (ab m) (ab n) : Nat) : Int) HX2.out HY.out (by rw [ab_neg']) _).mono ?_
  rintro e w29 ⟨rfl, hb⟩
  have k_a := heap_below hb h_a
  have k_b := heap_below hb h_b
  have k_x := heap_below hb h_x
  have k_g := heap_below hb h_g
  have kB : Below w.heap.size w w29 := by
    have hsz := hB.size
    focus (repeat (first | (with_reducible exact Below.refl _ _) | (with_reducible assumption) | ((with_reducible refine Below.setCell ?_ ?_ _); rotate_left; (focus (first | omega | (simp; done) | (simp; omega)))) | ((with_reducible refine Below.alloc ?_ ?_ _); rotate_left; (focus (first | omega | (simp; done) | (simp; omega)))) | (with_reducible refine Below.drew ?_) | (refine below_on ?_ (by assumption))))
  clear hB hb h_a h_b h_x h_g
  have h_a := k_a
  have h_b := k_b
  have h_x := k_x
  have h_g := k_g
  have hB := kB
  clear kB k_a k_b k_x k_g
  have hsz := hB.size
  go_upto_region 19 with (fail)
  refine abs_wp (fun W => W.heap[w.heap.size]? = some (.cells #[.bool (ng (m)), .int .u64 (dg (ab (m)) 0), .int .u64 (dg (ab (m)) 1), .int .u64 (dg (ab (m)) 2), .int .u64 (dg (ab (m)) 3)] 25 (0, 0)) ∧ W.heap[w.heap.size + 1]? = some (.cells #[.bool (ng (n)), .int .u64 (dg (ab (n)) 0), .int .u64 (dg (ab (n)) 1), .int .u64 (dg (ab (n)) 2), .int .u64 (dg (ab (n)) 3)] 25 (0, 0)) ∧ W.heap[w2.heap.size]? = some (.cells #[.bool (ng (-m)), .int .u64 (dg (ab (-m)) 0), .int .u64 (dg (ab (-m)) 1), .int .u64 (dg (ab (-m)) 2), .int .u64 (dg (ab (-m)) 3)] 25 (0, 0)) ∧ W.heap[w27.heap.size]? = some (.cells #[.bool (ng (((Nat.gcd (ab m) (ab n) : Nat) : Int))), .int .u64 (dg (ab (((Nat.gcd (ab m) (ab n) : Nat) : Int))) 0), .int .u64 (dg (ab (((Nat.gcd (ab m) (ab n) : Nat) : Int))) 1), .int .u64 (dg (ab (((Nat.gcd (ab m) (ab n) : Nat) : Int))) 2), .int .u64 (dg (ab (((Nat.gcd (ab m) (ab n) : Nat) : Int))) 3)] 25 (0, 0)) ∧ W.heap[w29.heap.size]? = some (.cells #[.bool (ng (((Nat.gcd (ab m) (ab n) : Nat) : Int))), .int .u64 (dg (ab (((Nat.gcd (ab m) (ab n) : Nat) : Int))) 0), .int .u64 (dg (ab (((Nat.gcd (ab m) (ab n) : Nat) : Int))) 1), .int .u64 (dg (ab (((Nat.gcd (ab m) (ab n) : Nat) : Int))) 2), .int .u64 (dg (ab (((Nat.gcd (ab m) (ab n) : Nat) : Int))) 3)] 25 (0, 0)) ∧ Below w.heap.size w W) ⟨heap_old (h_a) _, heap_old (h_b) _, heap_old (h_x) _, heap_old (h_g) _, heap_new _ _, (by focus (repeat (first | (with_reducible exact Below.refl _ _) | (with_reducible assumption) | ((with_reducible refine Below.setCell ?_ ?_ _); rotate_left; (focus (first | omega | (simp; done) | (simp; omega)))) | ((with_reducible refine Below.alloc ?_ ?_ _); rotate_left; (focus (first | omega | (simp; done) | (simp; omega)))) | (with_reducible refine Below.drew ?_) | (refine below_on ?_ (by assumption)))))⟩ fun W30 ⟨g_a, g_b, g_x, g_g, g_i, gB⟩ => ?_
  clear hB hsz h_a h_b h_x h_g
  have h_a := g_a
  have h_b := g_b
  have h_x := g_x
  have h_g := g_g
  have h_i := g_i
  have hB := gB
  clear gB g_a g_b g_x g_g g_i
  have c_g := cell_at h_g
  have c_i := cell_at h_i
  go_upto_region 21 with ((go_at_call 14; refine (num_s _ _).mono ?_; rintro e w' ⟨rfl, rfl⟩))
  refine abs_wp (fun W => W.heap[w.heap.size]? = some (.cells #[.bool (ng (m)), .int .u64 (dg (ab (m)) 0), .int .u64 (dg (ab (m)) 1), .int .u64 (dg (ab (m)) 2), .int .u64 (dg (ab (m)) 3)] 25 (0, 0)) ∧ W.heap[w.heap.size + 1]? = some (.cells #[.bool (ng (n)), .int .u64 (dg (ab (n)) 0), .int .u64 (dg (ab (n)) 1), .int .u64 (dg (ab (n)) 2), .int .u64 (dg (ab (n)) 3)] 25 (0, 0)) ∧ W.heap[w2.heap.size]? = some (.cells #[.bool (ng (-m)), .int .u64 (dg (ab (-m)) 0), .int .u64 (dg (ab (-m)) 1), .int .u64 (dg (ab (-m)) 2), .int .u64 (dg (ab (-m)) 3)] 25 (0, 0)) ∧ Below w.heap.size w W) ⟨h_a, h_b, h_x, (by focus (repeat (first | (with_reducible exact Below.refl _ _) | (with_reducible assumption) | ((with_reducible refine Below.setCell ?_ ?_ _); rotate_left; (focus (first | omega | (simp; done) | (simp; omega)))) | ((with_reducible refine Below.alloc ?_ ?_ _); rotate_left; (focus (first | omega | (simp; done) | (simp; omega)))) | (with_reducible refine Below.drew ?_) | (refine below_on ?_ (by assumption)))))⟩ fun W31 ⟨g_a, g_b, g_x, gB⟩ => ?_
  clear hB h_a h_b h_x h_g h_i
  have h_a := g_a
  have h_b := g_b
  have h_x := g_x
  have hB := gB
  clear gB g_a g_b g_x
  have c_a := cell_at h_a
  have c_b := cell_at h_b
  go_wp2_with fail
  refine (quo_zero m n HX.out HY.out HQ.out _).mono ?_
  rintro e w32 ⟨rfl, hb⟩
  have k_a := heap_below hb h_a
  have k_b := heap_below hb h_b
  have k_x := heap_below hb h_x
  have kB : Below w.heap.size w w32 := by
    have hsz := hB.size
    focus (repeat (first | (with_reducible exact Below.refl _ _) | (with_reducible assumption) | ((with_reducible refine Below.setCell ?_ ?_ _); rotate_left; (focus (first | omega | (simp; done) | (simp; omega)))) | ((with_reducible refine Below.alloc ?_ ?_ _); rotate_left; (focus (first | omega | (simp; done) | (simp; omega)))) | (with_reducible refine Below.drew ?_) | (refine below_on ?_ (by assumption))))
  clear hB hb h_a h_b h_x
  have h_a := k_a
  have h_b := k_b
  have h_x := k_x
  have hB := kB
  clear kB k_a k_b k_x
  have hsz := hB.size
  go_upto_region 22 with (fail)
  refine abs_wp (fun W => W.heap[w.heap.size]? = some (.cells #[.bool (ng (m)), .int .u64 (dg (ab (m)) 0), .int .u64 (dg (ab (m)) 1), .int .u64 (dg (ab (m)) 2), .int .u64 (dg (ab (m)) 3)] 25 (0, 0)) ∧ W.heap[w.heap.size + 1]? = some (.cells #[.bool (ng (n)), .int .u64 (dg (ab (n)) 0), .int .u64 (dg (ab (n)) 1), .int .u64 (dg (ab (n)) 2), .int .u64 (dg (ab (n)) 3)] 25 (0, 0)) ∧ W.heap[w2.heap.size]? = some (.cells #[.bool (ng (-m)), .int .u64 (dg (ab (-m)) 0), .int .u64 (dg (ab (-m)) 1), .int .u64 (dg (ab (-m)) 2), .int .u64 (dg (ab (-m)) 3)] 25 (0, 0)) ∧ W.heap[w32.heap.size]? = some (.cells #[.bool (ng (0)), .int .u64 (dg (ab (0)) 0), .int .u64 (dg (ab (0)) 1), .int .u64 (dg (ab (0)) 2), .int .u64 (dg (ab (0)) 3)] 25 (0, 0)) ∧ W.heap[w32.heap.size + 1]? = some (.cells #[.bool (ng (0)), .int .u64 (dg (ab (0)) 0), .int .u64 (dg (ab (0)) 1), .int .u64 (dg (ab (0)) 2), .int .u64 (dg (ab (0)) 3)] 25 (0, 0)) ∧ Below w.heap.size w W) ⟨heap_old (heap_old (h_a) _) _, heap_old (heap_old (h_b) _) _, heap_old (heap_old (h_x) _) _, heap_old (heap_new _ _) _, heap_at (by simp) _, (by focus (repeat (first | (with_reducible exact Below.refl _ _) | (with_reducible assumption) | ((with_reducible refine Below.setCell ?_ ?_ _); rotate_left; (focus (first | omega | (simp; done) | (simp; omega)))) | ((with_reducible refine Below.alloc ?_ ?_ _); rotate_left; (focus (first | omega | (simp; done) | (simp; omega)))) | (with_reducible refine Below.drew ?_) | (refine below_on ?_ (by assumption)))))⟩ fun W33 ⟨g_a, g_b, g_x, g_q, g_r, gB⟩ => ?_
  clear hB hsz h_a h_b h_x
  have h_a := g_a
  have h_b := g_b
  have h_x := g_x
  have h_q := g_q
  have h_r := g_r
  have hB := gB
  clear gB g_a g_b g_x g_q g_r
  have c_x := cell_at h_x
  have c_b := cell_at h_b
  go_wp2_with fail
  refine (quo_zero (-m) n HX2.out HY.out HQ.out _).mono ?_
  rintro e w34 ⟨rfl, hb⟩
  have k_a := heap_below hb h_a
  have k_b := heap_below hb h_b
  have k_x := heap_below hb h_x
  have k_q := heap_below hb h_q
  have k_r := heap_below hb h_r
  have kB : Below w.heap.size w w34 := by
    have hsz := hB.size
    focus (repeat (first | (with_reducible exact Below.refl _ _) | (with_reducible assumption) | ((with_reducible refine Below.setCell ?_ ?_ _); rotate_left; (focus (first | omega | (simp; done) | (simp; omega)))) | ((with_reducible refine Below.alloc ?_ ?_ _); rotate_left; (focus (first | omega | (simp; done) | (simp; omega)))) | (with_reducible refine Below.drew ?_) | (refine below_on ?_ (by assumption))))
  clear hB hb h_a h_b h_x h_q h_r
  have h_a := k_a
  have h_b := k_b
  have h_x := k_x
  have h_q := k_q
  have h_r := k_r
  have hB := kB
  clear kB k_a k_b k_x k_q k_r
  have hsz := hB.size
  go_upto_region 23 with (fail)
  refine abs_wp (fun W => W.heap[w.heap.size]? = some (.cells #[.bool (ng (m)), .int .u64 (dg (ab (m)) 0), .int .u64 (dg (ab (m)) 1), .int .u64 (dg (ab (m)) 2), .int .u64 (dg (ab (m)) 3)] 25 (0, 0)) ∧ W.heap[w.heap.size + 1]? = some (.cells #[.bool (ng (n)), .int .u64 (dg (ab (n)) 0), .int .u64 (dg (ab (n)) 1), .int .u64 (dg (ab (n)) 2), .int .u64 (dg (ab (n)) 3)] 25 (0, 0)) ∧ W.heap[w2.heap.size]? = some (.cells #[.bool (ng (-m)), .int .u64 (dg (ab (-m)) 0), .int .u64 (dg (ab (-m)) 1), .int .u64 (dg (ab (-m)) 2), .int .u64 (dg (ab (-m)) 3)] 25 (0, 0)) ∧ W.heap[w32.heap.size]? = some (.cells #[.bool (ng (0)), .int .u64 (dg (ab (0)) 0), .int .u64 (dg (ab (0)) 1), .int .u64 (dg (ab (0)) 2), .int .u64 (dg (ab (0)) 3)] 25 (0, 0)) ∧ W.heap[w32.heap.size + 1]? = some (.cells #[.bool (ng (0)), .int .u64 (dg (ab (0)) 0), .int .u64 (dg (ab (0)) 1), .int .u64 (dg (ab (0)) 2), .int .u64 (dg (ab (0)) 3)] 25 (0, 0)) ∧ W.heap[w34.heap.size]? = some (.cells #[.bool (ng (0)), .int .u64 (dg (ab (0)) 0), .int .u64 (dg (ab (0)) 1), .int .u64 (dg (ab (0)) 2), .int .u64 (dg (ab (0)) 3)] 25 (0, 0)) ∧ W.heap[w34.heap.size + 1]? = some (.cells #[.bool (ng (0)), .int .u64 (dg (ab (0)) 0), .int .u64 (dg (ab (0)) 1), .int .u64 (dg (ab (0)) 2), .int .u64 (dg (ab (0)) 3)] 25 (0, 0)) ∧ Below w.heap.size w W) ⟨heap_old (heap_old (h_a) _) _, heap_old (heap_old (h_b) _) _, heap_old (heap_old (h_x) _) _, heap_old (heap_old (h_q) _) _, heap_old (heap_old (h_r) _) _, heap_old (heap_new _ _) _, heap_at (by simp) _, (by focus (repeat (first | (with_reducible exact Below.refl _ _) | (with_reducible assumption) | ((with_reducible refine Below.setCell ?_ ?_ _); rotate_left; (focus (first | omega | (simp; done) | (simp; omega)))) | ((with_reducible refine Below.alloc ?_ ?_ _); rotate_left; (focus (first | omega | (simp; done) | (simp; omega)))) | (with_reducible refine Below.drew ?_) | (refine below_on ?_ (by assumption)))))⟩ fun W35 ⟨g_a, g_b, g_x, g_q, g_r, g_p, g_o, gB⟩ => ?_
  clear hB hsz h_a h_b h_x h_q h_r
  have h_a := g_a
  have h_b := g_b
  have h_x := g_x
  have h_q := g_q
  have h_r := g_r
  have h_p := g_p
  have h_o := g_o
  have hB := gB
  clear gB g_a g_b g_x g_q g_r g_p g_o
  go_upto_region 26 with ((go_at_call 14; refine (num_s _ _).mono ?_; rintro e w' ⟨rfl, rfl⟩))
  refine abs_wp (fun W => W.heap[w.heap.size]? = some (.cells #[.bool (ng (m)), .int .u64 (dg (ab (m)) 0), .int .u64 (dg (ab (m)) 1), .int .u64 (dg (ab (m)) 2), .int .u64 (dg (ab (m)) 3)] 25 (0, 0)) ∧ W.heap[w.heap.size + 1]? = some (.cells #[.bool (ng (n)), .int .u64 (dg (ab (n)) 0), .int .u64 (dg (ab (n)) 1), .int .u64 (dg (ab (n)) 2), .int .u64 (dg (ab (n)) 3)] 25 (0, 0)) ∧ W.heap[w2.heap.size]? = some (.cells #[.bool (ng (-m)), .int .u64 (dg (ab (-m)) 0), .int .u64 (dg (ab (-m)) 1), .int .u64 (dg (ab (-m)) 2), .int .u64 (dg (ab (-m)) 3)] 25 (0, 0)) ∧ W.heap[w32.heap.size]? = some (.cells #[.bool (ng (0)), .int .u64 (dg (ab (0)) 0), .int .u64 (dg (ab (0)) 1), .int .u64 (dg (ab (0)) 2), .int .u64 (dg (ab (0)) 3)] 25 (0, 0)) ∧ W.heap[w32.heap.size + 1]? = some (.cells #[.bool (ng (0)), .int .u64 (dg (ab (0)) 0), .int .u64 (dg (ab (0)) 1), .int .u64 (dg (ab (0)) 2), .int .u64 (dg (ab (0)) 3)] 25 (0, 0)) ∧ W.heap[w34.heap.size]? = some (.cells #[.bool (ng (0)), .int .u64 (dg (ab (0)) 0), .int .u64 (dg (ab (0)) 1), .int .u64 (dg (ab (0)) 2), .int .u64 (dg (ab (0)) 3)] 25 (0, 0)) ∧ W.heap[w34.heap.size + 1]? = some (.cells #[.bool (ng (0)), .int .u64 (dg (ab (0)) 0), .int .u64 (dg (ab (0)) 1), .int .u64 (dg (ab (0)) 2), .int .u64 (dg (ab (0)) 3)] 25 (0, 0)) ∧ Below w.heap.size w W) ⟨h_a, h_b, h_x, h_q, h_r, h_p, h_o, (by focus (repeat (first | (with_reducible exact Below.refl _ _) | (with_reducible assumption) | ((with_reducible refine Below.setCell ?_ ?_ _); rotate_left; (focus (first | omega | (simp; done) | (simp; omega)))) | ((with_reducible refine Below.alloc ?_ ?_ _); rotate_left; (focus (first | omega | (simp; done) | (simp; omega)))) | (with_reducible refine Below.drew ?_) | (refine below_on ?_ (by assumption)))))⟩ fun W36 ⟨g_a, g_b, g_x, g_q, g_r, g_p, g_o, gB⟩ => ?_
  clear hB h_a h_b h_x h_q h_r h_p h_o
  have h_a := g_a
  have h_b := g_b
  have h_x := g_x
  have h_q := g_q
  have h_r := g_r
  have h_p := g_p
  have h_o := g_o
  have hB := gB
  clear gB g_a g_b g_x g_q g_r g_p g_o
  go_wp2_with fail
  refine (works_any _).mono ?_
  rintro e wz ⟨rfl, hb⟩
  have hF := below_on hB hb
  go_wp2
  go_ret
  exact ⟨rfl, hF⟩
set_option maxRecDepth 100000 in
set_option maxHeartbeats 4000000 in
theorem mirrors_101 (m n : Int) (HX : Hd (ab m < 2 ^ 256)) (HY : Hd (ab n < 2 ^ 256)) (HX2 : Hd (ab (-m) < 2 ^ 256)) (HY2 : Hd (ab (-n) < 2 ^ 256)) (HA : Hd (addV [m, n] = m + n ∧ addE [m, n] = 0 ∧ addV [-m, -n] = -(m + n) ∧ addE [-m, -n] = 0 ∧ ab (-(m + n)) < 2 ^ 256 ∧ True)) (HM : Hd (mulV [m, n] = 0 ∧ mulE [m, n] = 110)) (HQ : Hd (n ≠ 0)) (HD : Hd (ab (-(m.tdiv n)) < 2 ^ 256)) (HE : Hd (ab (-(m.tmod n)) < 2 ^ 256)) (w : World) :
    Calls Try.prog 6 #[.agg #[.bool (ng (m)), .int .u64 (dg (ab (m)) 0), .int .u64 (dg (ab (m)) 1), .int .u64 (dg (ab (m)) 2), .int .u64 (dg (ab (m)) 3)], .agg #[.bool (ng (n)), .int .u64 (dg (ab (n)) 0), .int .u64 (dg (ab (n)) 1), .int .u64 (dg (ab (n)) 2), .int .u64 (dg (ab (n)) 3)]] w fun e w' => e = .returned (.bool true) ∧ Below w.heap.size w w' := by
  go_enter Try.func6, Try.ntmps6
  have hB := Below.refl w.heap.size w
  have hsz := hB.size
  go_upto_region 1 with (fail)
  refine abs_wp (fun W => W.heap[w.heap.size]? = some (.cells #[.bool (ng (m)), .int .u64 (dg (ab (m)) 0), .int .u64 (dg (ab (m)) 1), .int .u64 (dg (ab (m)) 2), .int .u64 (dg (ab (m)) 3)] 25 (0, 0)) ∧ W.heap[w.heap.size + 1]? = some (.cells #[.bool (ng (n)), .int .u64 (dg (ab (n)) 0), .int .u64 (dg (ab (n)) 1), .int .u64 (dg (ab (n)) 2), .int .u64 (dg (ab (n)) 3)] 25 (0, 0)) ∧ Below w.heap.size w W) ⟨heap_old (heap_new _ _) _, heap_at (by simp) _, (by focus (repeat (first | (with_reducible exact Below.refl _ _) | (with_reducible assumption) | ((with_reducible refine Below.setCell ?_ ?_ _); rotate_left; (focus (first | omega | (simp; done) | (simp; omega)))) | ((with_reducible refine Below.alloc ?_ ?_ _); rotate_left; (focus (first | omega | (simp; done) | (simp; omega)))) | (with_reducible refine Below.drew ?_) | (refine below_on ?_ (by assumption)))))⟩ fun W1 ⟨g_a, g_b, gB⟩ => ?_
  clear hB hsz 
  have h_a := g_a
  have h_b := g_b
  have hB := gB
  clear gB g_a g_b
  have c_a := cell_at h_a
  go_wp2_with fail
  refine (neg_ok _ HX.out _).mono ?_
  rintro e w2 ⟨rfl, hb⟩
  have k_a := heap_below hb h_a
  have k_b := heap_below hb h_b
  have kB : Below w.heap.size w w2 := by
    have hsz := hB.size
    focus (repeat (first | (with_reducible exact Below.refl _ _) | (with_reducible assumption) | ((with_reducible refine Below.setCell ?_ ?_ _); rotate_left; (focus (first | omega | (simp; done) | (simp; omega)))) | ((with_reducible refine Below.alloc ?_ ?_ _); rotate_left; (focus (first | omega | (simp; done) | (simp; omega)))) | (with_reducible refine Below.drew ?_) | (refine below_on ?_ (by assumption))))
  clear hB hb h_a h_b
  have h_a := k_a
  have h_b := k_b
  have hB := kB
  clear kB k_a k_b
  have hsz := hB.size
  go_upto_region 2 with (fail)
  refine abs_wp (fun W => W.heap[w.heap.size]? = some (.cells #[.bool (ng (m)), .int .u64 (dg (ab (m)) 0), .int .u64 (dg (ab (m)) 1), .int .u64 (dg (ab (m)) 2), .int .u64 (dg (ab (m)) 3)] 25 (0, 0)) ∧ W.heap[w.heap.size + 1]? = some (.cells #[.bool (ng (n)), .int .u64 (dg (ab (n)) 0), .int .u64 (dg (ab (n)) 1), .int .u64 (dg (ab (n)) 2), .int .u64 (dg (ab (n)) 3)] 25 (0, 0)) ∧ W.heap[w2.heap.size]? = some (.cells #[.bool (ng (-m)), .int .u64 (dg (ab (-m)) 0), .int .u64 (dg (ab (-m)) 1), .int .u64 (dg (ab (-m)) 2), .int .u64 (dg (ab (-m)) 3)] 25 (0, 0)) ∧ Below w.heap.size w W) ⟨heap_old (h_a) _, heap_old (h_b) _, heap_new _ _, (by focus (repeat (first | (with_reducible exact Below.refl _ _) | (with_reducible assumption) | ((with_reducible refine Below.setCell ?_ ?_ _); rotate_left; (focus (first | omega | (simp; done) | (simp; omega)))) | ((with_reducible refine Below.alloc ?_ ?_ _); rotate_left; (focus (first | omega | (simp; done) | (simp; omega)))) | (with_reducible refine Below.drew ?_) | (refine below_on ?_ (by assumption)))))⟩ fun W3 ⟨g_a, g_b, g_x, gB⟩ => ?_
  clear hB hsz h_a h_b
  have h_a := g_a
  have h_b := g_b
  have h_x := g_x
  have hB := gB
  clear gB g_a g_b g_x
  have c_b := cell_at h_b
  go_wp2_with fail
  refine (neg_ok _ HY.out _).mono ?_
  rintro e w4 ⟨rfl, hb⟩
  have k_a := heap_below hb h_a
  have k_b := heap_below hb h_b
  have k_x := heap_below hb h_x
  have kB : Below w.heap.size w w4 := by
    have hsz := hB.size
    focus (repeat (first | (with_reducible exact Below.refl _ _) | (with_reducible assumption) | ((with_reducible refine Below.setCell ?_ ?_ _); rotate_left; (focus (first | omega | (simp; done) | (simp; omega)))) | ((with_reducible refine Below.alloc ?_ ?_ _); rotate_left; (focus (first | omega | (simp; done) | (simp; omega)))) | (with_reducible refine Below.drew ?_) | (refine below_on ?_ (by assumption))))
  clear hB hb h_a h_b h_x
  have h_a := k_a
  have h_b := k_b
  have h_x := k_x
  have hB := kB
  clear kB k_a k_b k_x
  have hsz := hB.size
  go_upto_region 3 with (fail)
  refine abs_wp (fun W => W.heap[w.heap.size]? = some (.cells #[.bool (ng (m)), .int .u64 (dg (ab (m)) 0), .int .u64 (dg (ab (m)) 1), .int .u64 (dg (ab (m)) 2), .int .u64 (dg (ab (m)) 3)] 25 (0, 0)) ∧ W.heap[w.heap.size + 1]? = some (.cells #[.bool (ng (n)), .int .u64 (dg (ab (n)) 0), .int .u64 (dg (ab (n)) 1), .int .u64 (dg (ab (n)) 2), .int .u64 (dg (ab (n)) 3)] 25 (0, 0)) ∧ W.heap[w2.heap.size]? = some (.cells #[.bool (ng (-m)), .int .u64 (dg (ab (-m)) 0), .int .u64 (dg (ab (-m)) 1), .int .u64 (dg (ab (-m)) 2), .int .u64 (dg (ab (-m)) 3)] 25 (0, 0)) ∧ W.heap[w4.heap.size]? = some (.cells #[.bool (ng (-n)), .int .u64 (dg (ab (-n)) 0), .int .u64 (dg (ab (-n)) 1), .int .u64 (dg (ab (-n)) 2), .int .u64 (dg (ab (-n)) 3)] 25 (0, 0)) ∧ Below w.heap.size w W) ⟨heap_old (h_a) _, heap_old (h_b) _, heap_old (h_x) _, heap_new _ _, (by focus (repeat (first | (with_reducible exact Below.refl _ _) | (with_reducible assumption) | ((with_reducible refine Below.setCell ?_ ?_ _); rotate_left; (focus (first | omega | (simp; done) | (simp; omega)))) | ((with_reducible refine Below.alloc ?_ ?_ _); rotate_left; (focus (first | omega | (simp; done) | (simp; omega)))) | (with_reducible refine Below.drew ?_) | (refine below_on ?_ (by assumption)))))⟩ fun W5 ⟨g_a, g_b, g_x, g_y, gB⟩ => ?_
  clear hB hsz h_a h_b h_x
  have h_a := g_a
  have h_b := g_b
  have h_x := g_x
  have h_y := g_y
  have hB := gB
  clear gB g_a g_b g_x g_y
  go_upto_region 5 with ((go_at_call 14; refine (num_s _ _).mono ?_; rintro e w' ⟨rfl, rfl⟩))
  refine abs_wp (fun W => W.heap[w.heap.size]? = some (.cells #[.bool (ng (m)), .int .u64 (dg (ab (m)) 0), .int .u64 (dg (ab (m)) 1), .int .u64 (dg (ab (m)) 2), .int .u64 (dg (ab (m)) 3)] 25 (0, 0)) ∧ W.heap[w.heap.size + 1]? = some (.cells #[.bool (ng (n)), .int .u64 (dg (ab (n)) 0), .int .u64 (dg (ab (n)) 1), .int .u64 (dg (ab (n)) 2), .int .u64 (dg (ab (n)) 3)] 25 (0, 0)) ∧ W.heap[w2.heap.size]? = some (.cells #[.bool (ng (-m)), .int .u64 (dg (ab (-m)) 0), .int .u64 (dg (ab (-m)) 1), .int .u64 (dg (ab (-m)) 2), .int .u64 (dg (ab (-m)) 3)] 25 (0, 0)) ∧ W.heap[w4.heap.size]? = some (.cells #[.bool (ng (-n)), .int .u64 (dg (ab (-n)) 0), .int .u64 (dg (ab (-n)) 1), .int .u64 (dg (ab (-n)) 2), .int .u64 (dg (ab (-n)) 3)] 25 (0, 0)) ∧ Below w.heap.size w W) ⟨h_a, h_b, h_x, h_y, (by focus (repeat (first | (with_reducible exact Below.refl _ _) | (with_reducible assumption) | ((with_reducible refine Below.setCell ?_ ?_ _); rotate_left; (focus (first | omega | (simp; done) | (simp; omega)))) | ((with_reducible refine Below.alloc ?_ ?_ _); rotate_left; (focus (first | omega | (simp; done) | (simp; omega)))) | (with_reducible refine Below.drew ?_) | (refine below_on ?_ (by assumption)))))⟩ fun W6 ⟨g_a, g_b, g_x, g_y, gB⟩ => ?_
  clear hB h_a h_b h_x h_y
  have h_a := g_a
  have h_b := g_b
  have h_x := g_x
  have h_y := g_y
  have hB := gB
  clear gB g_a g_b g_x g_y
  have c_a := cell_at h_a
  have c_b := cell_at h_b
  go_wp2_with fail
  refine (add_at _ _ [m, n] (m + n) 0 _ (ints_two_z (b := W6.heap.size) HX.out HY.out (by focus (repeat (first | (with_reducible exact heap_at (by first | rfl | (simp; done) | (simp; omega)) _) | (with_reducible refine heap_old ?_ _))))) HA.out.1 HA.out.2.1).mono ?_
  rintro e w7 ⟨rfl, hb⟩
  have k_a := heap_below hb (heap_old h_a _)
  have k_b := heap_below hb (heap_old h_b _)
  have k_x := heap_below hb (heap_old h_x _)
  have k_y := heap_below hb (heap_old h_y _)
  have kB : Below w.heap.size w w7 := by
    have hsz := hB.size
    focus (repeat (first | (with_reducible exact Below.refl _ _) | (with_reducible assumption) | ((with_reducible refine Below.setCell ?_ ?_ _); rotate_left; (focus (first | omega | (simp; done) | (simp; omega)))) | ((with_reducible refine Below.alloc ?_ ?_ _); rotate_left; (focus (first | omega | (simp; done) | (simp; omega)))) | (with_reducible refine Below.drew ?_) | (refine below_on ?_ (by assumption))))
  clear hB hb h_a h_b h_x h_y
  have h_a := k_a
  have h_b := k_b
  have h_x := k_x
  have h_y := k_y
  have hB := kB
  clear kB k_a k_b k_x k_y
  go_wp2_with fail
  refine (sure_any (m + n) 0 _).mono ?_
  rintro e w8 ⟨rfl, hb⟩
  have k_a := heap_below hb h_a
  have k_b := heap_below hb h_b
  have k_x := heap_below hb h_x
  have k_y := heap_below hb h_y
  have kB : Below w.heap.size w w8 := by
    have hsz := hB.size
    focus (repeat (first | (with_reducible exact Below.refl _ _) | (with_reducible assumption) | ((with_reducible refine Below.setCell ?_ ?_ _); rotate_left; (focus (first | omega | (simp; done) | (simp; omega)))) | ((with_reducible refine Below.alloc ?_ ?_ _); rotate_left; (focus (first | omega | (simp; done) | (simp; omega)))) | (with_reducible refine Below.drew ?_) | (refine below_on ?_ (by assumption))))
  clear hB hb h_a h_b h_x h_y
  have h_a := k_a
  have h_b := k_b
  have h_x := k_x
  have h_y := k_y
  have hB := kB
  clear kB k_a k_b k_x k_y
  have hsz := hB.size
  go_upto_region 7 with (fail)
  refine abs_wp (fun W => W.heap[w.heap.size]? = some (.cells #[.bool (ng (m)), .int .u64 (dg (ab (m)) 0), .int .u64 (dg (ab (m)) 1), .int .u64 (dg (ab (m)) 2), .int .u64 (dg (ab (m)) 3)] 25 (0, 0)) ∧ W.heap[w.heap.size + 1]? = some (.cells #[.bool (ng (n)), .int .u64 (dg (ab (n)) 0), .int .u64 (dg (ab (n)) 1), .int .u64 (dg (ab (n)) 2), .int .u64 (dg (ab (n)) 3)] 25 (0, 0)) ∧ W.heap[w2.heap.size]? = some (.cells #[.bool (ng (-m)), .int .u64 (dg (ab (-m)) 0), .int .u64 (dg (ab (-m)) 1), .int .u64 (dg (ab (-m)) 2), .int .u64 (dg (ab (-m)) 3)] 25 (0, 0)) ∧ W.heap[w4.heap.size]? = some (.cells #[.bool (ng (-n)), .int .u64 (dg (ab (-n)) 0), .int .u64 (dg (ab (-n)) 1), .int .u64 (dg (ab (-n)) 2), .int .u64 (dg (ab (-n)) 3)] 25 (0, 0)) ∧ W.heap[w8.heap.size]? = some (.cells #[.bool (ng (m + n)), .int .u64 (dg (ab (m + n)) 0), .int .u64 (dg (ab (m + n)) 1), .int .u64 (dg (ab (m + n)) 2), .int .u64 (dg (ab (m + n)) 3)] 25 (0, 0)) ∧ Below w.heap.size w W) ⟨heap_old (h_a) _, heap_old (h_b) _, heap_old (h_x) _, heap_old (h_y) _, heap_new _ _, (by focus (repeat (first | (with_reducible exact Below.refl _ _) | (with_reducible assumption) | ((with_reducible refine Below.setCell ?_ ?_ _); rotate_left; (focus (first | omega | (simp; done) | (simp; omega)))) | ((with_reducible refine Below.alloc ?_ ?_ _); rotate_left; (focus (first | omega | (simp; done) | (simp; omega)))) | (with_reducible refine Below.drew ?_) | (refine below_on ?_ (by assumption)))))⟩ fun W9 ⟨g_a, g_b, g_x, g_y, g_s, gB⟩ => ?_
  clear hB hsz h_a h_b h_x h_y
  have h_a := g_a
  have h_b := g_b
  have h_x := g_x
  have h_y := g_y
  have h_s := g_s
  have hB := gB
  clear gB g_a g_b g_x g_y g_s
  have c_x := cell_at h_x
  have c_y := cell_at h_y
  go_wp2_with fail
  refine (add_at _ _ [-m, -n] (-(m + n)) 0 _ (ints_two_z (b := W9.heap.size) HX2.out HY2.out (by focus (repeat (first | (with_reducible exact heap_at (by first | rfl | (simp; done) | (simp; omega)) _) | (with_reducible refine heap_old ?_ _))))) HA.out.2.2.1 HA.out.2.2.2.1).mono ?_
  rintro e w10 ⟨rfl, hb⟩
  have k_a := heap_below hb (heap_old h_a _)
  have k_b := heap_below hb (heap_old h_b _)
  have k_x := heap_below hb (heap_old h_x _)
  have k_y := heap_below hb (heap_old h_y _)
  have k_s := heap_below hb (heap_old h_s _)
  have kB : Below w.heap.size w w10 := by
    have hsz := hB.size
    focus (repeat (first | (with_reducible exact Below.refl _ _) | (with_reducible assumption) | ((with_reducible refine Below.setCell ?_ ?_ _); rotate_left; (focus (first | omega | (simp; done) | (simp; omega)))) | ((with_reducible refine Below.alloc ?_ ?_ _); rotate_left; (focus (first | omega | (simp; done) | (simp; omega)))) | (with_reducible refine Below.drew ?_) | (refine below_on ?_ (by assumption))))
  clear hB hb h_a h_b h_x h_y h_s
  have h_a := k_a
  have h_b := k_b
  have h_x := k_x
  have h_y := k_y
  have h_s := k_s
  have hB := kB
  clear kB k_a k_b k_x k_y k_s
  go_wp2_with fail
  refine (sure_any (-(m + n)) 0 _).mono ?_
  rintro e w11 ⟨rfl, hb⟩
  have k_a := heap_below hb h_a
  have k_b := heap_below hb h_b
  have k_x := heap_below hb h_x
  have k_y := heap_below hb h_y
  have k_s := heap_below hb h_s
  have kB : Below w.heap.size w w11 := by
    have hsz := hB.size
    focus (repeat (first | (with_reducible exact Below.refl _ _) | (with_reducible assumption) | ((with_reducible refine Below.setCell ?_ ?_ _); rotate_left; (focus (first | omega | (simp; done) | (simp; omega)))) | ((with_reducible refine Below.alloc ?_ ?_ _); rotate_left; (focus (first | omega | (simp; done) | (simp; omega)))) | (with_reducible refine Below.drew ?_) | (refine below_on ?_ (by assumption))))
  clear hB hb h_a h_b h_x h_y h_s
  have h_a := k_a
  have h_b := k_b
  have h_x := k_x
  have h_y := k_y
  have h_s := k_s
  have hB := kB
  clear kB k_a k_b k_x k_y k_s
  have hsz := hB.size
  go_upto_region 8 with (fail)
  refine abs_wp (fun W => W.heap[w.heap.size]? = some (.cells #[.bool (ng (m)), .int .u64 (dg (ab (m)) 0), .int .u64 (dg (ab (m)) 1), .int .u64 (dg (ab (m)) 2), .int .u64 (dg (ab (m)) 3)] 25 (0, 0)) ∧ W.heap[w.heap.size + 1]? = some (.cells #[.bool (ng (n)), .int .u64 (dg (ab (n)) 0), .int .u64 (dg (ab (n)) 1), .int .u64 (dg (ab (n)) 2), .int .u64 (dg (ab (n)) 3)] 25 (0, 0)) ∧ W.heap[w2.heap.size]? = some (.cells #[.bool (ng (-m)), .int .u64 (dg (ab (-m)) 0), .int .u64 (dg (ab (-m)) 1), .int .u64 (dg (ab (-m)) 2), .int .u64 (dg (ab (-m)) 3)] 25 (0, 0)) ∧ W.heap[w4.heap.size]? = some (.cells #[.bool (ng (-n)), .int .u64 (dg (ab (-n)) 0), .int .u64 (dg (ab (-n)) 1), .int .u64 (dg (ab (-n)) 2), .int .u64 (dg (ab (-n)) 3)] 25 (0, 0)) ∧ W.heap[w8.heap.size]? = some (.cells #[.bool (ng (m + n)), .int .u64 (dg (ab (m + n)) 0), .int .u64 (dg (ab (m + n)) 1), .int .u64 (dg (ab (m + n)) 2), .int .u64 (dg (ab (m + n)) 3)] 25 (0, 0)) ∧ W.heap[w11.heap.size]? = some (.cells #[.bool (ng (-(m + n))), .int .u64 (dg (ab (-(m + n))) 0), .int .u64 (dg (ab (-(m + n))) 1), .int .u64 (dg (ab (-(m + n))) 2), .int .u64 (dg (ab (-(m + n))) 3)] 25 (0, 0)) ∧ Below w.heap.size w W) ⟨heap_old (h_a) _, heap_old (h_b) _, heap_old (h_x) _, heap_old (h_y) _, heap_old (h_s) _, heap_new _ _, (by focus (repeat (first | (with_reducible exact Below.refl _ _) | (with_reducible assumption) | ((with_reducible refine Below.setCell ?_ ?_ _); rotate_left; (focus (first | omega | (simp; done) | (simp; omega)))) | ((with_reducible refine Below.alloc ?_ ?_ _); rotate_left; (focus (first | omega | (simp; done) | (simp; omega)))) | (with_reducible refine Below.drew ?_) | (refine below_on ?_ (by assumption)))))⟩ fun W12 ⟨g_a, g_b, g_x, g_y, g_s, g_t, gB⟩ => ?_
  clear hB hsz h_a h_b h_x h_y h_s
  have h_a := g_a
  have h_b := g_b
  have h_x := g_x
  have h_y := g_y
  have h_s := g_s
  have h_t := g_t
  have hB := gB
  clear gB g_a g_b g_x g_y g_s g_t
  have c_t := cell_at h_t
  go_wp2_with fail
  refine (neg_at (-(m + n)) (m + n) HA.out.2.2.2.2.1 (Int.neg_neg _) _).mono ?_
  rintro e w13 ⟨rfl, hb⟩
  have k_a := heap_below hb h_a
  have k_b := heap_below hb h_b
  have k_x := heap_below hb h_x
  have k_y := heap_below hb h_y
  have k_s := heap_below hb h_s
  have k_t := heap_below hb h_t
  have kB : Below w.heap.size w w13 := by
    have hsz := hB.size
    focus (repeat (first | (with_reducible exact Below.refl _ _) | (with_reducible assumption) | ((with_reducible refine Below.setCell ?_ ?_ _); rotate_left; (focus (first | omega | (simp; done) | (simp; omega)))) | ((with_reducible refine Below.alloc ?_ ?_ _); rotate_left; (focus (first | omega | (simp; done) | (simp; omega)))) | (with_reducible refine Below.drew ?_) | (refine below_on ?_ (by assumption))))
  clear hB hb h_a h_b h_x h_y h_s h_t
  have h_a := k_a
  have h_b := k_b
  have h_x := k_x
  have h_y := k_y
  have h_s := k_s
  have h_t := k_t
  have hB := kB
  clear kB k_a k_b k_x k_y k_s k_t
  go_wp2_with fail
  refine (sure_any (m + n) 0 _).mono ?_
  rintro e w14 ⟨rfl, hb⟩
  have k_a := heap_below hb h_a
  have k_b := heap_below hb h_b
  have k_x := heap_below hb h_x
  have k_y := heap_below hb h_y
  have k_s := heap_below hb h_s
  have k_t := heap_below hb h_t
  have kB : Below w.heap.size w w14 := by
    have hsz := hB.size
    focus (repeat (first | (with_reducible exact Below.refl _ _) | (with_reducible assumption) | ((with_reducible refine Below.setCell ?_ ?_ _); rotate_left; (focus (first | omega | (simp; done) | (simp; omega)))) | ((with_reducible refine Below.alloc ?_ ?_ _); rotate_left; (focus (first | omega | (simp; done) | (simp; omega)))) | (with_reducible refine Below.drew ?_) | (refine below_on ?_ (by assumption))))
  clear hB hb h_a h_b h_x h_y h_s h_t
  have h_a := k_a
  have h_b := k_b
  have h_x := k_x
  have h_y := k_y
  have h_s := k_s
  have h_t := k_t
  have hB := kB
  clear kB k_a k_b k_x k_y k_s k_t
  have hsz := hB.size
  go_upto_region 9 with (fail)
  refine abs_wp (fun W => W.heap[w.heap.size]? = some (.cells #[.bool (ng (m)), .int .u64 (dg (ab (m)) 0), .int .u64 (dg (ab (m)) 1), .int .u64 (dg (ab (m)) 2), .int .u64 (dg (ab (m)) 3)] 25 (0, 0)) ∧ W.heap[w.heap.size + 1]? = some (.cells #[.bool (ng (n)), .int .u64 (dg (ab (n)) 0), .int .u64 (dg (ab (n)) 1), .int .u64 (dg (ab (n)) 2), .int .u64 (dg (ab (n)) 3)] 25 (0, 0)) ∧ W.heap[w2.heap.size]? = some (.cells #[.bool (ng (-m)), .int .u64 (dg (ab (-m)) 0), .int .u64 (dg (ab (-m)) 1), .int .u64 (dg (ab (-m)) 2), .int .u64 (dg (ab (-m)) 3)] 25 (0, 0)) ∧ W.heap[w4.heap.size]? = some (.cells #[.bool (ng (-n)), .int .u64 (dg (ab (-n)) 0), .int .u64 (dg (ab (-n)) 1), .int .u64 (dg (ab (-n)) 2), .int .u64 (dg (ab (-n)) 3)] 25 (0, 0)) ∧ W.heap[w8.heap.size]? = some (.cells #[.bool (ng (m + n)), .int .u64 (dg (ab (m + n)) 0), .int .u64 (dg (ab (m + n)) 1), .int .u64 (dg (ab (m + n)) 2), .int .u64 (dg (ab (m + n)) 3)] 25 (0, 0)) ∧ W.heap[w11.heap.size]? = some (.cells #[.bool (ng (-(m + n))), .int .u64 (dg (ab (-(m + n))) 0), .int .u64 (dg (ab (-(m + n))) 1), .int .u64 (dg (ab (-(m + n))) 2), .int .u64 (dg (ab (-(m + n))) 3)] 25 (0, 0)) ∧ W.heap[w14.heap.size]? = some (.cells #[.bool (ng (m + n)), .int .u64 (dg (ab (m + n)) 0), .int .u64 (dg (ab (m + n)) 1), .int .u64 (dg (ab (m + n)) 2), .int .u64 (dg (ab (m + n)) 3)] 25 (0, 0)) ∧ Below w.heap.size w W) ⟨heap_old (h_a) _, heap_old (h_b) _, heap_old (h_x) _, heap_old (h_y) _, heap_old (h_s) _, heap_old (h_t) _, heap_new _ _, (by focus (repeat (first | (with_reducible exact Below.refl _ _) | (with_reducible assumption) | ((with_reducible refine Below.setCell ?_ ?_ _); rotate_left; (focus (first | omega | (simp; done) | (simp; omega)))) | ((with_reducible refine Below.alloc ?_ ?_ _); rotate_left; (focus (first | omega | (simp; done) | (simp; omega)))) | (with_reducible refine Below.drew ?_) | (refine below_on ?_ (by assumption)))))⟩ fun W15 ⟨g_a, g_b, g_x, g_y, g_s, g_t, g_u, gB⟩ => ?_
  clear hB hsz h_a h_b h_x h_y h_s h_t
  have h_a := g_a
  have h_b := g_b
  have h_x := g_x
  have h_y := g_y
  have h_s := g_s
  have h_t := g_t
  have h_u := g_u
  have hB := gB
  clear gB g_a g_b g_x g_y g_s g_t g_u
  have c_u := cell_at h_u
  have c_s := cell_at h_s
  go_upto_region 11 with (fail)
  refine abs_wp (fun W => W.heap[w.heap.size]? = some (.cells #[.bool (ng (m)), .int .u64 (dg (ab (m)) 0), .int .u64 (dg (ab (m)) 1), .int .u64 (dg (ab (m)) 2), .int .u64 (dg (ab (m)) 3)] 25 (0, 0)) ∧ W.heap[w.heap.size + 1]? = some (.cells #[.bool (ng (n)), .int .u64 (dg (ab (n)) 0), .int .u64 (dg (ab (n)) 1), .int .u64 (dg (ab (n)) 2), .int .u64 (dg (ab (n)) 3)] 25 (0, 0)) ∧ W.heap[w2.heap.size]? = some (.cells #[.bool (ng (-m)), .int .u64 (dg (ab (-m)) 0), .int .u64 (dg (ab (-m)) 1), .int .u64 (dg (ab (-m)) 2), .int .u64 (dg (ab (-m)) 3)] 25 (0, 0)) ∧ Below w.heap.size w W) ⟨h_a, h_b, h_x, (by focus (repeat (first | (with_reducible exact Below.refl _ _) | (with_reducible assumption) | ((with_reducible refine Below.setCell ?_ ?_ _); rotate_left; (focus (first | omega | (simp; done) | (simp; omega)))) | ((with_reducible refine Below.alloc ?_ ?_ _); rotate_left; (focus (first | omega | (simp; done) | (simp; omega)))) | (with_reducible refine Below.drew ?_) | (refine below_on ?_ (by assumption)))))⟩ fun W16 ⟨g_a, g_b, g_x, gB⟩ => ?_
  clear hB h_a h_b h_x h_y h_s h_t h_u
  have h_a := g_a
  have h_b := g_b
  have h_x := g_x
  have hB := gB
  clear gB g_a g_b g_x
  have c_a := cell_at h_a
  have c_b := cell_at h_b
  go_wp2_with fail
  refine (mul_at _ _ [m, n] (0) 110 _ (ints_two_z (b := W16.heap.size) HX.out HY.out (by focus (repeat (first | (with_reducible exact heap_at (by first | rfl | (simp; done) | (simp; omega)) _) | (with_reducible refine heap_old ?_ _))))) HM.out.1 HM.out.2).mono ?_
  rintro e w17 ⟨rfl, hb⟩
  have k_a := heap_below hb (heap_old h_a _)
  have k_b := heap_below hb (heap_old h_b _)
  have k_x := heap_below hb (heap_old h_x _)
  have kB : Below w.heap.size w w17 := by
    have hsz := hB.size
    focus (repeat (first | (with_reducible exact Below.refl _ _) | (with_reducible assumption) | ((with_reducible refine Below.setCell ?_ ?_ _); rotate_left; (focus (first | omega | (simp; done) | (simp; omega)))) | ((with_reducible refine Below.alloc ?_ ?_ _); rotate_left; (focus (first | omega | (simp; done) | (simp; omega)))) | (with_reducible refine Below.drew ?_) | (refine below_on ?_ (by assumption))))
  clear hB hb h_a h_b h_x
  have h_a := k_a
  have h_b := k_b
  have h_x := k_x
  have hB := kB
  clear kB k_a k_b k_x
  go_wp2_with fail
  refine (sure_any (0) 110 _).mono ?_
  rintro e w18 ⟨rfl, hb⟩
  have k_a := heap_below hb h_a
  have k_b := heap_below hb h_b
  have k_x := heap_below hb h_x
  have kB : Below w.heap.size w w18 := by
    have hsz := hB.size
    focus (repeat (first | (with_reducible exact Below.refl _ _) | (with_reducible assumption) | ((with_reducible refine Below.setCell ?_ ?_ _); rotate_left; (focus (first | omega | (simp; done) | (simp; omega)))) | ((with_reducible refine Below.alloc ?_ ?_ _); rotate_left; (focus (first | omega | (simp; done) | (simp; omega)))) | (with_reducible refine Below.drew ?_) | (refine below_on ?_ (by assumption))))
  clear hB hb h_a h_b h_x
  have h_a := k_a
  have h_b := k_b
  have h_x := k_x
  have hB := kB
  clear kB k_a k_b k_x
  have hsz := hB.size
  go_upto_region 17 with (fail)
  refine abs_wp (fun W => W.heap[w.heap.size]? = some (.cells #[.bool (ng (m)), .int .u64 (dg (ab (m)) 0), .int .u64 (dg (ab (m)) 1), .int .u64 (dg (ab (m)) 2), .int .u64 (dg (ab (m)) 3)] 25 (0, 0)) ∧ W.heap[w.heap.size + 1]? = some (.cells #[.bool (ng (n)), .int .u64 (dg (ab (n)) 0), .int .u64 (dg (ab (n)) 1), .int .u64 (dg (ab (n)) 2), .int .u64 (dg (ab (n)) 3)] 25 (0, 0)) ∧ W.heap[w2.heap.size]? = some (.cells #[.bool (ng (-m)), .int .u64 (dg (ab (-m)) 0), .int .u64 (dg (ab (-m)) 1), .int .u64 (dg (ab (-m)) 2), .int .u64 (dg (ab (-m)) 3)] 25 (0, 0)) ∧ W.heap[w18.heap.size]? = some (.cells #[.bool (ng (0)), .int .u64 (dg (ab (0)) 0), .int .u64 (dg (ab (0)) 1), .int .u64 (dg (ab (0)) 2), .int .u64 (dg (ab (0)) 3)] 25 (0, 0)) ∧ Below w.heap.size w W) ⟨heap_old (h_a) _, heap_old (h_b) _, heap_old (h_x) _, heap_new _ _, (by focus (repeat (first | (with_reducible exact Below.refl _ _) | (with_reducible assumption) | ((with_reducible refine Below.setCell ?_ ?_ _); rotate_left; (focus (first | omega | (simp; done) | (simp; omega)))) | ((with_reducible refine Below.alloc ?_ ?_ _); rotate_left; (focus (first | omega | (simp; done) | (simp; omega)))) | (with_reducible refine Below.drew ?_) | (refine below_on ?_ (by assumption)))))⟩ fun W19 ⟨g_a, g_b, g_x, g_s, gB⟩ => ?_
  clear hB hsz h_a h_b h_x
  have h_a := g_a
  have h_b := g_b
  have h_x := g_x
  have h_s := g_s
  have hB := gB
  clear gB g_a g_b g_x g_s
  have c_a := cell_at h_a
  have c_b := cell_at h_b
  go_wp2_with fail
  refine (gcd_at _ _ ((Nat.gcd (ab m) (ab n) : Nat) : Int) HX.out HY.out rfl _).mono ?_
  rintro e w20 ⟨rfl, hb⟩
  have k_a := heap_below hb h_a
  have k_b := heap_below hb h_b
  have k_x := heap_below hb h_x
  have k_s := heap_below hb h_s
  have kB : Below w.heap.size w w20 := by
    have hsz := hB.size
    focus (repeat (first | (with_reducible exact Below.refl _ _) | (with_reducible assumption) | ((with_reducible refine Below.setCell ?_ ?_ _); rotate_left; (focus (first | omega | (simp; done) | (simp; omega)))) | ((with_reducible refine Below.alloc ?_ ?_ _); rotate_left; (focus (first | omega | (simp; done) | (simp; omega)))) | (with_reducible refine Below.drew ?_) | (refine below_on ?_ (by assumption))))
  clear hB hb h_a h_b h_x h_s
  have h_a := k_a
  have h_b := k_b
  have h_x := k_x
  have h_s := k_s
  have hB := kB
  clear kB k_a k_b k_x k_s
  have hsz := hB.size
  go_upto_region 18 with (fail)
  refine abs_wp (fun W => W.heap[w.heap.size]? = some (.cells #[.bool (ng (m)), .int .u64 (dg (ab (m)) 0), .int .u64 (dg (ab (m)) 1), .int .u64 (dg (ab (m)) 2), .int .u64 (dg (ab (m)) 3)] 25 (0, 0)) ∧ W.heap[w.heap.size + 1]? = some (.cells #[.bool (ng (n)), .int .u64 (dg (ab (n)) 0), .int .u64 (dg (ab (n)) 1), .int .u64 (dg (ab (n)) 2), .int .u64 (dg (ab (n)) 3)] 25 (0, 0)) ∧ W.heap[w2.heap.size]? = some (.cells #[.bool (ng (-m)), .int .u64 (dg (ab (-m)) 0), .int .u64 (dg (ab (-m)) 1), .int .u64 (dg (ab (-m)) 2), .int .u64 (dg (ab (-m)) 3)] 25 (0, 0)) ∧ W.heap[w18.heap.size]? = some (.cells #[.bool (ng (0)), .int .u64 (dg (ab (0)) 0), .int .u64 (dg (ab (0)) 1), .int .u64 (dg (ab (0)) 2), .int .u64 (dg (ab (0)) 3)] 25 (0, 0)) ∧ W.heap[w20.heap.size]? = some (.cells #[.bool (ng (((Nat.gcd (ab m) (ab n) : Nat) : Int))), .int .u64 (dg (ab (((Nat.gcd (ab m) (ab n) : Nat) : Int))) 0), .int .u64 (dg (ab (((Nat.gcd (ab m) (ab n) : Nat) : Int))) 1), .int .u64 (dg (ab (((Nat.gcd (ab m) (ab n) : Nat) : Int))) 2), .int .u64 (dg (ab (((Nat.gcd (ab m) (ab n) : Nat) : Int))) 3)] 25 (0, 0)) ∧ Below w.heap.size w W) ⟨heap_old (h_a) _, heap_old (h_b) _, heap_old (h_x) _, heap_old (h_s) _, heap_new _ _, (by focus (repeat (first | (with_reducible exact Below.refl _ _) | (with_reducible assumption) | ((with_reducible refine Below.setCell ?_ ?_ _); rotate_left; (focus (first | omega | (simp; done) | (simp; omega)))) | ((with_reducible refine Below.alloc ?_ ?_ _); rotate_left; (focus (first | omega | (simp; done) | (simp; omega)))) | (with_reducible refine Below.drew ?_) | (refine below_on ?_ (by assumption)))))⟩ fun W21 ⟨g_a, g_b, g_x, g_s, g_g, gB⟩ => ?_
  clear hB hsz h_a h_b h_x h_s
  have h_a := g_a
  have h_b := g_b
  have h_x := g_x
  have h_s := g_s
  have h_g := g_g
  have hB := gB
  clear gB g_a g_b g_x g_s g_g
  have c_x := cell_at h_x
  have c_b := cell_at h_b
  go_wp2_with fail
  refine (gcd_at _ _ ((Nat.gcd (ab m) (ab n) : Nat) : Int) HX2.out HY.out (by rw [ab_neg']) _).mono ?_
  rintro e w22 ⟨rfl, hb⟩
  have k_a := heap_below hb h_a
  have k_b := heap_below hb h_b
  have k_x := heap_below hb h_x
  have k_s := heap_below hb h_s
  have k_g := heap_below hb h_g
  have kB : Below w.heap.size w w22 := by
    have hsz := hB.size
    focus (repeat (first | (with_reducible exact Below.refl _ _) | (with_reducible assumption) | ((with_reducible refine Below.setCell ?_ ?_ _); rotate_left; (focus (first | omega | (simp; done) | (simp; omega)))) | ((with_reducible refine Below.alloc ?_ ?_ _); rotate_left; (focus (first | omega | (simp; done) | (simp; omega)))) | (with_reducible refine Below.drew ?_) | (refine below_on ?_ (by assumption))))
  clear hB hb h_a h_b h_x h_s h_g
  have h_a := k_a
  have h_b := k_b
  have h_x := k_x
  have h_s := k_s
  have h_g := k_g
  have hB := kB
  clear kB k_a k_b k_x k_s k_g
  have hsz := hB.size
  go_upto_region 19 with (fail)
  refine abs_wp (fun W => W.heap[w.heap.size]? = some (.cells #[.bool (ng (m)), .int .u64 (dg (ab (m)) 0), .int .u64 (dg (ab (m)) 1), .int .u64 (dg (ab (m)) 2), .int .u64 (dg (ab (m)) 3)] 25 (0, 0)) ∧ W.heap[w.heap.size + 1]? = some (.cells #[.bool (ng (n)), .int .u64 (dg (ab (n)) 0), .int .u64 (dg (ab (n)) 1), .int .u64 (dg (ab (n)) 2), .int .u64 (dg (ab (n)) 3)] 25 (0, 0)) ∧ W.heap[w2.heap.size]? = some (.cells #[.bool (ng (-m)), .int .u64 (dg (ab (-m)) 0), .int .u64 (dg (ab (-m)) 1), .int .u64 (dg (ab (-m)) 2), .int .u64 (dg (ab (-m)) 3)] 25 (0, 0)) ∧ W.heap[w18.heap.size]? = some (.cells #[.bool (ng (0)), .int .u64 (dg (ab (0)) 0), .int .u64 (dg (ab (0)) 1), .int .u64 (dg (ab (0)) 2), .int .u64 (dg (ab (0)) 3)] 25 (0, 0)) ∧ W.heap[w20.heap.size]? = some (.cells #[.bool (ng (((Nat.gcd (ab m) (ab n) : Nat) : Int))), .int .u64 (dg (ab (((Nat.gcd (ab m) (ab n) : Nat) : Int))) 0), .int .u64 (dg (ab (((Nat.gcd (ab m) (ab n) : Nat) : Int))) 1), .int .u64 (dg (ab (((Nat.gcd (ab m) (ab n) : Nat) : Int))) 2), .int .u64 (dg (ab (((Nat.gcd (ab m) (ab n) : Nat) : Int))) 3)] 25 (0, 0)) ∧ W.heap[w22.heap.size]? = some (.cells #[.bool (ng (((Nat.gcd (ab m) (ab n) : Nat) : Int))), .int .u64 (dg (ab (((Nat.gcd (ab m) (ab n) : Nat) : Int))) 0), .int .u64 (dg (ab (((Nat.gcd (ab m) (ab n) : Nat) : Int))) 1), .int .u64 (dg (ab (((Nat.gcd (ab m) (ab n) : Nat) : Int))) 2), .int .u64 (dg (ab (((Nat.gcd (ab m) (ab n) : Nat) : Int))) 3)] 25 (0, 0)) ∧ Below w.heap.size w W) ⟨heap_old (h_a) _, heap_old (h_b) _, heap_old (h_x) _, heap_old (h_s) _, heap_old (h_g) _, heap_new _ _, (by focus (repeat (first | (with_reducible exact Below.refl _ _) | (with_reducible assumption) | ((with_reducible refine Below.setCell ?_ ?_ _); rotate_left; (focus (first | omega | (simp; done) | (simp; omega)))) | ((with_reducible refine Below.alloc ?_ ?_ _); rotate_left; (focus (first | omega | (simp; done) | (simp; omega)))) | (with_reducible refine Below.drew ?_) | (refine below_on ?_ (by assumption)))))⟩ fun W23 ⟨g_a, g_b, g_x, g_s, g_g, g_i, gB⟩ => ?_
  clear hB hsz h_a h_b h_x h_s h_g
  have h_a := g_a
  have h_b := g_b
  have h_x := g_x
  have h_s := g_s
  have h_g := g_g
  have h_i := g_i
  have hB := gB
  clear gB g_a g_b g_x g_s g_g g_i
  have c_g := cell_at h_g
  have c_i := cell_at h_i
  go_upto_region 21 with ((go_at_call 14; refine (num_s _ _).mono ?_; rintro e w' ⟨rfl, rfl⟩))
  refine abs_wp (fun W => W.heap[w.heap.size]? = some (.cells #[.bool (ng (m)), .int .u64 (dg (ab (m)) 0), .int .u64 (dg (ab (m)) 1), .int .u64 (dg (ab (m)) 2), .int .u64 (dg (ab (m)) 3)] 25 (0, 0)) ∧ W.heap[w.heap.size + 1]? = some (.cells #[.bool (ng (n)), .int .u64 (dg (ab (n)) 0), .int .u64 (dg (ab (n)) 1), .int .u64 (dg (ab (n)) 2), .int .u64 (dg (ab (n)) 3)] 25 (0, 0)) ∧ W.heap[w2.heap.size]? = some (.cells #[.bool (ng (-m)), .int .u64 (dg (ab (-m)) 0), .int .u64 (dg (ab (-m)) 1), .int .u64 (dg (ab (-m)) 2), .int .u64 (dg (ab (-m)) 3)] 25 (0, 0)) ∧ W.heap[w18.heap.size]? = some (.cells #[.bool (ng (0)), .int .u64 (dg (ab (0)) 0), .int .u64 (dg (ab (0)) 1), .int .u64 (dg (ab (0)) 2), .int .u64 (dg (ab (0)) 3)] 25 (0, 0)) ∧ Below w.heap.size w W) ⟨h_a, h_b, h_x, h_s, (by focus (repeat (first | (with_reducible exact Below.refl _ _) | (with_reducible assumption) | ((with_reducible refine Below.setCell ?_ ?_ _); rotate_left; (focus (first | omega | (simp; done) | (simp; omega)))) | ((with_reducible refine Below.alloc ?_ ?_ _); rotate_left; (focus (first | omega | (simp; done) | (simp; omega)))) | (with_reducible refine Below.drew ?_) | (refine below_on ?_ (by assumption)))))⟩ fun W24 ⟨g_a, g_b, g_x, g_s, gB⟩ => ?_
  clear hB h_a h_b h_x h_s h_g h_i
  have h_a := g_a
  have h_b := g_b
  have h_x := g_x
  have h_s := g_s
  have hB := gB
  clear gB g_a g_b g_x g_s
  have c_a := cell_at h_a
  have c_b := cell_at h_b
  go_wp2_with fail
  refine (quo_at m n _ _ HX.out HY.out HQ.out rfl rfl _).mono ?_
  rintro e w25 ⟨rfl, hb⟩
  have k_a := heap_below hb h_a
  have k_b := heap_below hb h_b
  have k_x := heap_below hb h_x
  have k_s := heap_below hb h_s
  have kB : Below w.heap.size w w25 := by
    have hsz := hB.size
    focus (repeat (first | (with_reducible exact Below.refl _ _) | (with_reducible assumption) | ((with_reducible refine Below.setCell ?_ ?_ _); rotate_left; (focus (first | omega | (simp; done) | (simp; omega)))) | ((with_reducible refine Below.alloc ?_ ?_ _); rotate_left; (focus (first | omega | (simp; done) | (simp; omega)))) | (with_reducible refine Below.drew ?_) | (refine below_on ?_ (by assumption))))
  clear hB hb h_a h_b h_x h_s
  have h_a := k_a
  have h_b := k_b
  have h_x := k_x
  have h_s := k_s
  have hB := kB
  clear kB k_a k_b k_x k_s
  have hsz := hB.size
  go_upto_region 22 with (fail)
  refine abs_wp (fun W => W.heap[w.heap.size]? = some (.cells #[.bool (ng (m)), .int .u64 (dg (ab (m)) 0), .int .u64 (dg (ab (m)) 1), .int .u64 (dg (ab (m)) 2), .int .u64 (dg (ab (m)) 3)] 25 (0, 0)) ∧ W.heap[w.heap.size + 1]? = some (.cells #[.bool (ng (n)), .int .u64 (dg (ab (n)) 0), .int .u64 (dg (ab (n)) 1), .int .u64 (dg (ab (n)) 2), .int .u64 (dg (ab (n)) 3)] 25 (0, 0)) ∧ W.heap[w2.heap.size]? = some (.cells #[.bool (ng (-m)), .int .u64 (dg (ab (-m)) 0), .int .u64 (dg (ab (-m)) 1), .int .u64 (dg (ab (-m)) 2), .int .u64 (dg (ab (-m)) 3)] 25 (0, 0)) ∧ W.heap[w18.heap.size]? = some (.cells #[.bool (ng (0)), .int .u64 (dg (ab (0)) 0), .int .u64 (dg (ab (0)) 1), .int .u64 (dg (ab (0)) 2), .int .u64 (dg (ab (0)) 3)] 25 (0, 0)) ∧ W.heap[w25.heap.size]? = some (.cells #[.bool (ng (m.tdiv n)), .int .u64 (dg (ab (m.tdiv n)) 0), .int .u64 (dg (ab (m.tdiv n)) 1), .int .u64 (dg (ab (m.tdiv n)) 2), .int .u64 (dg (ab (m.tdiv n)) 3)] 25 (0, 0)) ∧ W.heap[w25.heap.size + 1]? = some (.cells #[.bool (ng (m.tmod n)), .int .u64 (dg (ab (m.tmod n)) 0), .int .u64 (dg (ab (m.tmod n)) 1), .int .u64 (dg (ab (m.tmod n)) 2), .int .u64 (dg (ab (m.tmod n)) 3)] 25 (0, 0)) ∧ Below w.heap.size w W) ⟨heap_old (heap_old (h_a) _) _, heap_old (heap_old (h_b) _) _, heap_old (heap_old (h_x) _) _, heap_old (heap_old (h_s) _) _, heap_old (heap_new _ _) _, heap_at (by simp) _, (by focus (repeat (first | (with_reducible exact Below.refl _ _) | (with_reducible assumption) | ((with_reducible refine Below.setCell ?_ ?_ _); rotate_left; (focus (first | omega | (simp; done) | (simp; omega)))) | ((with_reducible refine Below.alloc ?_ ?_ _); rotate_left; (focus (first | omega | (simp; done) | (simp; omega)))) | (with_reducible refine Below.drew ?_) | (refine below_on ?_ (by assumption)))))⟩ fun W26 ⟨g_a, g_b, g_x, g_s, g_q, g_r, gB⟩ => ?_
  clear hB hsz h_a h_b h_x h_s
  have h_a := g_a
  have h_b := g_b
  have h_x := g_x
  have h_s := g_s
  have h_q := g_q
  have h_r := g_r
  have hB := gB
  clear gB g_a g_b g_x g_s g_q g_r
  have c_x := cell_at h_x
  have c_b := cell_at h_b
  go_wp2_with fail
  refine (quo_at (-m) n (-(m.tdiv n)) (-(m.tmod n)) HX2.out HY.out HQ.out (Int.neg_tdiv ..) (Int.neg_tmod ..) _).mono ?_
  rintro e w27 ⟨rfl, hb⟩
  have k_a := heap_below hb h_a
  have k_b := heap_below hb h_b
  have k_x := heap_below hb h_x
  have k_s := heap_below hb h_s
  have k_q := heap_below hb h_q
  have k_r := heap_below hb h_r
  have kB : Below w.heap.size w w27 := by
    have hsz := hB.size
    focus (repeat (first | (with_reducible exact Below.refl _ _) | (with_reducible assumption) | ((with_reducible refine Below.setCell ?_ ?_ _); rotate_left; (focus (first | omega | (simp; done) | (simp; omega)))) | ((with_reducible refine Below.alloc ?_ ?_ _); rotate_left; (focus (first | omega | (simp; done) | (simp; omega)))) | (with_reducible refine Below.drew ?_) | (refine below_on ?_ (by assumption))))
  clear hB hb h_a h_b h_x h_s h_q h_r
  have h_a := k_a
  have h_b := k_b
  have h_x := k_x
  have h_s := k_s
  have h_q := k_q
  have h_r := k_r
  have hB := kB
  clear kB k_a k_b k_x k_s k_q k_r
  have hsz := hB.size
  go_upto_region 23 with (fail)
  refine abs_wp (fun W => W.heap[w.heap.size]? = some (.cells #[.bool (ng (m)), .int .u64 (dg (ab (m)) 0), .int .u64 (dg (ab (m)) 1), .int .u64 (dg (ab (m)) 2), .int .u64 (dg (ab (m)) 3)] 25 (0, 0)) ∧ W.heap[w.heap.size + 1]? = some (.cells #[.bool (ng (n)), .int .u64 (dg (ab (n)) 0), .int .u64 (dg (ab (n)) 1), .int .u64 (dg (ab (n)) 2), .int .u64 (dg (ab (n)) 3)] 25 (0, 0)) ∧ W.heap[w2.heap.size]? = some (.cells #[.bool (ng (-m)), .int .u64 (dg (ab (-m)) 0), .int .u64 (dg (ab (-m)) 1), .int .u64 (dg (ab (-m)) 2), .int .u64 (dg (ab (-m)) 3)] 25 (0, 0)) ∧ W.heap[w18.heap.size]? = some (.cells #[.bool (ng (0)), .int .u64 (dg (ab (0)) 0), .int .u64 (dg (ab (0)) 1), .int .u64 (dg (ab (0)) 2), .int .u64 (dg (ab (0)) 3)] 25 (0, 0)) ∧ W.heap[w25.heap.size]? = some (.cells #[.bool (ng (m.tdiv n)), .int .u64 (dg (ab (m.tdiv n)) 0), .int .u64 (dg (ab (m.tdiv n)) 1), .int .u64 (dg (ab (m.tdiv n)) 2), .int .u64 (dg (ab (m.tdiv n)) 3)] 25 (0, 0)) ∧ W.heap[w25.heap.size + 1]? = some (.cells #[.bool (ng (m.tmod n)), .int .u64 (dg (ab (m.tmod n)) 0), .int .u64 (dg (ab (m.tmod n)) 1), .int .u64 (dg (ab (m.tmod n)) 2), .int .u64 (dg (ab (m.tmod n)) 3)] 25 (0, 0)) ∧ W.heap[w27.heap.size]? = some (.cells #[.bool (ng (-(m.tdiv n))), .int .u64 (dg (ab (-(m.tdiv n))) 0), .int .u64 (dg (ab (-(m.tdiv n))) 1), .int .u64 (dg (ab (-(m.tdiv n))) 2), .int .u64 (dg (ab (-(m.tdiv n))) 3)] 25 (0, 0)) ∧ W.heap[w27.heap.size + 1]? = some (.cells #[.bool (ng (-(m.tmod n))), .int .u64 (dg (ab (-(m.tmod n))) 0), .int .u64 (dg (ab (-(m.tmod n))) 1), .int .u64 (dg (ab (-(m.tmod n))) 2), .int .u64 (dg (ab (-(m.tmod n))) 3)] 25 (0, 0)) ∧ Below w.heap.size w W) ⟨heap_old (heap_old (h_a) _) _, heap_old (heap_old (h_b) _) _, heap_old (heap_old (h_x) _) _, heap_old (heap_old (h_s) _) _, heap_old (heap_old (h_q) _) _, heap_old (heap_old (h_r) _) _, heap_old (heap_new _ _) _, heap_at (by simp) _, (by focus (repeat (first | (with_reducible exact Below.refl _ _) | (with_reducible assumption) | ((with_reducible refine Below.setCell ?_ ?_ _); rotate_left; (focus (first | omega | (simp; done) | (simp; omega)))) | ((with_reducible refine Below.alloc ?_ ?_ _); rotate_left; (focus (first | omega | (simp; done) | (simp; omega)))) | (with_reducible refine Below.drew ?_) | (refine below_on ?_ (by assumption)))))⟩ fun W28 ⟨g_a, g_b, g_x, g_s, g_q, g_r, g_p, g_o, gB⟩ => ?_
  clear hB hsz h_a h_b h_x h_s h_q h_r
  have h_a := g_a
  have h_b := g_b
  have h_x := g_x
  have h_s := g_s
  have h_q := g_q
  have h_r := g_r
  have h_p := g_p
  have h_o := g_o
  have hB := gB
  clear gB g_a g_b g_x g_s g_q g_r g_p g_o
  go_upto_region 27 with ((go_at_call 14; refine (num_s _ _).mono ?_; rintro e w' ⟨rfl, rfl⟩))
  refine abs_wp (fun W => W.heap[w.heap.size]? = some (.cells #[.bool (ng (m)), .int .u64 (dg (ab (m)) 0), .int .u64 (dg (ab (m)) 1), .int .u64 (dg (ab (m)) 2), .int .u64 (dg (ab (m)) 3)] 25 (0, 0)) ∧ W.heap[w.heap.size + 1]? = some (.cells #[.bool (ng (n)), .int .u64 (dg (ab (n)) 0), .int .u64 (dg (ab (n)) 1), .int .u64 (dg (ab (n)) 2), .int .u64 (dg (ab (n)) 3)] 25 (0, 0)) ∧ W.heap[w2.heap.size]? = some (.cells #[.bool (ng (-m)), .int .u64 (dg (ab (-m)) 0), .int .u64 (dg (ab (-m)) 1), .int .u64 (dg (ab (-m)) 2), .int .u64 (dg (ab (-m)) 3)] 25 (0, 0)) ∧ W.heap[w18.heap.size]? = some (.cells #[.bool (ng (0)), .int .u64 (dg (ab (0)) 0), .int .u64 (dg (ab (0)) 1), .int .u64 (dg (ab (0)) 2), .int .u64 (dg (ab (0)) 3)] 25 (0, 0)) ∧ W.heap[w25.heap.size]? = some (.cells #[.bool (ng (m.tdiv n)), .int .u64 (dg (ab (m.tdiv n)) 0), .int .u64 (dg (ab (m.tdiv n)) 1), .int .u64 (dg (ab (m.tdiv n)) 2), .int .u64 (dg (ab (m.tdiv n)) 3)] 25 (0, 0)) ∧ W.heap[w25.heap.size + 1]? = some (.cells #[.bool (ng (m.tmod n)), .int .u64 (dg (ab (m.tmod n)) 0), .int .u64 (dg (ab (m.tmod n)) 1), .int .u64 (dg (ab (m.tmod n)) 2), .int .u64 (dg (ab (m.tmod n)) 3)] 25 (0, 0)) ∧ W.heap[w27.heap.size]? = some (.cells #[.bool (ng (-(m.tdiv n))), .int .u64 (dg (ab (-(m.tdiv n))) 0), .int .u64 (dg (ab (-(m.tdiv n))) 1), .int .u64 (dg (ab (-(m.tdiv n))) 2), .int .u64 (dg (ab (-(m.tdiv n))) 3)] 25 (0, 0)) ∧ W.heap[w27.heap.size + 1]? = some (.cells #[.bool (ng (-(m.tmod n))), .int .u64 (dg (ab (-(m.tmod n))) 0), .int .u64 (dg (ab (-(m.tmod n))) 1), .int .u64 (dg (ab (-(m.tmod n))) 2), .int .u64 (dg (ab (-(m.tmod n))) 3)] 25 (0, 0)) ∧ Below w.heap.size w W) ⟨h_a, h_b, h_x, h_s, h_q, h_r, h_p, h_o, (by focus (repeat (first | (with_reducible exact Below.refl _ _) | (with_reducible assumption) | ((with_reducible refine Below.setCell ?_ ?_ _); rotate_left; (focus (first | omega | (simp; done) | (simp; omega)))) | ((with_reducible refine Below.alloc ?_ ?_ _); rotate_left; (focus (first | omega | (simp; done) | (simp; omega)))) | (with_reducible refine Below.drew ?_) | (refine below_on ?_ (by assumption)))))⟩ fun W29 ⟨g_a, g_b, g_x, g_s, g_q, g_r, g_p, g_o, gB⟩ => ?_
  clear hB h_a h_b h_x h_s h_q h_r h_p h_o
  have h_a := g_a
  have h_b := g_b
  have h_x := g_x
  have h_s := g_s
  have h_q := g_q
  have h_r := g_r
  have h_p := g_p
  have h_o := g_o
  have hB := gB
  clear gB g_a g_b g_x g_s g_q g_r g_p g_o
  have c_p := cell_at h_p
  go_wp2_with fail
  refine (neg_at (-(m.tdiv n)) (m.tdiv n) HD.out (Int.neg_neg _) _).mono ?_
  rintro e w30 ⟨rfl, hb⟩
  have k_a := heap_below hb h_a
  have k_b := heap_below hb h_b
  have k_x := heap_below hb h_x
  have k_s := heap_below hb h_s
  have k_q := heap_below hb h_q
  have k_r := heap_below hb h_r
  have k_p := heap_below hb h_p
  have k_o := heap_below hb h_o
  have kB : Below w.heap.size w w30 := by
    have hsz := hB.size
    focus (repeat (first | (with_reducible exact Below.refl _ _) | (with_reducible assumption) | ((with_reducible refine Below.setCell ?_ ?_ _); rotate_left; (focus (first | omega | (simp; done) | (simp; omega)))) | ((with_reducible refine Below.alloc ?_ ?_ _); rotate_left; (focus (first | omega | (simp; done) | (simp; omega)))) | (with_reducible refine Below.drew ?_) | (refine below_on ?_ (by assumption))))
  clear hB hb h_a h_b h_x h_s h_q h_r h_p h_o
  have h_a := k_a
  have h_b := k_b
  have h_x := k_x
  have h_s := k_s
  have h_q := k_q
  have h_r := k_r
  have h_p := k_p
  have h_o := k_o
  have hB := kB
  clear kB k_a k_b k_x k_s k_q k_r k_p k_o
  have hsz := hB.size
  go_upto_region 28 with (fail)
  refine abs_wp (fun W => W.heap[w.heap.size]? = some (.cells #[.bool (ng (m)), .int .u64 (dg (ab (m)) 0), .int .u64 (dg (ab (m)) 1), .int .u64 (dg (ab (m)) 2), .int .u64 (dg (ab (m)) 3)] 25 (0, 0)) ∧ W.heap[w.heap.size + 1]? = some (.cells #[.bool (ng (n)), .int .u64 (dg (ab (n)) 0), .int .u64 (dg (ab (n)) 1), .int .u64 (dg (ab (n)) 2), .int .u64 (dg (ab (n)) 3)] 25 (0, 0)) ∧ W.heap[w2.heap.size]? = some (.cells #[.bool (ng (-m)), .int .u64 (dg (ab (-m)) 0), .int .u64 (dg (ab (-m)) 1), .int .u64 (dg (ab (-m)) 2), .int .u64 (dg (ab (-m)) 3)] 25 (0, 0)) ∧ W.heap[w18.heap.size]? = some (.cells #[.bool (ng (0)), .int .u64 (dg (ab (0)) 0), .int .u64 (dg (ab (0)) 1), .int .u64 (dg (ab (0)) 2), .int .u64 (dg (ab (0)) 3)] 25 (0, 0)) ∧ W.heap[w25.heap.size]? = some (.cells #[.bool (ng (m.tdiv n)), .int .u64 (dg (ab (m.tdiv n)) 0), .int .u64 (dg (ab (m.tdiv n)) 1), .int .u64 (dg (ab (m.tdiv n)) 2), .int .u64 (dg (ab (m.tdiv n)) 3)] 25 (0, 0)) ∧ W.heap[w25.heap.size + 1]? = some (.cells #[.bool (ng (m.tmod n)), .int .u64 (dg (ab (m.tmod n)) 0), .int .u64 (dg (ab (m.tmod n)) 1), .int .u64 (dg (ab (m.tmod n)) 2), .int .u64 (dg (ab (m.tmod n)) 3)] 25 (0, 0)) ∧ W.heap[w27.heap.size]? = some (.cells #[.bool (ng (-(m.tdiv n))), .int .u64 (dg (ab (-(m.tdiv n))) 0), .int .u64 (dg (ab (-(m.tdiv n))) 1), .int .u64 (dg (ab (-(m.tdiv n))) 2), .int .u64 (dg (ab (-(m.tdiv n))) 3)] 25 (0, 0)) ∧ W.heap[w27.heap.size + 1]? = some (.cells #[.bool (ng (-(m.tmod n))), .int .u64 (dg (ab (-(m.tmod n))) 0), .int .u64 (dg (ab (-(m.tmod n))) 1), .int .u64 (dg (ab (-(m.tmod n))) 2), .int .u64 (dg (ab (-(m.tmod n))) 3)] 25 (0, 0)) ∧ W.heap[w30.heap.size]? = some (.cells #[.bool (ng (m.tdiv n)), .int .u64 (dg (ab (m.tdiv n)) 0), .int .u64 (dg (ab (m.tdiv n)) 1), .int .u64 (dg (ab (m.tdiv n)) 2), .int .u64 (dg (ab (m.tdiv n)) 3)] 25 (0, 0)) ∧ Below w.heap.size w W) ⟨heap_old (h_a) _, heap_old (h_b) _, heap_old (h_x) _, heap_old (h_s) _, heap_old (h_q) _, heap_old (h_r) _, heap_old (h_p) _, heap_old (h_o) _, heap_new _ _, (by focus (repeat (first | (with_reducible exact Below.refl _ _) | (with_reducible assumption) | ((with_reducible refine Below.setCell ?_ ?_ _); rotate_left; (focus (first | omega | (simp; done) | (simp; omega)))) | ((with_reducible refine Below.alloc ?_ ?_ _); rotate_left; (focus (first | omega | (simp; done) | (simp; omega)))) | (with_reducible refine Below.drew ?_) | (refine below_on ?_ (by assumption)))))⟩ fun W31 ⟨g_a, g_b, g_x, g_s, g_q, g_r, g_p, g_o, g_v, gB⟩ => ?_
  clear hB hsz h_a h_b h_x h_s h_q h_r h_p h_o
  have h_a := g_a
  have h_b := g_b
  have h_x := g_x
  have h_s := g_s
  have h_q := g_q
  have h_r := g_r
  have h_p := g_p
  have h_o := g_o
  have h_v := g_v
  have hB := gB
  clear gB g_a g_b g_x g_s g_q g_r g_p g_o g_v
  have c_o := cell_at h_o
  go_wp2_with fail
  refine (neg_at (-(m.tmod n)) (m.tmod n) HE.out (Int.neg_neg _) _).mono ?_
  rintro e w32 ⟨rfl, hb⟩
  have k_a := heap_below hb h_a
  have k_b := heap_below hb h_b
  have k_x := heap_below hb h_x
  have k_s := heap_below hb h_s
  have k_q := heap_below hb h_q
  have k_r := heap_below hb h_r
  have k_p := heap_below hb h_p
  have k_o := heap_below hb h_o
  have k_v := heap_below hb h_v
  have kB : Below w.heap.size w w32 := by
    have hsz := hB.size
    focus (repeat (first | (with_reducible exact Below.refl _ _) | (with_reducible assumption) | ((with_reducible refine Below.setCell ?_ ?_ _); rotate_left; (focus (first | omega | (simp; done) | (simp; omega)))) | ((with_reducible refine Below.alloc ?_ ?_ _); rotate_left; (focus (first | omega | (simp; done) | (simp; omega)))) | (with_reducible refine Below.drew ?_) | (refine below_on ?_ (by assumption))))
  clear hB hb h_a h_b h_x h_s h_q h_r h_p h_o h_v
  have h_a := k_a
  have h_b := k_b
  have h_x := k_x
  have h_s := k_s
  have h_q := k_q
  have h_r := k_r
  have h_p := k_p
  have h_o := k_o
  have h_v := k_v
  have hB := kB
  clear kB k_a k_b k_x k_s k_q k_r k_p k_o k_v
  have hsz := hB.size
  go_upto_region 29 with (fail)
  refine abs_wp (fun W => W.heap[w.heap.size]? = some (.cells #[.bool (ng (m)), .int .u64 (dg (ab (m)) 0), .int .u64 (dg (ab (m)) 1), .int .u64 (dg (ab (m)) 2), .int .u64 (dg (ab (m)) 3)] 25 (0, 0)) ∧ W.heap[w.heap.size + 1]? = some (.cells #[.bool (ng (n)), .int .u64 (dg (ab (n)) 0), .int .u64 (dg (ab (n)) 1), .int .u64 (dg (ab (n)) 2), .int .u64 (dg (ab (n)) 3)] 25 (0, 0)) ∧ W.heap[w2.heap.size]? = some (.cells #[.bool (ng (-m)), .int .u64 (dg (ab (-m)) 0), .int .u64 (dg (ab (-m)) 1), .int .u64 (dg (ab (-m)) 2), .int .u64 (dg (ab (-m)) 3)] 25 (0, 0)) ∧ W.heap[w18.heap.size]? = some (.cells #[.bool (ng (0)), .int .u64 (dg (ab (0)) 0), .int .u64 (dg (ab (0)) 1), .int .u64 (dg (ab (0)) 2), .int .u64 (dg (ab (0)) 3)] 25 (0, 0)) ∧ W.heap[w25.heap.size]? = some (.cells #[.bool (ng (m.tdiv n)), .int .u64 (dg (ab (m.tdiv n)) 0), .int .u64 (dg (ab (m.tdiv n)) 1), .int .u64 (dg (ab (m.tdiv n)) 2), .int .u64 (dg (ab (m.tdiv n)) 3)] 25 (0, 0)) ∧ W.heap[w25.heap.size + 1]? = some (.cells #[.bool (ng (m.tmod n)), .int .u64 (dg (ab (m.tmod n)) 0), .int .u64 (dg (ab (m.tmod n)) 1), .int .u64 (dg (ab (m.tmod n)) 2), .int .u64 (dg (ab (m.tmod n)) 3)] 25 (0, 0)) ∧ W.heap[w27.heap.size]? = some (.cells #[.bool (ng (-(m.tdiv n))), .int .u64 (dg (ab (-(m.tdiv n))) 0), .int .u64 (dg (ab (-(m.tdiv n))) 1), .int .u64 (dg (ab (-(m.tdiv n))) 2), .int .u64 (dg (ab (-(m.tdiv n))) 3)] 25 (0, 0)) ∧ W.heap[w27.heap.size + 1]? = some (.cells #[.bool (ng (-(m.tmod n))), .int .u64 (dg (ab (-(m.tmod n))) 0), .int .u64 (dg (ab (-(m.tmod n))) 1), .int .u64 (dg (ab (-(m.tmod n))) 2), .int .u64 (dg (ab (-(m.tmod n))) 3)] 25 (0, 0)) ∧ W.heap[w30.heap.size]? = some (.cells #[.bool (ng (m.tdiv n)), .int .u64 (dg (ab (m.tdiv n)) 0), .int .u64 (dg (ab (m.tdiv n)) 1), .int .u64 (dg (ab (m.tdiv n)) 2), .int .u64 (dg (ab (m.tdiv n)) 3)] 25 (0, 0)) ∧ W.heap[w32.heap.size]? = some (.cells #[.bool (ng (m.tmod n)), .int .u64 (dg (ab (m.tmod n)) 0), .int .u64 (dg (ab (m.tmod n)) 1), .int .u64 (dg (ab (m.tmod n)) 2), .int .u64 (dg (ab (m.tmod n)) 3)] 25 (0, 0)) ∧ Below w.heap.size w W) ⟨heap_old (h_a) _, heap_old (h_b) _, heap_old (h_x) _, heap_old (h_s) _, heap_old (h_q) _, heap_old (h_r) _, heap_old (h_p) _, heap_old (h_o) _, heap_old (h_v) _, heap_new _ _, (by focus (repeat (first | (with_reducible exact Below.refl _ _) | (with_reducible assumption) | ((with_reducible refine Below.setCell ?_ ?_ _); rotate_left; (focus (first | omega | (simp; done) | (simp; omega)))) | ((with_reducible refine Below.alloc ?_ ?_ _); rotate_left; (focus (first | omega | (simp; done) | (simp; omega)))) | (with_reducible refine Below.drew ?_) | (refine below_on ?_ (by assumption)))))⟩ fun W33 ⟨g_a, g_b, g_x, g_s, g_q, g_r, g_p, g_o, g_v, g_z, gB⟩ => ?_
  clear hB hsz h_a h_b h_x h_s h_q h_r h_p h_o h_v
  have h_a := g_a
  have h_b := g_b
  have h_x := g_x
  have h_s := g_s
  have h_q := g_q
  have h_r := g_r
  have h_p := g_p
  have h_o := g_o
  have h_v := g_v
  have h_z := g_z
  have hB := gB
  clear gB g_a g_b g_x g_s g_q g_r g_p g_o g_v g_z
  have c_v := cell_at h_v
  have c_q := cell_at h_q
  have c_z := cell_at h_z
  have c_r := cell_at h_r
  go_wp2_with ((go_at_call 14; refine (num_s _ _).mono ?_; rintro e w' ⟨rfl, rfl⟩))
  refine (works_any _).mono ?_
  rintro e wz ⟨rfl, hb⟩
  have hF := below_on hB hb
  go_wp2
  go_ret
  exact ⟨rfl, hF⟩
set_option maxRecDepth 100000 in
set_option maxHeartbeats 4000000 in
theorem mirrors_100 (m n : Int) (HX : Hd (ab m < 2 ^ 256)) (HY : Hd (ab n < 2 ^ 256)) (HX2 : Hd (ab (-m) < 2 ^ 256)) (HY2 : Hd (ab (-n) < 2 ^ 256)) (HA : Hd (addV [m, n] = m + n ∧ addE [m, n] = 0 ∧ addV [-m, -n] = -(m + n) ∧ addE [-m, -n] = 0 ∧ ab (-(m + n)) < 2 ^ 256 ∧ True)) (HM : Hd (mulV [m, n] = 0 ∧ mulE [m, n] = 110)) (HQ : Hd (n = 0)) (w : World) :
    Calls Try.prog 6 #[.agg #[.bool (ng (m)), .int .u64 (dg (ab (m)) 0), .int .u64 (dg (ab (m)) 1), .int .u64 (dg (ab (m)) 2), .int .u64 (dg (ab (m)) 3)], .agg #[.bool (ng (n)), .int .u64 (dg (ab (n)) 0), .int .u64 (dg (ab (n)) 1), .int .u64 (dg (ab (n)) 2), .int .u64 (dg (ab (n)) 3)]] w fun e w' => e = .returned (.bool true) ∧ Below w.heap.size w w' := by
  go_enter Try.func6, Try.ntmps6
  have hB := Below.refl w.heap.size w
  have hsz := hB.size
  go_upto_region 1 with (fail)
  refine abs_wp (fun W => W.heap[w.heap.size]? = some (.cells #[.bool (ng (m)), .int .u64 (dg (ab (m)) 0), .int .u64 (dg (ab (m)) 1), .int .u64 (dg (ab (m)) 2), .int .u64 (dg (ab (m)) 3)] 25 (0, 0)) ∧ W.heap[w.heap.size + 1]? = some (.cells #[.bool (ng (n)), .int .u64 (dg (ab (n)) 0), .int .u64 (dg (ab (n)) 1), .int .u64 (dg (ab (n)) 2), .int .u64 (dg (ab (n)) 3)] 25 (0, 0)) ∧ Below w.heap.size w W) ⟨heap_old (heap_new _ _) _, heap_at (by simp) _, (by focus (repeat (first | (with_reducible exact Below.refl _ _) | (with_reducible assumption) | ((with_reducible refine Below.setCell ?_ ?_ _); rotate_left; (focus (first | omega | (simp; done) | (simp; omega)))) | ((with_reducible refine Below.alloc ?_ ?_ _); rotate_left; (focus (first | omega | (simp; done) | (simp; omega)))) | (with_reducible refine Below.drew ?_) | (refine below_on ?_ (by assumption)))))⟩ fun W1 ⟨g_a, g_b, gB⟩ => ?_
  clear hB hsz 
  have h_a := g_a
  have h_b := g_b
  have hB := gB
  clear gB g_a g_b
  have c_a := cell_at h_a
  go_wp2_with fail
  refine (neg_ok _ HX.out _).mono ?_
  rintro e w2 ⟨rfl, hb⟩
  have k_a := heap_below hb h_a
  have k_b := heap_below hb h_b
  have kB : Below w.heap.size w w2 := by
    have hsz := hB.size
    focus (repeat (first | (with_reducible exact Below.refl _ _) | (with_reducible assumption) | ((with_reducible refine Below.setCell ?_ ?_ _); rotate_left; (focus (first | omega | (simp; done) | (simp; omega)))) | ((with_reducible refine Below.alloc ?_ ?_ _); rotate_left; (focus (first | omega | (simp; done) | (simp; omega)))) | (with_reducible refine Below.drew ?_) | (refine below_on ?_ (by assumption))))
  clear hB hb h_a h_b
  have h_a := k_a
  have h_b := k_b
  have hB := kB
  clear kB k_a k_b
  have hsz := hB.size
  go_upto_region 2 with (fail)
  refine abs_wp (fun W => W.heap[w.heap.size]? = some (.cells #[.bool (ng (m)), .int .u64 (dg (ab (m)) 0), .int .u64 (dg (ab (m)) 1), .int .u64 (dg (ab (m)) 2), .int .u64 (dg (ab (m)) 3)] 25 (0, 0)) ∧ W.heap[w.heap.size + 1]? = some (.cells #[.bool (ng (n)), .int .u64 (dg (ab (n)) 0), .int .u64 (dg (ab (n)) 1), .int .u64 (dg (ab (n)) 2), .int .u64 (dg (ab (n)) 3)] 25 (0, 0)) ∧ W.heap[w2.heap.size]? = some (.cells #[.bool (ng (-m)), .int .u64 (dg (ab (-m)) 0), .int .u64 (dg (ab (-m)) 1), .int .u64 (dg (ab (-m)) 2), .int .u64 (dg (ab (-m)) 3)] 25 (0, 0)) ∧ Below w.heap.size w W) ⟨heap_old (h_a) _, heap_old (h_b) _, heap_new _ _, (by focus (repeat (first | (with_reducible exact Below.refl _ _) | (with_reducible assumption) | ((with_reducible refine Below.setCell ?_ ?_ _); rotate_left; (focus (first | omega | (simp; done) | (simp; omega)))) | ((with_reducible refine Below.alloc ?_ ?_ _); rotate_left; (focus (first | omega | (simp; done) | (simp; omega)))) | (with_reducible refine Below.drew ?_) | (refine below_on ?_ (by assumption)))))⟩ fun W3 ⟨g_a, g_b, g_x, gB⟩ => ?_
  clear hB hsz h_a h_b
  have h_a := g_a
  have h_b := g_b
  have h_x := g_x
  have hB := gB
  clear gB g_a g_b g_x
  have c_b := cell_at h_b
  go_wp2_with fail
  refine (neg_ok _ HY.out _).mono ?_
  rintro e w4 ⟨rfl, hb⟩
  have k_a := heap_below hb h_a
  have k_b := heap_below hb h_b
  have k_x := heap_below hb h_x
  have kB : Below w.heap.size w w4 := by
    have hsz := hB.size
    focus (repeat (first | (with_reducible exact Below.refl _ _) | (with_reducible assumption) | ((with_reducible refine Below.setCell ?_ ?_ _); rotate_left; (focus (first | omega | (simp; done) | (simp; omega)))) | ((with_reducible refine Below.alloc ?_ ?_ _); rotate_left; (focus (first | omega | (simp; done) | (simp; omega)))) | (with_reducible refine Below.drew ?_) | (refine below_on ?_ (by assumption))))
  clear hB hb h_a h_b h_x
  have h_a := k_a
  have h_b := k_b
  have h_x := k_x
  have hB := kB
  clear kB k_a k_b k_x
  have hsz := hB.size
  go_upto_region 3 with (fail)
  refine abs_wp (fun W => W.heap[w.heap.size]? = some (.cells #[.bool (ng (m)), .int .u64 (dg (ab (m)) 0), .int .u64 (dg (ab (m)) 1), .int .u64 (dg (ab (m)) 2), .int .u64 (dg (ab (m)) 3)] 25 (0, 0)) ∧ W.heap[w.heap.size + 1]? = some (.cells #[.bool (ng (n)), .int .u64 (dg (ab (n)) 0), .int .u64 (dg (ab (n)) 1), .int .u64 (dg (ab (n)) 2), .int .u64 (dg (ab (n)) 3)] 25 (0, 0)) ∧ W.heap[w2.heap.size]? = some (.cells #[.bool (ng (-m)), .int .u64 (dg (ab (-m)) 0), .int .u64 (dg (ab (-m)) 1), .int .u64 (dg (ab (-m)) 2), .int .u64 (dg (ab (-m)) 3)] 25 (0, 0)) ∧ W.heap[w4.heap.size]? = some (.cells #[.bool (ng (-n)), .int .u64 (dg (ab (-n)) 0), .int .u64 (dg (ab (-n)) 1), .int .u64 (dg (ab (-n)) 2), .int .u64 (dg (ab (-n)) 3)] 25 (0, 0)) ∧ Below w.heap.size w W) ⟨heap_old (h_a) _, heap_old (h_b) _, heap_old (h_x) _, heap_new _ _, (by focus (repeat (first | (with_reducible exact Below.refl _ _) | (with_reducible assumption) | ((with_reducible refine Below.setCell ?_ ?_ _); rotate_left; (focus (first | omega | (simp; done) | (simp; omega)))) | ((with_reducible refine Below.alloc ?_ ?_ _); rotate_left; (focus (first | omega | (simp; done) | (simp; omega)))) | (with_reducible refine Below.drew ?_) | (refine below_on ?_ (by assumption)))))⟩ fun W5 ⟨g_a, g_b, g_x, g_y, gB⟩ => ?_
  clear hB hsz h_a h_b h_x
  have h_a := g_a
  have h_b := g_b
  have h_x := g_x
  have h_y := g_y
  have hB := gB
  clear gB g_a g_b g_x g_y
  go_upto_region 5 with ((go_at_call 14; refine (num_s _ _).mono ?_; rintro e w' ⟨rfl, rfl⟩))
  refine abs_wp (fun W => W.heap[w.heap.size]? = some (.cells #[.bool (ng (m)), .int .u64 (dg (ab (m)) 0), .int .u64 (dg (ab (m)) 1), .int .u64 (dg (ab (m)) 2), .int .u64 (dg (ab (m)) 3)] 25 (0, 0)) ∧ W.heap[w.heap.size + 1]? = some (.cells #[.bool (ng (n)), .int .u64 (dg (ab (n)) 0), .int .u64 (dg (ab (n)) 1), .int .u64 (dg (ab (n)) 2), .int .u64 (dg (ab (n)) 3)] 25 (0, 0)) ∧ W.heap[w2.heap.size]? = some (.cells #[.bool (ng (-m)), .int .u64 (dg (ab (-m)) 0), .int .u64 (dg (ab (-m)) 1), .int .u64 (dg (ab (-m)) 2), .int .u64 (dg (ab (-m)) 3)] 25 (0, 0)) ∧ W.heap[w4.heap.size]? = some (.cells #[.bool (ng (-n)), .int .u64 (dg (ab (-n)) 0), .int .u64 (dg (ab (-n)) 1), .int .u64 (dg (ab (-n)) 2), .int .u64 (dg (ab (-n)) 3)] 25 (0, 0)) ∧ Below w.heap.size w W) ⟨h_a, h_b, h_x, h_y, (by focus (repeat (first | (with_reducible exact Below.refl _ _) | (with_reducible assumption) | ((with_reducible refine Below.setCell ?_ ?_ _); rotate_left; (focus (first | omega | (simp; done) | (simp; omega)))) | ((with_reducible refine Below.alloc ?_ ?_ _); rotate_left; (focus (first | omega | (simp; done) | (simp; omega)))) | (with_reducible refine Below.drew ?_) | (refine below_on ?_ (by assumption)))))⟩ fun W6 ⟨g_a, g_b, g_x, g_y, gB⟩ => ?_
  clear hB h_a h_b h_x h_y
  have h_a := g_a
  have h_b := g_b
  have h_x := g_x
  have h_y := g_y
  have hB := gB
  clear gB g_a g_b g_x g_y
  have c_a := cell_at h_a
  have c_b := cell_at h_b
  go_wp2_with fail
  refine (add_at _ _ [m, n] (m + n) 0 _ (ints_two_z (b := W6.heap.size) HX.out HY.out (by focus (repeat (first | (with_reducible exact heap_at (by first | rfl | (simp; done) | (simp; omega)) _) | (with_reducible refine heap_old ?_ _))))) HA.out.1 HA.out.2.1).mono ?_
  rintro e w7 ⟨rfl, hb⟩
  have k_a := heap_below hb (heap_old h_a _)
  have k_b := heap_below hb (heap_old h_b _)
  have k_x := heap_below hb (heap_old h_x _)
  have k_y := heap_below hb (heap_old h_y _)
  have kB : Below w.heap.size w w7 := by
    have hsz := hB.size
    focus (repeat (first | (with_reducible exact Below.refl _ _) | (with_reducible assumption) | ((with_reducible refine Below.setCell ?_ ?_ _); rotate_left; (focus (first | omega | (simp; done) | (simp; omega)))) | ((with_reducible refine Below.alloc ?_ ?_ _); rotate_left; (focus (first | omega | (simp; done) | (simp; omega)))) | (with_reducible refine Below.drew ?_) | (refine below_on ?_ (by assumption))))
  clear hB hb h_a h_b h_x h_y
  have h_a := k_a
  have h_b := k_b
  have h_x := k_x
  have h_y := k_y
  have hB := kB
  clear kB k_a k_b k_x k_y
  go_wp2_with fail
  refine (sure_any (m + n) 0 _).mono ?_
  rintro e w8 ⟨rfl, hb⟩
  have k_a := heap_below hb h_a
  have k_b := heap_below hb h_b
  have k_x := heap_below hb h_x
  have k_y := heap_below hb h_y
  have kB : Below w.heap.size w w8 := by
    have hsz := hB.size
    focus (repeat (first | (with_reducible exact Below.refl _ _) | (with_reducible assumption) | ((with_reducible refine Below.setCell ?_ ?_ _); rotate_left; (focus (first | omega | (simp; done) | (simp; omega)))) | ((with_reducible refine Below.alloc ?_ ?_ _); rotate_left; (focus (first | omega | (simp; done) | (simp; omega)))) | (with_reducible refine Below.drew ?_) | (refine below_on ?_ (by assumption))))
  clear hB hb h_a h_b h_x h_y
  have h_a := k_a
  have h_b := k_b
  have h_x := k_x
  have h_y := k_y
  have hB := kB
  clear kB k_a k_b k_x k_y
  have hsz := hB.size
  go_upto_region 7 with (fail)
  refine abs_wp (fun W => W.heap[w.heap.size]? = some (.cells #[.bool (ng (m)), .int .u64 (dg (ab (m)) 0), .int .u64 (dg (ab (m)) 1), .int .u64 (dg (ab (m)) 2), .int .u64 (dg (ab (m)) 3)] 25 (0, 0)) ∧ W.heap[w.heap.size + 1]? = some (.cells #[.bool (ng (n)), .int .u64 (dg (ab (n)) 0), .int .u64 (dg (ab (n)) 1), .int .u64 (dg (ab (n)) 2), .int .u64 (dg (ab (n)) 3)] 25 (0, 0)) ∧ W.heap[w2.heap.size]? = some (.cells #[.bool (ng (-m)), .int .u64 (dg (ab (-m)) 0), .int .u64 (dg (ab (-m)) 1), .int .u64 (dg (ab (-m)) 2), .int .u64 (dg (ab (-m)) 3)] 25 (0, 0)) ∧ W.heap[w4.heap.size]? = some (.cells #[.bool (ng (-n)), .int .u64 (dg (ab (-n)) 0), .int .u64 (dg (ab (-n)) 1), .int .u64 (dg (ab (-n)) 2), .int .u64 (dg (ab (-n)) 3)] 25 (0, 0)) ∧ W.heap[w8.heap.size]? = some (.cells #[.bool (ng (m + n)), .int .u64 (dg (ab (m + n)) 0), .int .u64 (dg (ab (m + n)) 1), .int .u64 (dg (ab (m + n)) 2), .int .u64 (dg (ab (m + n)) 3)] 25 (0, 0)) ∧ Below w.heap.size w W) ⟨heap_old (h_a) _, heap_old (h_b) _, heap_old (h_x) _, heap_old (h_y) _, heap_new _ _, (by focus (repeat (first | (with_reducible exact Below.refl _ _) | (with_reducible assumption) | ((with_reducible refine Below.setCell ?_ ?_ _); rotate_left; (focus (first | omega | (simp; done) | (simp; omega)))) | ((with_reducible refine Below.alloc ?_ ?_ _); rotate_left; (focus (first | omega | (simp; done) | (simp; omega)))) | (with_reducible refine Below.drew ?_) | (refine below_on ?_ (by assumption)))))⟩ fun W9 ⟨g_a, g_b, g_x, g_y, g_s, gB⟩ => ?_
  clear hB hsz h_a h_b h_x h_y
  have h_a := g_a
  have h_b := g_b
  have h_x := g_x
  have h_y := g_y
  have h_s := g_s
  have hB := gB
  clear gB g_a g_b g_x g_y g_s
  have c_x := cell_at h_x
  have c_y := cell_at h_y
  go_wp2_with fail
  refine (add_at _ _ [-m, -n] (-(m + n)) 0 _ (ints_two_z (b := W9.heap.size) HX2.out HY2.out (by focus (repeat (first | (with_reducible exact heap_at (by first | rfl | (simp; done) | (simp; omega)) _) | (with_reducible refine heap_old ?_ _))))) HA.out.2.2.1 HA.out.2.2.2.1).mono ?_
  rintro e w10 ⟨rfl, hb⟩
  have k_a := heap_below hb (heap_old h_a _)
  have k_b := heap_below hb (heap_old h_b _)
  have k_x := heap_below hb (heap_old h_x _)
  have k_y := heap_below hb (heap_old h_y _)
  have k_s := heap_below hb (heap_old h_s _)
  have kB : Below w.heap.size w w10 := by
    have hsz := hB.size
    focus (repeat (first | (with_reducible exact Below.refl _ _) | (with_reducible assumption) | ((with_reducible refine Below.setCell ?_ ?_ _); rotate_left; (focus (first | omega | (simp; done) | (simp; omega)))) | ((with_reducible refine Below.alloc ?_ ?_ _); rotate_left; (focus (first | omega | (simp; done) | (simp; omega)))) | (with_reducible refine Below.drew ?_) | (refine below_on ?_ (by assumption))))
  clear hB hb h_a h_b h_x h_y h_s
  have h_a := k_a
  have h_b := k_b
  have h_x := k_x
  have h_y := k_y
  have h_s := k_s
  have hB := kB
  clear kB k_a k_b k_x k_y k_s
  go_wp2_with fail
  refine (sure_any (-(m + n)) 0 _).mono ?_
  rintro e w11 ⟨rfl, hb⟩
  have k_a := heap_below hb h_a
  have k_b := heap_below hb h_b
  have k_x := heap_below hb h_x
  have k_y := heap_below hb h_y
  have k_s := heap_below hb h_s
  have kB : Below w.heap.size w w11 := by
    have hsz := hB.size
    focus (repeat (first | (with_reducible exact Below.refl _ _) | (with_reducible assumption) | ((with_reducible refine Below.setCell ?_ ?_ _); rotate_left; (focus (first | omega | (simp; done) | (simp; omega)))) | ((with_reducible refine Below.alloc ?_ ?_ _); rotate_left; (focus (first | omega | (simp; done) | (simp; omega)))) | (with_reducible refine Below.drew ?_) | (refine below_on ?_ (by assumption))))
  clear hB hb h_a h_b h_x h_y h_s
  have h_a := k_a
  have h_b := k_b
  have h_x := k_x
  have h_y := k_y
  have h_s := k_s
  have hB := kB
  clear kB k_a k_b k_x k_y k_s
  have hsz := hB.size
  go_upto_region 8 with (fail)
  refine abs_wp (fun W => W.heap[w.heap.size]? = some (.cells #[.bool (ng (m)), .int .u64 (dg (ab (m)) 0), .int .u64 (dg (ab (m)) 1), .int .u64 (dg (ab (m)) 2), .int .u64 (dg (ab (m)) 3)] 25 (0, 0)) ∧ W.heap[w.heap.size + 1]? = some (.cells #[.bool (ng (n)), .int .u64 (dg (ab (n)) 0), .int .u64 (dg (ab (n)) 1), .int .u64 (dg (ab (n)) 2), .int .u64 (dg (ab (n)) 3)] 25 (0, 0)) ∧ W.heap[w2.heap.size]? = some (.cells #[.bool (ng (-m)), .int .u64 (dg (ab (-m)) 0), .int .u64 (dg (ab (-m)) 1), .int .u64 (dg (ab (-m)) 2), .int .u64 (dg (ab (-m)) 3)] 25 (0, 0)) ∧ W.heap[w4.heap.size]? = some (.cells #[.bool (ng (-n)), .int .u64 (dg (ab (-n)) 0), .int .u64 (dg (ab (-n)) 1), .int .u64 (dg (ab (-n)) 2), .int .u64 (dg (ab (-n)) 3)] 25 (0, 0)) ∧ W.heap[w8.heap.size]? = some (.cells #[.bool (ng (m + n)), .int .u64 (dg (ab (m + n)) 0), .int .u64 (dg (ab (m + n)) 1), .int .u64 (dg (ab (m + n)) 2), .int .u64 (dg (ab (m + n)) 3)] 25 (0, 0)) ∧ W.heap[w11.heap.size]? = some (.cells #[.bool (ng (-(m + n))), .int .u64 (dg (ab (-(m + n))) 0), .int .u64 (dg (ab (-(m + n))) 1), .int .u64 (dg (ab (-(m + n))) 2), .int .u64 (dg (ab (-(m + n))) 3)] 25 (0, 0)) ∧ Below w.heap.size w W) ⟨heap_old (h_a) _, heap_old (h_b) _, heap_old (h_x) _, heap_old (h_y) _, heap_old (h_s) _, heap_new _ _, (by focus (repeat (first | (with_reducible exact Below.refl _ _) | (with_reducible assumption) | ((with_reducible refine Below.setCell ?_ ?_ _); rotate_left; (focus (first | omega | (simp; done) | (simp; omega)))) | ((with_reducible refine Below.alloc ?_ ?_ _); rotate_left; (focus (first | omega | (simp; done) | (simp; omega)))) | (with_reducible refine Below.drew ?_) | (refine below_on ?_ (by assumption)))))⟩ fun W12 ⟨g_a, g_b, g_x, g_y, g_s, g_t, gB⟩ => ?_
  clear hB hsz h_a h_b h_x h_y h_s
  have h_a := g_a
  have h_b := g_b
  have h_x := g_x
  have h_y := g_y
  have h_s := g_s
  have h_t := g_t
  have hB := gB
  clear gB g_a g_b g_x g_y g_s g_t
  have c_t := cell_at h_t
  go_wp2_with fail
  refine (neg_at (-(m + n)) (m + n) HA.out.2.2.2.2.1 (Int.neg_neg _) _).mono ?_
  rintro e w13 ⟨rfl, hb⟩
  have k_a := heap_below hb h_a
  have k_b := heap_below hb h_b
  have k_x := heap_below hb h_x
  have k_y := heap_below hb h_y
  have k_s := heap_below hb h_s
  have k_t := heap_below hb h_t
  have kB : Below w.heap.size w w13 := by
    have hsz := hB.size
    focus (repeat (first | (with_reducible exact Below.refl _ _) | (with_reducible assumption) | ((with_reducible refine Below.setCell ?_ ?_ _); rotate_left; (focus (first | omega | (simp; done) | (simp; omega)))) | ((with_reducible refine Below.alloc ?_ ?_ _); rotate_left; (focus (first | omega | (simp; done) | (simp; omega)))) | (with_reducible refine Below.drew ?_) | (refine below_on ?_ (by assumption))))
  clear hB hb h_a h_b h_x h_y h_s h_t
  have h_a := k_a
  have h_b := k_b
  have h_x := k_x
  have h_y := k_y
  have h_s := k_s
  have h_t := k_t
  have hB := kB
  clear kB k_a k_b k_x k_y k_s k_t
  go_wp2_with fail
  refine (sure_any (m + n) 0 _).mono ?_
  rintro e w14 ⟨rfl, hb⟩
  have k_a := heap_below hb h_a
  have k_b := heap_below hb h_b
  have k_x := heap_below hb h_x
  have k_y := heap_below hb h_y
  have k_s := heap_below hb h_s
  have k_t := heap_below hb h_t
  have kB : Below w.heap.size w w14 := by
    have hsz := hB.size
    focus (repeat (first | (with_reducible exact Below.refl _ _) | (with_reducible assumption) | ((with_reducible refine Below.setCell ?_ ?_ _); rotate_left; (focus (first | omega | (simp; done) | (simp; omega)))) | ((with_reducible refine Below.alloc ?_ ?_ _); rotate_left; (focus (first | omega | (simp; done) | (simp; omega)))) | (with_reducible refine Below.drew ?_) | (refine below_on ?_ (by assumption))))
  clear hB hb h_a h_b h_x h_y h_s h_t
  have h_a := k_a
  have h_b := k_b
  have h_x := k_x
  have h_y := k_y
  have h_s := k_s
  have h_t := k_t
  have hB := kB
  clear kB k_a k_b k_x k_y k_s k_t
  have hsz := hB.size
  go_upto_region 9 with (fail)
  refine abs_wp (fun W => W.heap[w.heap.size]? = some (.cells #[.bool (ng (m)), .int .u64 (dg (ab (m)) 0), .int .u64 (dg (ab (m)) 1), .int .u64 (dg (ab (m)) 2), .int .u64 (dg (ab (m)) 3)] 25 (0, 0)) ∧ W.heap[w.heap.size + 1]? = some (.cells #[.bool (ng (n)), .int .u64 (dg (ab (n)) 0), .int .u64 (dg (ab (n)) 1), .int .u64 (dg (ab (n)) 2), .int .u64 (dg (ab (n)) 3)] 25 (0, 0)) ∧ W.heap[w2.heap.size]? = some (.cells #[.bool (ng (-m)), .int .u64 (dg (ab (-m)) 0), .int .u64 (dg (ab (-m)) 1), .int .u64 (dg (ab (-m)) 2), .int .u64 (dg (ab (-m)) 3)] 25 (0, 0)) ∧ W.heap[w4.heap.size]? = some (.cells #[.bool (ng (-n)), .int .u64 (dg (ab (-n)) 0), .int .u64 (dg (ab (-n)) 1), .int .u64 (dg (ab (-n)) 2), .int .u64 (dg (ab (-n)) 3)] 25 (0, 0)) ∧ W.heap[w8.heap.size]? = some (.cells #[.bool (ng (m + n)), .int .u64 (dg (ab (m + n)) 0), .int .u64 (dg (ab (m + n)) 1), .int .u64 (dg (ab (m + n)) 2), .int .u64 (dg (ab (m + n)) 3)] 25 (0, 0)) ∧ W.heap[w11.heap.size]? = some (.cells #[.bool (ng (-(m + n))), .int .u64 (dg (ab (-(m + n))) 0), .int .u64 (dg (ab (-(m + n))) 1), .int .u64 (dg (ab (-(m + n))) 2), .int .u64 (dg (ab (-(m + n))) 3)] 25 (0, 0)) ∧ W.heap[w14.heap.size]? = some (.cells #[.bool (ng (m + n)), .int .u64 (dg (ab (m + n)) 0), .int .u64 (dg (ab (m + n)) 1), .int .u64 (dg (ab (m + n)) 2), .int .u64 (dg (ab (m + n)) 3)] 25 (0, 0)) ∧ Below w.heap.size w W) ⟨heap_old (h_a) _, heap_old (h_b) _, heap_old (h_x) _, heap_old (h_y) _, heap_old (h_s) _, heap_old (h_t) _, heap_new _ _, (by focus (repeat (first | (with_reducible exact Below.refl _ _) | (with_reducible assumption) | ((with_reducible refine Below.setCell ?_ ?_ _); rotate_left; (focus (first | omega | (simp; done) | (simp; omega)))) | ((with_reducible refine Below.alloc ?_ ?_ _); rotate_left; (focus (first | omega | (simp; done) | (simp; omega)))) | (with_reducible refine Below.drew ?_) | (refine below_on ?_ (by assumption)))))⟩ fun W15 ⟨g_a, g_b, g_x, g_y, g_s, g_t, g_u, gB⟩ => ?_
  clear hB hsz h_a h_b h_x h_y h_s h_t
  have h_a := g_a
  have h_b := g_b
  have h_x := g_x
  have h_y := g_y
  have h_s := g_s
  have h_t := g_t
  have h_u := g_u
  have hB := gB
  clear gB g_a g_b g_x g_y g_s g_t g_u
  have c_u := cell_at h_u
  have c_s := cell_at h_s
  go_upto_region 11 with (fail)
  refine abs_wp (fun W => W.heap[w.heap.size]? = some (.cells #[.bool (ng (m)), .int .u64 (dg (ab (m)) 0), .int .u64 (dg (ab (m)) 1), .int .u64 (dg (ab (m)) 2), .int .u64 (dg (ab (m)) 3)] 25 (0, 0)) ∧ W.heap[w.heap.size + 1]? = some (.cells #[.bool (ng (n)), .int .u64 (dg (ab (n)) 0), .int .u64 (dg (ab (n)) 1), .int .u64 (dg (ab (n)) 2), .int .u64 (dg (ab (n)) 3)] 25 (0, 0)) ∧ W.heap[w2.heap.size]? = some (.cells #[.bool (ng (-m)), .int .u64 (dg (ab (-m)) 0), .int .u64 (dg (ab (-m)) 1), .int .u64 (dg (ab (-m)) 2), .int .u64 (dg (ab (-m)) 3)] 25 (0, 0)) ∧ Below w.heap.size w W) ⟨h_a, h_b, h_x, (by focus (repeat (first | (with_reducible exact Below.refl _ _) | (with_reducible assumption) | ((with_reducible refine Below.setCell ?_ ?_ _); rotate_left; (focus (first | omega | (simp; done) | (simp; omega)))) | ((with_reducible refine Below.alloc ?_ ?_ _); rotate_left; (focus (first | omega | (simp; done) | (simp; omega)))) | (with_reducible refine Below.drew ?_) | (refine below_on ?_ (by assumption)))))⟩ fun W16 ⟨g_a, g_b, g_x, gB⟩ => ?_
  clear hB h_a h_b h_x h_y h_s h_t h_u
  have h_a := g_a
  have h_b := g_b
  have h_x := g_x
  have hB := gB
  clear gB g_a g_b g_x
  have c_a := cell_at h_a
  have c_b := cell_at h_b
  go_wp2_with fail
  refine (mul_at _ _ [m, n] (0) 110 _ (ints_two_z (b := W16.heap.size) HX.out HY.out (by focus (repeat (first | (with_reducible exact heap_at (by first | rfl | (simp; done) | (simp; omega)) _) | (with_reducible refine heap_old ?_ _))))) HM.out.1 HM.out.2).mono ?_
  rintro e w17 ⟨rfl, hb⟩
  have k_a := heap_below hb (heap_old h_a _)
  have k_b := heap_below hb (heap_old h_b _)
  have k_x := heap_below hb (heap_old h_x _)
  have kB : Below w.heap.size w w17 := by
    have hsz := hB.size
    focus (repeat (first | (with_reducible exact Below.refl _ _) | (with_reducible assumption) | ((with_reducible refine Below.setCell ?_ ?_ _); rotate_left; (focus (first | omega | (simp; done) | (simp; omega)))) | ((with_reducible refine Below.alloc ?_ ?_ _); rotate_left; (focus (first | omega | (simp; done) | (simp; omega)))) | (with_reducible refine Below.drew ?_) | (refine below_on ?_ (by assumption))))
  clear hB hb h_a h_b h_x
  have h_a := k_a
  have h_b := k_b
  have h_x := k_x
  have hB := kB
  clear kB k_a k_b k_x
  go_wp2_with fail
  refine (sure_any (0) 110 _).mono ?_
  rintro e w18 ⟨rfl, hb⟩
  have k_a := heap_below hb h_a
  have k_b := heap_below hb h_b
  have k_x := heap_below hb h_x
  have kB : Below w.heap.size w w18 := by
    have hsz := hB.size
    focus (repeat (first | (with_reducible exact Below.refl _ _) | (with_reducible assumption) | ((with_reducible refine Below.setCell ?_ ?_ _); rotate_left; (focus (first | omega | (simp; done) | (simp; omega)))) | ((with_reducible refine Below.alloc ?_ ?_ _); rotate_left; (focus (first | omega | (simp; done) | (simp; omega)))) | (with_reducible refine Below.drew ?_) | (refine below_on ?_ (by assumption))))
  clear hB hb h_a h_b h_x
  have h_a := k_a
  have h_b := k_b
  have h_x := k_x
  have hB := kB
  clear kB k_a k_b k_x
  have hsz := hB.size
  go_upto_region 17 with (fail)
  refine abs_wp (fun W => W.heap[w.heap.size]? = some (.cells #[.bool (ng (m)), .int .u64 (dg (ab (m)) 0), .int .u64 (dg (ab (m)) 1), .int .u64 (dg (ab (m)) 2), .int .u64 (dg (ab (m)) 3)] 25 (0, 0)) ∧ W.heap[w.heap.size + 1]? = some (.cells #[.bool (ng (n)), .int .u64 (dg (ab (n)) 0), .int .u64 (dg (ab (n)) 1), .int .u64 (dg (ab (n)) 2), .int .u64 (dg (ab (n)) 3)] 25 (0, 0)) ∧ W.heap[w2.heap.size]? = some (.cells #[.bool (ng (-m)), .int .u64 (dg (ab (-m)) 0), .int .u64 (dg (ab (-m)) 1), .int .u64 (dg (ab (-m)) 2), .int .u64 (dg (ab (-m)) 3)] 25 (0, 0)) ∧ W.heap[w18.heap.size]? = some (.cells #[.bool (ng (0)), .int .u64 (dg (ab (0)) 0), .int .u64 (dg (ab (0)) 1), .int .u64 (dg (ab (0)) 2), .int .u64 (dg (ab (0)) 3)] 25 (0, 0)) ∧ Below w.heap.size w W) ⟨heap_old (h_a) _, heap_old (h_b) _, heap_old (h_x) _, heap_new _ _, (by focus (repeat (first | (with_reducible exact Below.refl _ _) | (with_reducible assumption) | ((with_reducible refine Below.setCell ?_ ?_ _); rotate_left; (focus (first | omega | (simp; done) | (simp; omega)))) | ((with_reducible refine Below.alloc ?_ ?_ _); rotate_left; (focus (first | omega | (simp; done) | (simp; omega)))) | (with_reducible refine Below.drew ?_) | (refine below_on ?_ (by assumption)))))⟩ fun W19 ⟨g_a, g_b, g_x, g_s, gB⟩ => ?_
  clear hB hsz h_a h_b h_x
  have h_a := g_a
  have h_b := g_b
  have h_x := g_x
  have h_s := g_s
  have hB := gB
  clear gB g_a g_b g_x g_s
  have c_a := cell_at h_a
  have c_b := cell_at h_b
  go_wp2_with fail
  refine (gcd_at _ _ ((Nat.gcd (ab m) (ab n) : Nat) : Int) HX.out HY.out rfl _).mono ?_
  rintro e w20 ⟨rfl, hb⟩
  have k_a := heap_below hb h_a
  have k_b := heap_below hb h_b
  have k_x := heap_below hb h_x
  have k_s := heap_below hb h_s
  have kB : Below w.heap.size w w20 := by
    have hsz := hB.size
    focus (repeat (first | (with_reducible exact Below.refl _ _) | (with_reducible assumption) | ((with_reducible refine Below.setCell ?_ ?_ _); rotate_left; (focus (first | omega | (simp; done) | (simp; omega)))) | ((with_reducible refine Below.alloc ?_ ?_ _); rotate_left; (focus (first | omega | (simp; done) | (simp; omega)))) | (with_reducible refine Below.drew ?_) | (refine below_on ?_ (by assumption))))
  clear hB hb h_a h_b h_x h_s
  have h_a := k_a
  have h_b := k_b
  have h_x := k_x
  have h_s := k_s
  have hB := kB
  clear kB k_a k_b k_x k_s
  have hsz := hB.size
  go_upto_region 18 with (fail)
  refine abs_wp (fun W => W.heap[w.heap.size]? = some (.cells #[.bool (ng (m)), .int .u64 (dg (ab (m)) 0), .int .u64 (dg (ab (m)) 1), .int .u64 (dg (ab (m)) 2), .int .u64 (dg (ab (m)) 3)] 25 (0, 0)) ∧ W.heap[w.heap.size + 1]? = some (.cells #[.bool (ng (n)), .int .u64 (dg (ab (n)) 0), .int .u64 (dg (ab (n)) 1), .int .u64 (dg (ab (n)) 2), .int .u64 (dg (ab (n)) 3)] 25 (0, 0)) ∧ W.heap[w2.heap.size]? = some (.cells #[.bool (ng (-m)), .int .u64 (dg (ab (-m)) 0), .int .u64 (dg (ab (-m)) 1), .int .u64 (dg (ab (-m)) 2), .int .u64 (dg (ab (-m)) 3)] 25 (0, 0)) ∧ W.heap[w18.heap.size]? = some (.cells #[.bool (ng (0)), .int .u64 (dg (ab (0)) 0), .int .u64 (dg (ab (0)) 1), .int .u64 (dg (ab (0)) 2), .int .u64 (dg (ab (0)) 3)] 25 (0, 0)) ∧ W.heap[w20.heap.size]? = some (.cells #[.bool (ng (((Nat.gcd (ab m) (ab n) : Nat) : Int))), .int .u64 (dg (ab (((Nat.gcd (ab m) (ab n) : Nat) : Int))) 0), .int .u64 (dg (ab (((Nat.gcd (ab m) (ab n) : Nat) : Int))) 1), .int .u64 (dg (ab (((Nat.gcd (ab m) (ab n) : Nat) : Int))) 2), .int .u64 (dg (ab (((Nat.gcd (ab m) (ab n) : Nat) : Int))) 3)] 25 (0, 0)) ∧ Below w.heap.size w W) ⟨heap_old (h_a) _, heap_old (h_b) _, heap_old (h_x) _, heap_old (h_s) _, heap_new _ _, (by focus (repeat (first | (with_reducible exact Below.refl _ _) | (with_reducible assumption) | ((with_reducible refine Below.setCell ?_ ?_ _); rotate_left; (focus (first | omega | (simp; done) | (simp; omega)))) | ((with_reducible refine Below.alloc ?_ ?_ _); rotate_left; (focus (first | omega | (simp; done) | (simp; omega)))) | (with_reducible refine Below.drew ?_) | (refine below_on ?_ (by assumption)))))⟩ fun W21 ⟨g_a, g_b, g_x, g_s, g_g, gB⟩ => ?_
  clear hB hsz h_a h_b h_x h_s
  have h_a := g_a
  have h_b := g_b
  have h_x := g_x
  have h_s := g_s
  have h_g := g_g
  have hB := gB
  clear gB g_a g_b g_x g_s g_g
  have c_x := cell_at h_x
  have c_b := cell_at h_b
  go_wp2_with fail
  refine (gcd_at _ _ ((Nat.gcd (ab m) (ab n) : Nat) : Int) HX2.out HY.out (by rw [ab_neg']) _).mono ?_
  rintro e w22 ⟨rfl, hb⟩
  have k_a := heap_below hb h_a
  have k_b := heap_below hb h_b
  have k_x := heap_below hb h_x
  have k_s := heap_below hb h_s
  have k_g := heap_below hb h_g
  have kB : Below w.heap.size w w22 := by
    have hsz := hB.size
    focus (repeat (first | (with_reducible exact Below.refl _ _) | (with_reducible assumption) | ((with_reducible refine Below.setCell ?_ ?_ _); rotate_left; (focus (first | omega | (simp; done) | (simp; omega)))) | ((with_reducible refine Below.alloc ?_ ?_ _); rotate_left; (focus (first | omega | (simp; done) | (simp; omega)))) | (with_reducible refine Below.drew ?_) | (refine below_on ?_ (by assumption))))
  clear hB hb h_a h_b h_x h_s h_g
  have h_a := k_a
  have h_b := k_b
  have h_x := k_x
  have h_s := k_s
  have h_g := k_g
  have hB := kB
  clear kB k_a k_b k_x k_s k_g
  have hsz := hB.size
  go_upto_region 19 with (fail)
  refine abs_wp (fun W => W.heap[w.heap.size]? = some (.cells #[.bool (ng (m)), .int .u64 (dg (ab (m)) 0), .int .u64 (dg (ab (m)) 1), .int .u64 (dg (ab (m)) 2), .int .u64 (dg (ab (m)) 3)] 25 (0, 0)) ∧ W.heap[w.heap.size + 1]? = some (.cells #[.bool (ng (n)), .int .u64 (dg (ab (n)) 0), .int .u64 (dg (ab (n)) 1), .int .u64 (dg (ab (n)) 2), .int .u64 (dg (ab (n)) 3)] 25 (0, 0)) ∧ W.heap[w2.heap.size]? = some (.cells #[.bool (ng (-m)), .int .u64 (dg (ab (-m)) 0), .int .u64 (dg (ab (-m)) 1), .int .u64 (dg (ab (-m)) 2), .int .u64 (dg (ab (-m)) 3)] 25 (0, 0)) ∧ W.heap[w18.heap.size]? = some (.cells #[.bool (ng (0)), .int .u64 (dg (ab (0)) 0), .int .u64 (dg (ab (0)) 1), .int .u64 (dg (ab (0)) 2), .int .u64 (dg (ab (0)) 3)] 25 (0, 0)) ∧ W.heap[w20.heap.size]? = some (.cells #[.bool (ng (((Nat.gcd (ab m) (ab n) : Nat) : Int))), .int .u64 (dg (ab (((Nat.gcd (ab m) (ab n) : Nat) : Int))) 0), .int .u64 (dg (ab (((Nat.gcd (ab m) (ab n) : Nat) : Int))) 1), .int .u64 (dg (ab (((Nat.gcd (ab m) (ab n) : Nat) : Int))) 2), .int .u64 (dg (ab (((Nat.gcd (ab m) (ab n) : Nat) : Int))) 3)] 25 (0, 0)) ∧ W.heap[w22.heap.size]? = some (.cells #[.bool (ng (((Nat.gcd (ab m) (ab n) : Nat) : Int))), .int .u64 (dg (ab (((Nat.gcd (ab m) (ab n) : Nat) : Int))) 0), .int .u64 (dg (ab (((Nat.gcd (ab m) (ab n) : Nat) : Int))) 1), .int .u64 (dg (ab (((Nat.gcd (ab m) (ab n) : Nat) : Int))) 2), .int .u64 (dg (ab (((Nat.gcd (ab m) (ab n) : Nat) : Int))) 3)] 25 (0, 0)) ∧ Below w.heap.size w W) ⟨heap_old (h_a) _, heap_old (h_b) _, heap_old (h_x) _, heap_old (h_s) _, heap_old (h_g) _, heap_new _ _, (by focus (repeat (first | (with_reducible exact Below.refl _ _) | (with_reducible assumption) | ((with_reducible refine Below.setCell ?_ ?_ _); rotate_left; (focus (first | omega | (simp; done) | (simp; omega)))) | ((with_reducible refine Below.alloc ?_ ?_ _); rotate_left; (focus (first | omega | (simp; done) | (simp; omega)))) | (with_reducible refine Below.drew ?_) | (refine below_on ?_ (by assumption)))))⟩ fun W23 ⟨g_a, g_b, g_x, g_s, g_g, g_i, gB⟩ => ?_
  clear hB hsz h_a h_b h_x h_s h_g
  have h_a := g_a
  have h_b := g_b
  have h_x := g_x
  have h_s := g_s
  have h_g := g_g
  have h_i := g_i
  have hB := gB
  clear gB g_a g_b g_x g_s g_g g_i
  have c_g := cell_at h_g
  have c_i := cell_at h_i
  go_upto_region 21 with ((go_at_call 14; refine (num_s _ _).mono ?_; rintro e w' ⟨rfl, rfl⟩))
  refine abs_wp (fun W => W.heap[w.heap.size]? = some (.cells #[.bool (ng (m)), .int .u64 (dg (ab (m)) 0), .int .u64 (dg (ab (m)) 1), .int .u64 (dg (ab (m)) 2), .int .u64 (dg (ab (m)) 3)] 25 (0, 0)) ∧ W.heap[w.heap.size + 1]? = some (.cells #[.bool (ng (n)), .int .u64 (dg (ab (n)) 0), .int .u64 (dg (ab (n)) 1), .int .u64 (dg (ab (n)) 2), .int .u64 (dg (ab (n)) 3)] 25 (0, 0)) ∧ W.heap[w2.heap.size]? = some (.cells #[.bool (ng (-m)), .int .u64 (dg (ab (-m)) 0), .int .u64 (dg (ab (-m)) 1), .int .u64 (dg (ab (-m)) 2), .int .u64 (dg (ab (-m)) 3)] 25 (0, 0)) ∧ W.heap[w18.heap.size]? = some (.cells #[.bool (ng (0)), .int .u64 (dg (ab (0)) 0), .int .u64 (dg (ab (0)) 1), .int .u64 (dg (ab (0)) 2), .int .u64 (dg (ab (0)) 3)] 25 (0, 0)) ∧ Below w.heap.size w W) ⟨h_a, h_b, h_x, h_s, (by focus (repeat (first | (with_reducible exact Below.refl _ _) | (with_reducible assumption) | ((with_reducible refine Below.setCell ?_ ?_ _); rotate_left; (focus (first | omega | (simp; done) | (simp; omega)))) | ((with_reducible refine Below.alloc ?_ ?_ _); rotate_left; (focus (first | omega | (simp; done) | (simp; omega)))) | (with_reducible refine Below.drew ?_) | (refine below_on ?_ (by assumption)))))⟩ fun W24 ⟨g_a, g_b, g_x, g_s, gB⟩ => ?_
  clear hB h_a h_b h_x h_s h_g h_i
  have h_a := g_a
  have h_b := g_b
  have h_x := g_x
  have h_s := g_s
  have hB := gB
  clear gB g_a g_b g_x g_s
  have c_a := cell_at h_a
  have c_b := cell_at h_b
  go_wp2_with fail
  refine (quo_zero m n HX.out HY.out HQ.out _).mono ?_
  rintro e w25 ⟨rfl, hb⟩
  have k_a := heap_below hb h_a
  have k_b := heap_below hb h_b
  have k_x := heap_below hb h_x
  have k_s := heap_below hb h_s
  have kB : Below w.heap.size w w25 := by
    have hsz := hB.size
    focus (repeat (first | (with_reducible exact Below.refl _ _) | (with_reducible assumption) | ((with_reducible refine Below.setCell ?_ ?_ _); rotate_left; (focus (first | omega | (simp; done) | (simp; omega)))) | ((with_reducible refine Below.alloc ?_ ?_ _); rotate_left; (focus (first | omega | (simp; done) | (simp; omega)))) | (with_reducible refine Below.drew ?_) | (refine below_on ?_ (by assumption))))
  clear hB hb h_a h_b h_x h_s
  have h_a := k_a
  have h_b := k_b
  have h_x := k_x
  have h_s := k_s
  have hB := kB
  clear kB k_a k_b k_x k_s
  have hsz := hB.size
  go_upto_region 22 with (fail)
  refine abs_wp (fun W => W.heap[w.heap.size]? = some (.cells #[.bool (ng (m)), .int .u64 (dg (ab (m)) 0), .int .u64 (dg (ab (m)) 1), .int .u64 (dg (ab (m)) 2), .int .u64 (dg (ab (m)) 3)] 25 (0, 0)) ∧ W.heap[w.heap.size + 1]? = some (.cells #[.bool (ng (n)), .int .u64 (dg (ab (n)) 0), .int .u64 (dg (ab (n)) 1), .int .u64 (dg (ab (n)) 2), .int .u64 (dg (ab (n)) 3)] 25 (0, 0)) ∧ W.heap[w2.heap.size]? = some (.cells #[.bool (ng (-m)), .int .u64 (dg (ab (-m)) 0), .int .u64 (dg (ab (-m)) 1), .int .u64 (dg (ab (-m)) 2), .int .u64 (dg (ab (-m)) 3)] 25 (0, 0)) ∧ W.heap[w18.heap.size]? = some (.cells #[.bool (ng (0)), .int .u64 (dg (ab (0)) 0), .int .u64 (dg (ab (0)) 1), .int .u64 (dg (ab (0)) 2), .int .u64 (dg (ab (0)) 3)] 25 (0, 0)) ∧ W.heap[w25.heap.size]? = some (.cells #[.bool (ng (0)), .int .u64 (dg (ab (0)) 0), .int .u64 (dg (ab (0)) 1), .int .u64 (dg (ab (0)) 2), .int .u64 (dg (ab (0)) 3)] 25 (0, 0)) ∧ W.heap[w25.heap.size + 1]? = some (.cells #[.bool (ng (0)), .int .u64 (dg (ab (0)) 0), .int .u64 (dg (ab (0)) 1), .int .u64 (dg (ab (0)) 2), .int .u64 (dg (ab (0)) 3)] 25 (0, 0)) ∧ Below w.heap.size w W) ⟨heap_old (heap_old (h_a) _) _, heap_old (heap_old (h_b) _) _, heap_old (heap_old (h_x) _) _, heap_old (heap_old (h_s) _) _, heap_old (heap_new _ _) _, heap_at (by simp) _, (by focus (repeat (first | (with_reducible exact Below.refl _ _) | (with_reducible assumption) | ((with_reducible refine Below.setCell ?_ ?_ _); rotate_left; (focus (first | omega | (simp; done) | (simp; omega)))) | ((with_reducible refine Below.alloc ?_ ?_ _); rotate_left; (focus (first | omega | (simp; done) | (simp; omega)))) | (with_reducible refine Below.drew ?_) | (refine below_on ?_ (by assumption)))))⟩ fun W26 ⟨g_a, g_b, g_x, g_s, g_q, g_r, gB⟩ => ?_
  clear hB hsz h_a h_b h_x h_s
  have h_a := g_a
  have h_b := g_b
  have h_x := g_x
  have h_s := g_s
  have h_q := g_q
  have h_r := g_r
  have hB := gB
  clear gB g_a g_b g_x g_s g_q g_r
  have c_x := cell_at h_x
  have c_b := cell_at h_b
  go_wp2_with fail
  refine (quo_zero (-m) n HX2.out HY.out HQ.out _).mono ?_
  rintro e w27 ⟨rfl, hb⟩
  have k_a := heap_below hb h_a
  have k_b := heap_below hb h_b
  have k_x := heap_below hb h_x
  have k_s := heap_below hb h_s
  have k_q := heap_below hb h_q
  have k_r := heap_below hb h_r
  have kB : Below w.heap.size w w27 := by
    have hsz := hB.size
    focus (repeat (first | (with_reducible exact Below.refl _ _) | (with_reducible assumption) | ((with_reducible refine Below.setCell ?_ ?_ _); rotate_left; (focus (first | omega | (simp; done) | (simp; omega)))) | ((with_reducible refine Below.alloc ?_ ?_ _); rotate_left; (focus (first | omega | (simp; done) | (simp; omega)))) | (with_reducible refine Below.drew ?_) | (refine below_on ?_ (by assumption))))
  clear hB hb h_a h_b h_x h_s h_q h_r
  have h_a := k_a
  have h_b := k_b
  have h_x := k_x
  have h_s := k_s
  have h_q := k_q
  have h_r := k_r
  have hB := kB
  clear kB k_a k_b k_x k_s k_q k_r
  have hsz := hB.size
  go_upto_region 23 with (fail)
  refine abs_wp (fun W => W.heap[w.heap.size]? = some (.cells #[.bool (ng (m)), .int .u64 (dg (ab (m)) 0), .int .u64 (dg (ab (m)) 1), .int .u64 (dg (ab (m)) 2), .int .u64 (dg (ab (m)) 3)] 25 (0, 0)) ∧ W.heap[w.heap.size + 1]? = some (.cells #[.bool (ng (n)), .int .u64 (dg (ab (n)) 0), .int .u64 (dg (ab (n)) 1), .int .u64 (dg (ab (n)) 2), .int .u64 (dg (ab (n)) 3)] 25 (0, 0)) ∧ W.heap[w2.heap.size]? = some (.cells #[.bool (ng (-m)), .int .u64 (dg (ab (-m)) 0), .int .u64 (dg (ab (-m)) 1), .int .u64 (dg (ab (-m)) 2), .int .u64 (dg (ab (-m)) 3)] 25 (0, 0)) ∧ W.heap[w18.heap.size]? = some (.cells #[.bool (ng (0)), .int .u64 (dg (ab (0)) 0), .int .u64 (dg (ab (0)) 1), .int .u64 (dg (ab (0)) 2), .int .u64 (dg (ab (0)) 3)] 25 (0, 0)) ∧ W.heap[w25.heap.size]? = some (.cells #[.bool (ng (0)), .int .u64 (dg (ab (0)) 0), .int .u64 (dg (ab (0)) 1), .int .u64 (dg (ab (0)) 2), .int .u64 (dg (ab (0)) 3)] 25 (0, 0)) ∧ W.heap[w25.heap.size + 1]? = some (.cells #[.bool (ng (0)), .int .u64 (dg (ab (0)) 0), .int .u64 (dg (ab (0)) 1), .int .u64 (dg (ab (0)) 2), .int .u64 (dg (ab (0)) 3)] 25 (0, 0)) ∧ W.heap[w27.heap.size]? = some (.cells #[.bool (ng (0)), .int .u64 (dg (ab (0)) 0), .int .u64 (dg (ab (0)) 1), .int .u64 (dg (ab (0)) 2), .int .u64 (dg (ab (0)) 3)] 25 (0, 0)) ∧ W.heap[w27.heap.size + 1]? = some (.cells #[.bool (ng (0)), .int .u64 (dg (ab (0)) 0), .int .u64 (dg (ab (0)) 1), .int .u64 (dg (ab (0)) 2), .int .u64 (dg (ab (0)) 3)] 25 (0, 0)) ∧ Below w.heap.size w W) ⟨heap_old (heap_old (h_a) _) _, heap_old (heap_old (h_b) _) _, heap_old (heap_old (h_x) _) _, heap_old (heap_old (h_s) _) _, heap_old (heap_old (h_q) _) _, heap_old (heap_old (h_r) _) _, heap_old (heap_new _ _) _, heap_at (by simp) _, (by focus (repeat (first | (with_reducible exact Below.refl _ _) | (with_reducible assumption) | ((with_reducible refine Below.setCell ?_ ?_ _); rotate_left; (focus (first | omega | (simp; done) | (simp; omega)))) | ((with_reducible refine Below.alloc ?_ ?_ _); rotate_left; (focus (first | omega | (simp; done) | (simp; omega)))) | (with_reducible refine Below.drew ?_) | (refine below_on ?_ (by assumption)))))⟩ fun W28 ⟨g_a, g_b, g_x, g_s, g_q, g_r, g_p, g_o, gB⟩ => ?_
  clear hB hsz h_a h_b h_x h_s h_q h_r
  have h_a := g_a
  have h_b := g_b
  have h_x := g_x
  have h_s := g_s
  have h_q := g_q
  have h_r := g_r
  have h_p := g_p
  have h_o := g_o
  have hB := gB
  clear gB g_a g_b g_x g_s g_q g_r g_p g_o
  go_upto_region 26 with ((go_at_call 14; refine (num_s _ _).mono ?_; rintro e w' ⟨rfl, rfl⟩))
  refine abs_wp (fun W => W.heap[w.heap.size]? = some (.cells #[.bool (ng (m)), .int .u64 (dg (ab (m)) 0), .int .u64 (dg (ab (m)) 1), .int .u64 (dg (ab (m)) 2), .int .u64 (dg (ab (m)) 3)] 25 (0, 0)) ∧ W.heap[w.heap.size + 1]? = some (.cells #[.bool (ng (n)), .int .u64 (dg (ab (n)) 0), .int .u64 (dg (ab (n)) 1), .int .u64 (dg (ab (n)) 2), .int .u64 (dg (ab (n)) 3)] 25 (0, 0)) ∧ W.heap[w2.heap.size]? = some (.cells #[.bool (ng (-m)), .int .u64 (dg (ab (-m)) 0), .int .u64 (dg (ab (-m)) 1), .int .u64 (dg (ab (-m)) 2), .int .u64 (dg (ab (-m)) 3)] 25 (0, 0)) ∧ W.heap[w18.heap.size]? = some (.cells #[.bool (ng (0)), .int .u64 (dg (ab (0)) 0), .int .u64 (dg (ab (0)) 1), .int .u64 (dg (ab (0)) 2), .int .u64 (dg (ab (0)) 3)] 25 (0, 0)) ∧ W.heap[w25.heap.size]? = some (.cells #[.bool (ng (0)), .int .u64 (dg (ab (0)) 0), .int .u64 (dg (ab (0)) 1), .int .u64 (dg (ab (0)) 2), .int .u64 (dg (ab (0)) 3)] 25 (0, 0)) ∧ W.heap[w25.heap.size + 1]? = some (.cells #[.bool (ng (0)), .int .u64 (dg (ab (0)) 0), .int .u64 (dg (ab (0)) 1), .int .u64 (dg (ab (0)) 2), .int .u64 (dg (ab (0)) 3)] 25 (0, 0)) ∧ W.heap[w27.heap.size]? = some (.cells #[.bool (ng (0)), .int .u64 (dg (ab (0)) 0), .int .u64 (dg (ab (0)) 1), .int .u64 (dg (ab (0)) 2), .int .u64 (dg (ab (0)) 3)] 25 (0, 0)) ∧ W.heap[w27.heap.size + 1]? = some (.cells #[.bool (ng (0)), .int .u64 (dg (ab (0)) 0), .int .u64 (dg (ab (0)) 1), .int .u64 (dg (ab (0)) 2), .int .u64 (dg (ab (0)) 3)] 25 (0, 0)) ∧ Below w.heap.size w W) ⟨h_a, h_b, h_x, h_s, h_q, h_r, h_p, h_o, (by focus (repeat (first | (with_reducible exact Below.refl _ _) | (with_reducible assumption) | ((with_reducible refine Below.setCell ?_ ?_ _); rotate_left; (focus (first | omega | (simp; done) | (simp; omega)))) | ((with_reducible refine Below.alloc ?_ ?_ _); rotate_left; (focus (first | omega | (simp; done) | (simp; omega)))) | (with_reducible refine Below.drew ?_) | (refine below_on ?_ (by assumption)))))⟩ fun W29 ⟨g_a, g_b, g_x, g_s, g_q, g_r, g_p, g_o, gB⟩ => ?_
  clear hB h_a h_b h_x h_s h_q h_r h_p h_o
  have h_a := g_a
  have h_b := g_b
  have h_x := g_x
  have h_s := g_s
  have h_q := g_q
  have h_r := g_r
  have h_p := g_p
  have h_o := g_o
  have hB := gB
  clear gB g_a g_b g_x g_s g_q g_r g_p g_o
  go_wp2_with fail
  refine (works_any _).mono ?_
  rintro e wz ⟨rfl, hb⟩
  have hF := below_on hB hb
  go_wp2
  go_ret
  exact ⟨rfl, hF⟩
end Go.Proofs.Yteibcklcegkbcaa
