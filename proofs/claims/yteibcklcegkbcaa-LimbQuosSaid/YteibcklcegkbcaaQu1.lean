/-
  The walk of LimbQuos, path by path (printed by gen/quos.py of this project). Conditions stand in each theorem.
-/
import Derived.Test.YteibcklcegkbcaaRab
namespace Go.Proofs.Yteibcklcegkbcaa
open Go.RowKit Go.BigFrame

set_option maxRecDepth 100000 in
set_option maxHeartbeats 8000000 in
theorem quos_bad1 (p q : Bool × Nat) (HP : Hd (p.2 < 2 ^ 256)) (HQ : Hd (q.2 < 2 ^ 256)) (HO : Hd (¬ (okP p ∧ okP q))) (H1 : Hd (decide (okP p) = false)) (w : World) :
    Calls Try.prog 3 #[.agg #[.bool (p.1), .int .u64 (dg (p.2) 0), .int .u64 (dg (p.2) 1), .int .u64 (dg (p.2) 2), .int .u64 (dg (p.2) 3)], .agg #[.bool (q.1), .int .u64 (dg (q.2) 0), .int .u64 (dg (q.2) 1), .int .u64 (dg (q.2) 2), .int .u64 (dg (q.2) 3)]] w fun e w' => e = .returned (.bool true) ∧ Below w.heap.size w w' := by
  go_enter Try.func3, Try.ntmps3
  have hB := Below.refl w.heap.size w
  have hsz := hB.size
  go_upto_region 1 with (fail)
  refine abs_wp (fun W => W.heap[w.heap.size]? = some (.cells #[.bool (p.1), .int .u64 (dg (p.2) 0), .int .u64 (dg (p.2) 1), .int .u64 (dg (p.2) 2), .int .u64 (dg (p.2) 3)] 25 (0, 0)) ∧ W.heap[w.heap.size + 1]? = some (.cells #[.bool (q.1), .int .u64 (dg (q.2) 0), .int .u64 (dg (q.2) 1), .int .u64 (dg (q.2) 2), .int .u64 (dg (q.2) 3)] 25 (0, 0)) ∧ Below w.heap.size w W) ⟨heap_old (heap_new _ _) _, heap_at (by simp) _, (by focus (repeat (first | (with_reducible exact Below.refl _ _) | (with_reducible assumption) | ((with_reducible refine Below.setCell ?_ ?_ _); rotate_left; (focus (first | omega | (simp; done) | (simp; omega)))) | ((with_reducible refine Below.alloc ?_ ?_ _); rotate_left; (focus (first | omega | (simp; done) | (simp; omega)))) | (with_reducible refine Below.drew ?_) | (refine below_on ?_ (by assumption)))))⟩ fun W1 ⟨g_a, g_b, gB⟩ => ?_
  clear hB hsz 
  have h_a := g_a
  have h_b := g_b
  have hB := gB
  clear gB g_a g_b
  have c_a := cell_at h_a
  have c_b := cell_at h_b
  go_wp2_with fail
  refine (quo_bad p q HP.out HQ.out HO.out _).mono ?_
  rintro e w2 ⟨rfl, hb⟩
  have k_a := heap_below hb h_a
  have k_b := heap_below hb h_b
  have kB : Below w.heap.size w w2 := by
    have hsz := hB.size
    focus (repeat (first | (with_reducible exact Below.refl _ _) | (with_reducible assumption) | ((with_reducible refine Below.setCell ?_ ?_ _); rotate_left; (focus (first | omega | (simp; done) | (simp; omega)))) | ((with_reducible refine Below.alloc ?_ ?_ _); rotate_left; (focus (first | omega | (simp; done) | (simp; omega)))) | (with_reducible refine Below.drew ?_) | (refine below_on ?_ (by assumption))))
  have sz_w2 := kB.size
  have sl_w2 := lt_of_block k_b
  clear hB hb h_a h_b
  have h_a := k_a
  have h_b := k_b
  have hB := kB
  clear kB k_a k_b
  have hsz := hB.size
  go_upto_region 2 with (fail)
  refine abs_wp (fun W => W.heap[w.heap.size]? = some (.cells #[.bool (p.1), .int .u64 (dg (p.2) 0), .int .u64 (dg (p.2) 1), .int .u64 (dg (p.2) 2), .int .u64 (dg (p.2) 3)] 25 (0, 0)) ∧ W.heap[w.heap.size + 1]? = some (.cells #[.bool (q.1), .int .u64 (dg (q.2) 0), .int .u64 (dg (q.2) 1), .int .u64 (dg (q.2) 2), .int .u64 (dg (q.2) 3)] 25 (0, 0)) ∧ W.heap[w2.heap.size]? = some (.cells #[.bool (ng (0)), .int .u64 (dg (ab (0)) 0), .int .u64 (dg (ab (0)) 1), .int .u64 (dg (ab (0)) 2), .int .u64 (dg (ab (0)) 3)] 25 (0, 0)) ∧ W.heap[w2.heap.size + 1]? = some (.cells #[.bool (ng (0)), .int .u64 (dg (ab (0)) 0), .int .u64 (dg (ab (0)) 1), .int .u64 (dg (ab (0)) 2), .int .u64 (dg (ab (0)) 3)] 25 (0, 0)) ∧ Below w.heap.size w W) ⟨heap_old (heap_old (h_a) _) _, heap_old (heap_old (h_b) _) _, heap_old (heap_new _ _) _, heap_at (by simp) _, (by focus (repeat (first | (with_reducible exact Below.refl _ _) | (with_reducible assumption) | ((with_reducible refine Below.setCell ?_ ?_ _); rotate_left; (focus (first | omega | (simp; done) | (simp; omega)))) | ((with_reducible refine Below.alloc ?_ ?_ _); rotate_left; (focus (first | omega | (simp; done) | (simp; omega)))) | (with_reducible refine Below.drew ?_) | (refine below_on ?_ (by assumption)))))⟩ fun W3 ⟨g_a, g_b, g_q, g_r, gB⟩ => ?_
  clear hB hsz h_a h_b
  have h_a := g_a
  have h_b := g_b
  have h_q := g_q
  have h_r := g_r
  have hB := gB
  clear gB g_a g_b g_q g_r
  have c_a := cell_at h_a
  have c_b := cell_at h_b
  go_wp2_with fail
  refine (gcd_bad p q HP.out HQ.out HO.out _).mono ?_
  rintro e w4 ⟨rfl, hb⟩
  have k_a := heap_below hb h_a
  have k_b := heap_below hb h_b
  have k_q := heap_below hb h_q
  have k_r := heap_below hb h_r
  have kB : Below w.heap.size w w4 := by
    have hsz := hB.size
    focus (repeat (first | (with_reducible exact Below.refl _ _) | (with_reducible assumption) | ((with_reducible refine Below.setCell ?_ ?_ _); rotate_left; (focus (first | omega | (simp; done) | (simp; omega)))) | ((with_reducible refine Below.alloc ?_ ?_ _); rotate_left; (focus (first | omega | (simp; done) | (simp; omega)))) | (with_reducible refine Below.drew ?_) | (refine below_on ?_ (by assumption))))
  have sz_w4 := kB.size
  have sl_w4 := lt_of_block k_r
  clear hB hb h_a h_b h_q h_r
  have h_a := k_a
  have h_b := k_b
  have h_q := k_q
  have h_r := k_r
  have hB := kB
  clear kB k_a k_b k_q k_r
  have hsz := hB.size
  go_upto_region 3 with (fail)
  refine abs_wp (fun W => W.heap[w.heap.size]? = some (.cells #[.bool (p.1), .int .u64 (dg (p.2) 0), .int .u64 (dg (p.2) 1), .int .u64 (dg (p.2) 2), .int .u64 (dg (p.2) 3)] 25 (0, 0)) ∧ W.heap[w.heap.size + 1]? = some (.cells #[.bool (q.1), .int .u64 (dg (q.2) 0), .int .u64 (dg (q.2) 1), .int .u64 (dg (q.2) 2), .int .u64 (dg (q.2) 3)] 25 (0, 0)) ∧ W.heap[w2.heap.size]? = some (.cells #[.bool (ng (0)), .int .u64 (dg (ab (0)) 0), .int .u64 (dg (ab (0)) 1), .int .u64 (dg (ab (0)) 2), .int .u64 (dg (ab (0)) 3)] 25 (0, 0)) ∧ W.heap[w2.heap.size + 1]? = some (.cells #[.bool (ng (0)), .int .u64 (dg (ab (0)) 0), .int .u64 (dg (ab (0)) 1), .int .u64 (dg (ab (0)) 2), .int .u64 (dg (ab (0)) 3)] 25 (0, 0)) ∧ W.heap[w4.heap.size]? = some (.cells #[.bool (ng (0)), .int .u64 (dg (ab (0)) 0), .int .u64 (dg (ab (0)) 1), .int .u64 (dg (ab (0)) 2), .int .u64 (dg (ab (0)) 3)] 25 (0, 0)) ∧ Below w.heap.size w W) ⟨heap_old (h_a) _, heap_old (h_b) _, heap_old (h_q) _, heap_old (h_r) _, heap_new _ _, (by focus (repeat (first | (with_reducible exact Below.refl _ _) | (with_reducible assumption) | ((with_reducible refine Below.setCell ?_ ?_ _); rotate_left; (focus (first | omega | (simp; done) | (simp; omega)))) | ((with_reducible refine Below.alloc ?_ ?_ _); rotate_left; (focus (first | omega | (simp; done) | (simp; omega)))) | (with_reducible refine Below.drew ?_) | (refine below_on ?_ (by assumption)))))⟩ fun W5 ⟨g_a, g_b, g_q, g_r, g_g, gB⟩ => ?_
  clear hB hsz h_a h_b h_q h_r
  have h_a := g_a
  have h_b := g_b
  have h_q := g_q
  have h_r := g_r
  have h_g := g_g
  have hB := gB
  clear gB g_a g_b g_q g_r g_g
  have c_a := cell_at h_a
  go_wp2_with fail
  refine (rright_any p HP.out _).mono ?_
  rintro e w6 ⟨rfl, hb⟩
  have k_a := heap_below hb h_a
  have k_b := heap_below hb h_b
  have k_q := heap_below hb h_q
  have k_r := heap_below hb h_r
  have k_g := heap_below hb h_g
  have kB : Below w.heap.size w w6 := by
    have hsz := hB.size
    focus (repeat (first | (with_reducible exact Below.refl _ _) | (with_reducible assumption) | ((with_reducible refine Below.setCell ?_ ?_ _); rotate_left; (focus (first | omega | (simp; done) | (simp; omega)))) | ((with_reducible refine Below.alloc ?_ ?_ _); rotate_left; (focus (first | omega | (simp; done) | (simp; omega)))) | (with_reducible refine Below.drew ?_) | (refine below_on ?_ (by assumption))))
  have sz_w6 := kB.size
  have sl_w6 := lt_of_block k_g
  clear hB hb h_a h_b h_q h_r h_g
  have h_a := k_a
  have h_b := k_b
  have h_q := k_q
  have h_r := k_r
  have h_g := k_g
  have hB := kB
  clear kB k_a k_b k_q k_r k_g
  rw [H1.out]
  have c_q := cell_at h_q
  have c_r := cell_at h_r
  have c_g := cell_at h_g
  go_wp2_with ((go_at_call 14; refine (num_s _ _).mono ?_; rintro e w' ⟨rfl, rfl⟩))
  refine (works_any _).mono ?_
  rintro e wz ⟨rfl, hb⟩
  have hF := below_on hB hb
  go_wp2
  go_ret
  exact ⟨rfl, hF⟩
set_option maxRecDepth 100000 in
set_option maxHeartbeats 8000000 in
theorem quos_bad2 (p q : Bool × Nat) (HP : Hd (p.2 < 2 ^ 256)) (HQ : Hd (q.2 < 2 ^ 256)) (HO : Hd (¬ (okP p ∧ okP q))) (H1 : Hd (decide (okP p) = true)) (H2 : Hd (decide (okP q) = false)) (w : World) :
    Calls Try.prog 3 #[.agg #[.bool (p.1), .int .u64 (dg (p.2) 0), .int .u64 (dg (p.2) 1), .int .u64 (dg (p.2) 2), .int .u64 (dg (p.2) 3)], .agg #[.bool (q.1), .int .u64 (dg (q.2) 0), .int .u64 (dg (q.2) 1), .int .u64 (dg (q.2) 2), .int .u64 (dg (q.2) 3)]] w fun e w' => e = .returned (.bool true) ∧ Below w.heap.size w w' := by
  go_enter Try.func3, Try.ntmps3
  have hB := Below.refl w.heap.size w
  have hsz := hB.size
  go_upto_region 1 with (fail)
  refine abs_wp (fun W => W.heap[w.heap.size]? = some (.cells #[.bool (p.1), .int .u64 (dg (p.2) 0), .int .u64 (dg (p.2) 1), .int .u64 (dg (p.2) 2), .int .u64 (dg (p.2) 3)] 25 (0, 0)) ∧ W.heap[w.heap.size + 1]? = some (.cells #[.bool (q.1), .int .u64 (dg (q.2) 0), .int .u64 (dg (q.2) 1), .int .u64 (dg (q.2) 2), .int .u64 (dg (q.2) 3)] 25 (0, 0)) ∧ Below w.heap.size w W) ⟨heap_old (heap_new _ _) _, heap_at (by simp) _, (by focus (repeat (first | (with_reducible exact Below.refl _ _) | (with_reducible assumption) | ((with_reducible refine Below.setCell ?_ ?_ _); rotate_left; (focus (first | omega | (simp; done) | (simp; omega)))) | ((with_reducible refine Below.alloc ?_ ?_ _); rotate_left; (focus (first | omega | (simp; done) | (simp; omega)))) | (with_reducible refine Below.drew ?_) | (refine below_on ?_ (by assumption)))))⟩ fun W1 ⟨g_a, g_b, gB⟩ => ?_
  clear hB hsz 
  have h_a := g_a
  have h_b := g_b
  have hB := gB
  clear gB g_a g_b
  have c_a := cell_at h_a
  have c_b := cell_at h_b
  go_wp2_with fail
  refine (quo_bad p q HP.out HQ.out HO.out _).mono ?_
  rintro e w2 ⟨rfl, hb⟩
  have k_a := heap_below hb h_a
  have k_b := heap_below hb h_b
  have kB : Below w.heap.size w w2 := by
    have hsz := hB.size
    focus (repeat (first | (with_reducible exact Below.refl _ _) | (with_reducible assumption) | ((with_reducible refine Below.setCell ?_ ?_ _); rotate_left; (focus (first | omega | (simp; done) | (simp; omega)))) | ((with_reducible refine Below.alloc ?_ ?_ _); rotate_left; (focus (first | omega | (simp; done) | (simp; omega)))) | (with_reducible refine Below.drew ?_) | (refine below_on ?_ (by assumption))))
  have sz_w2 := kB.size
  have sl_w2 := lt_of_block k_b
  clear hB hb h_a h_b
  have h_a := k_a
  have h_b := k_b
  have hB := kB
  clear kB k_a k_b
  have hsz := hB.size
  go_upto_region 2 with (fail)
  refine abs_wp (fun W => W.heap[w.heap.size]? = some (.cells #[.bool (p.1), .int .u64 (dg (p.2) 0), .int .u64 (dg (p.2) 1), .int .u64 (dg (p.2) 2), .int .u64 (dg (p.2) 3)] 25 (0, 0)) ∧ W.heap[w.heap.size + 1]? = some (.cells #[.bool (q.1), .int .u64 (dg (q.2) 0), .int .u64 (dg (q.2) 1), .int .u64 (dg (q.2) 2), .int .u64 (dg (q.2) 3)] 25 (0, 0)) ∧ W.heap[w2.heap.size]? = some (.cells #[.bool (ng (0)), .int .u64 (dg (ab (0)) 0), .int .u64 (dg (ab (0)) 1), .int .u64 (dg (ab (0)) 2), .int .u64 (dg (ab (0)) 3)] 25 (0, 0)) ∧ W.heap[w2.heap.size + 1]? = some (.cells #[.bool (ng (0)), .int .u64 (dg (ab (0)) 0), .int .u64 (dg (ab (0)) 1), .int .u64 (dg (ab (0)) 2), .int .u64 (dg (ab (0)) 3)] 25 (0, 0)) ∧ Below w.heap.size w W) ⟨heap_old (heap_old (h_a) _) _, heap_old (heap_old (h_b) _) _, heap_old (heap_new _ _) _, heap_at (by simp) _, (by focus (repeat (first | (with_reducible exact Below.refl _ _) | (with_reducible assumption) | ((with_reducible refine Below.setCell ?_ ?_ _); rotate_left; (focus (first | omega | (simp; done) | (simp; omega)))) | ((with_reducible refine Below.alloc ?_ ?_ _); rotate_left; (focus (first | omega | (simp; done) | (simp; omega)))) | (with_reducible refine Below.drew ?_) | (refine below_on ?_ (by assumption)))))⟩ fun W3 ⟨g_a, g_b, g_q, g_r, gB⟩ => ?_
  clear hB hsz h_a h_b
  have h_a := g_a
  have h_b := g_b
  have h_q := g_q
  have h_r := g_r
  have hB := gB
  clear gB g_a g_b g_q g_r
  have c_a := cell_at h_a
  have c_b := cell_at h_b
  go_wp2_with fail
  refine (gcd_bad p q HP.out HQ.out HO.out _).mono ?_
  rintro e w4 ⟨rfl, hb⟩
  have k_a := heap_below hb h_a
  have k_b := heap_below hb h_b
  have k_q := heap_below hb h_q
  have k_r := heap_below hb h_r
  have kB : Below w.heap.size w w4 := by
    have hsz := hB.size
    focus (repeat (first | (with_reducible exact Below.refl _ _) | (with_reducible assumption) | ((with_reducible refine Below.setCell ?_ ?_ _); rotate_left; (focus (first | omega | (simp; done) | (simp; omega)))) | ((with_reducible refine Below.alloc ?_ ?_ _); rotate_left; (focus (first | omega | (simp; done) | (simp; omega)))) | (with_reducible refine Below.drew ?_) | (refine below_on ?_ (by assumption))))
  have sz_w4 := kB.size
  have sl_w4 := lt_of_block k_r
  clear hB hb h_a h_b h_q h_r
  have h_a := k_a
  have h_b := k_b
  have h_q := k_q
  have h_r := k_r
  have hB := kB
  clear kB k_a k_b k_q k_r
  have hsz := hB.size
  go_upto_region 3 with (fail)
  refine abs_wp (fun W => W.heap[w.heap.size]? = some (.cells #[.bool (p.1), .int .u64 (dg (p.2) 0), .int .u64 (dg (p.2) 1), .int .u64 (dg (p.2) 2), .int .u64 (dg (p.2) 3)] 25 (0, 0)) ∧ W.heap[w.heap.size + 1]? = some (.cells #[.bool (q.1), .int .u64 (dg (q.2) 0), .int .u64 (dg (q.2) 1), .int .u64 (dg (q.2) 2), .int .u64 (dg (q.2) 3)] 25 (0, 0)) ∧ W.heap[w2.heap.size]? = some (.cells #[.bool (ng (0)), .int .u64 (dg (ab (0)) 0), .int .u64 (dg (ab (0)) 1), .int .u64 (dg (ab (0)) 2), .int .u64 (dg (ab (0)) 3)] 25 (0, 0)) ∧ W.heap[w2.heap.size + 1]? = some (.cells #[.bool (ng (0)), .int .u64 (dg (ab (0)) 0), .int .u64 (dg (ab (0)) 1), .int .u64 (dg (ab (0)) 2), .int .u64 (dg (ab (0)) 3)] 25 (0, 0)) ∧ W.heap[w4.heap.size]? = some (.cells #[.bool (ng (0)), .int .u64 (dg (ab (0)) 0), .int .u64 (dg (ab (0)) 1), .int .u64 (dg (ab (0)) 2), .int .u64 (dg (ab (0)) 3)] 25 (0, 0)) ∧ Below w.heap.size w W) ⟨heap_old (h_a) _, heap_old (h_b) _, heap_old (h_q) _, heap_old (h_r) _, heap_new _ _, (by focus (repeat (first | (with_reducible exact Below.refl _ _) | (with_reducible assumption) | ((with_reducible refine Below.setCell ?_ ?_ _); rotate_left; (focus (first | omega | (simp; done) | (simp; omega)))) | ((with_reducible refine Below.alloc ?_ ?_ _); rotate_left; (focus (first | omega | (simp; done) | (simp; omega)))) | (with_reducible refine Below.drew ?_) | (refine below_on ?_ (by assumption)))))⟩ fun W5 ⟨g_a, g_b, g_q, g_r, g_g, gB⟩ => ?_
  clear hB hsz h_a h_b h_q h_r
  have h_a := g_a
  have h_b := g_b
  have h_q := g_q
  have h_r := g_r
  have h_g := g_g
  have hB := gB
  clear gB g_a g_b g_q g_r g_g
  have c_a := cell_at h_a
  go_wp2_with fail
  refine (rright_any p HP.out _).mono ?_
  rintro e w6 ⟨rfl, hb⟩
  have k_a := heap_below hb h_a
  have k_b := heap_below hb h_b
  have k_q := heap_below hb h_q
  have k_r := heap_below hb h_r
  have k_g := heap_below hb h_g
  have kB : Below w.heap.size w w6 := by
    have hsz := hB.size
    focus (repeat (first | (with_reducible exact Below.refl _ _) | (with_reducible assumption) | ((with_reducible refine Below.setCell ?_ ?_ _); rotate_left; (focus (first | omega | (simp; done) | (simp; omega)))) | ((with_reducible refine Below.alloc ?_ ?_ _); rotate_left; (focus (first | omega | (simp; done) | (simp; omega)))) | (with_reducible refine Below.drew ?_) | (refine below_on ?_ (by assumption))))
  have sz_w6 := kB.size
  have sl_w6 := lt_of_block k_g
  clear hB hb h_a h_b h_q h_r h_g
  have h_a := k_a
  have h_b := k_b
  have h_q := k_q
  have h_r := k_r
  have h_g := k_g
  have hB := kB
  clear kB k_a k_b k_q k_r k_g
  rw [H1.out]
  have c_b := cell_at h_b
  go_wp2_with fail
  refine (rright_any q HQ.out _).mono ?_
  rintro e w7 ⟨rfl, hb⟩
  have k_a := heap_below hb h_a
  have k_b := heap_below hb h_b
  have k_q := heap_below hb h_q
  have k_r := heap_below hb h_r
  have k_g := heap_below hb h_g
  have kB : Below w.heap.size w w7 := by
    have hsz := hB.size
    focus (repeat (first | (with_reducible exact Below.refl _ _) | (with_reducible assumption) | ((with_reducible refine Below.setCell ?_ ?_ _); rotate_left; (focus (first | omega | (simp; done) | (simp; omega)))) | ((with_reducible refine Below.alloc ?_ ?_ _); rotate_left; (focus (first | omega | (simp; done) | (simp; omega)))) | (with_reducible refine Below.drew ?_) | (refine below_on ?_ (by assumption))))
  have sz_w7 := kB.size
  have sl_w7 := lt_of_block k_g
  clear hB hb h_a h_b h_q h_r h_g
  have h_a := k_a
  have h_b := k_b
  have h_q := k_q
  have h_r := k_r
  have h_g := k_g
  have hB := kB
  clear kB k_a k_b k_q k_r k_g
  rw [H2.out]
  have c_q := cell_at h_q
  have c_r := cell_at h_r
  have c_g := cell_at h_g
  go_wp2_with ((go_at_call 14; refine (num_s _ _).mono ?_; rintro e w' ⟨rfl, rfl⟩))
  refine (works_any _).mono ?_
  rintro e wz ⟨rfl, hb⟩
  have hF := below_on hB hb
  go_wp2
  go_ret
  exact ⟨rfl, hF⟩
set_option maxRecDepth 100000 in
set_option maxHeartbeats 8000000 in
theorem quos_zero (x y : Int) (HX : Hd (ab x < 2 ^ 256)) (HY : Hd (ab y < 2 ^ 256)) (HGB : Hd (ab ((Nat.gcd (ab x) (ab y) : Nat) : Int) < 2 ^ 256)) (HN : Hd (y = 0)) (w : World) :
    Calls Try.prog 3 #[.agg #[.bool (ng (x)), .int .u64 (dg (ab (x)) 0), .int .u64 (dg (ab (x)) 1), .int .u64 (dg (ab (x)) 2), .int .u64 (dg (ab (x)) 3)], .agg #[.bool (ng (y)), .int .u64 (dg (ab (y)) 0), .int .u64 (dg (ab (y)) 1), .int .u64 (dg (ab (y)) 2), .int .u64 (dg (ab (y)) 3)]] w fun e w' => e = .returned (.bool true) ∧ Below w.heap.size w w' := by
  go_enter Try.func3, Try.ntmps3
  have hB := Below.refl w.heap.size w
  have hsz := hB.size
  go_upto_region 1 with (fail)
  refine abs_wp (fun W => W.heap[w.heap.size]? = some (.cells #[.bool (ng (x)), .int .u64 (dg (ab (x)) 0), .int .u64 (dg (ab (x)) 1), .int .u64 (dg (ab (x)) 2), .int .u64 (dg (ab (x)) 3)] 25 (0, 0)) ∧ W.heap[w.heap.size + 1]? = some (.cells #[.bool (ng (y)), .int .u64 (dg (ab (y)) 0), .int .u64 (dg (ab (y)) 1), .int .u64 (dg (ab (y)) 2), .int .u64 (dg (ab (y)) 3)] 25 (0, 0)) ∧ Below w.heap.size w W) ⟨heap_old (heap_new _ _) _, heap_at (by simp) _, (by focus (repeat (first | (with_reducible exact Below.refl _ _) | (with_reducible assumption) | ((with_reducible refine Below.setCell ?_ ?_ _); rotate_left; (focus (first | omega | (simp; done) | (simp; omega)))) | ((with_reducible refine Below.alloc ?_ ?_ _); rotate_left; (focus (first | omega | (simp; done) | (simp; omega)))) | (with_reducible refine Below.drew ?_) | (refine below_on ?_ (by assumption)))))⟩ fun W1 ⟨g_a, g_b, gB⟩ => ?_
  clear hB hsz 
  have h_a := g_a
  have h_b := g_b
  have hB := gB
  clear gB g_a g_b
  have c_a := cell_at h_a
  have c_b := cell_at h_b
  go_wp2_with fail
  refine (quo_zero x y HX.out HY.out HN.out _).mono ?_
  rintro e w2 ⟨rfl, hb⟩
  have k_a := heap_below hb h_a
  have k_b := heap_below hb h_b
  have kB : Below w.heap.size w w2 := by
    have hsz := hB.size
    focus (repeat (first | (with_reducible exact Below.refl _ _) | (with_reducible assumption) | ((with_reducible refine Below.setCell ?_ ?_ _); rotate_left; (focus (first | omega | (simp; done) | (simp; omega)))) | ((with_reducible refine Below.alloc ?_ ?_ _); rotate_left; (focus (first | omega | (simp; done) | (simp; omega)))) | (with_reducible refine Below.drew ?_) | (refine below_on ?_ (by assumption))))
  have sz_w2 := kB.size
  have sl_w2 := lt_of_block k_b
  clear hB hb h_a h_b
  have h_a := k_a
  have h_b := k_b
  have hB := kB
  clear kB k_a k_b
  have hsz := hB.size
  go_upto_region 2 with (fail)
  refine abs_wp (fun W => W.heap[w.heap.size]? = some (.cells #[.bool (ng (x)), .int .u64 (dg (ab (x)) 0), .int .u64 (dg (ab (x)) 1), .int .u64 (dg (ab (x)) 2), .int .u64 (dg (ab (x)) 3)] 25 (0, 0)) ∧ W.heap[w.heap.size + 1]? = some (.cells #[.bool (ng (y)), .int .u64 (dg (ab (y)) 0), .int .u64 (dg (ab (y)) 1), .int .u64 (dg (ab (y)) 2), .int .u64 (dg (ab (y)) 3)] 25 (0, 0)) ∧ W.heap[w2.heap.size]? = some (.cells #[.bool (ng (0)), .int .u64 (dg (ab (0)) 0), .int .u64 (dg (ab (0)) 1), .int .u64 (dg (ab (0)) 2), .int .u64 (dg (ab (0)) 3)] 25 (0, 0)) ∧ W.heap[w2.heap.size + 1]? = some (.cells #[.bool (ng (0)), .int .u64 (dg (ab (0)) 0), .int .u64 (dg (ab (0)) 1), .int .u64 (dg (ab (0)) 2), .int .u64 (dg (ab (0)) 3)] 25 (0, 0)) ∧ Below w.heap.size w W) ⟨heap_old (heap_old (h_a) _) _, heap_old (heap_old (h_b) _) _, heap_old (heap_new _ _) _, heap_at (by simp) _, (by focus (repeat (first | (with_reducible exact Below.refl _ _) | (with_reducible assumption) | ((with_reducible refine Below.setCell ?_ ?_ _); rotate_left; (focus (first | omega | (simp; done) | (simp; omega)))) | ((with_reducible refine Below.alloc ?_ ?_ _); rotate_left; (focus (first | omega | (simp; done) | (simp; omega)))) | (with_reducible refine Below.drew ?_) | (refine below_on ?_ (by assumption)))))⟩ fun W3 ⟨g_a, g_b, g_q, g_r, gB⟩ => ?_
  clear hB hsz h_a h_b
  have h_a := g_a
  have h_b := g_b
  have h_q := g_q
  have h_r := g_r
  have hB := gB
  clear gB g_a g_b g_q g_r
  have c_a := cell_at h_a
  have c_b := cell_at h_b
  go_wp2_with fail
  refine (gcd_at x y _ HX.out HY.out rfl _).mono ?_
  rintro e w4 ⟨rfl, hb⟩
  have k_a := heap_below hb h_a
  have k_b := heap_below hb h_b
  have k_q := heap_below hb h_q
  have k_r := heap_below hb h_r
  have kB : Below w.heap.size w w4 := by
    have hsz := hB.size
    focus (repeat (first | (with_reducible exact Below.refl _ _) | (with_reducible assumption) | ((with_reducible refine Below.setCell ?_ ?_ _); rotate_left; (focus (first | omega | (simp; done) | (simp; omega)))) | ((with_reducible refine Below.alloc ?_ ?_ _); rotate_left; (focus (first | omega | (simp; done) | (simp; omega)))) | (with_reducible refine Below.drew ?_) | (refine below_on ?_ (by assumption))))
  have sz_w4 := kB.size
  have sl_w4 := lt_of_block k_r
  clear hB hb h_a h_b h_q h_r
  have h_a := k_a
  have h_b := k_b
  have h_q := k_q
  have h_r := k_r
  have hB := kB
  clear kB k_a k_b k_q k_r
  have hsz := hB.size
  go_upto_region 3 with (fail)
  refine abs_wp (fun W => W.heap[w.heap.size]? = some (.cells #[.bool (ng (x)), .int .u64 (dg (ab (x)) 0), .int .u64 (dg (ab (x)) 1), .int .u64 (dg (ab (x)) 2), .int .u64 (dg (ab (x)) 3)] 25 (0, 0)) ∧ W.heap[w.heap.size + 1]? = some (.cells #[.bool (ng (y)), .int .u64 (dg (ab (y)) 0), .int .u64 (dg (ab (y)) 1), .int .u64 (dg (ab (y)) 2), .int .u64 (dg (ab (y)) 3)] 25 (0, 0)) ∧ W.heap[w2.heap.size]? = some (.cells #[.bool (ng (0)), .int .u64 (dg (ab (0)) 0), .int .u64 (dg (ab (0)) 1), .int .u64 (dg (ab (0)) 2), .int .u64 (dg (ab (0)) 3)] 25 (0, 0)) ∧ W.heap[w2.heap.size + 1]? = some (.cells #[.bool (ng (0)), .int .u64 (dg (ab (0)) 0), .int .u64 (dg (ab (0)) 1), .int .u64 (dg (ab (0)) 2), .int .u64 (dg (ab (0)) 3)] 25 (0, 0)) ∧ W.heap[w4.heap.size]? = some (.cells #[.bool (ng (((Nat.gcd (ab x) (ab y) : Nat) : Int))), .int .u64 (dg (ab (((Nat.gcd (ab x) (ab y) : Nat) : Int))) 0), .int .u64 (dg (ab (((Nat.gcd (ab x) (ab y) : Nat) : Int))) 1), .int .u64 (dg (ab (((Nat.gcd (ab x) (ab y) : Nat) : Int))) 2), .int .u64 (dg (ab (((Nat.gcd (ab x) (ab y) : Nat) : Int))) 3)] 25 (0, 0)) ∧ Below w.heap.size w W) ⟨heap_old (h_a) _, heap_old (h_b) _, heap_old (h_q) _, heap_old (h_r) _, heap_new _ _, (by focus (repeat (first | (with_reducible exact Below.refl _ _) | (with_reducible assumption) | ((with_reducible refine Below.setCell ?_ ?_ _); rotate_left; (focus (first | omega | (simp; done) | (simp; omega)))) | ((with_reducible refine Below.alloc ?_ ?_ _); rotate_left; (focus (first | omega | (simp; done) | (simp; omega)))) | (with_reducible refine Below.drew ?_) | (refine below_on ?_ (by assumption)))))⟩ fun W5 ⟨g_a, g_b, g_q, g_r, g_g, gB⟩ => ?_
  clear hB hsz h_a h_b h_q h_r
  have h_a := g_a
  have h_b := g_b
  have h_q := g_q
  have h_r := g_r
  have h_g := g_g
  have hB := gB
  clear gB g_a g_b g_q g_r g_g
  have c_a := cell_at h_a
  go_wp2_with fail
  refine (rright_ok x HX.out _).mono ?_
  rintro e w6 ⟨rfl, hb⟩
  have k_a := heap_below hb h_a
  have k_b := heap_below hb h_b
  have k_q := heap_below hb h_q
  have k_r := heap_below hb h_r
  have k_g := heap_below hb h_g
  have kB : Below w.heap.size w w6 := by
    have hsz := hB.size
    focus (repeat (first | (with_reducible exact Below.refl _ _) | (with_reducible assumption) | ((with_reducible refine Below.setCell ?_ ?_ _); rotate_left; (focus (first | omega | (simp; done) | (simp; omega)))) | ((with_reducible refine Below.alloc ?_ ?_ _); rotate_left; (focus (first | omega | (simp; done) | (simp; omega)))) | (with_reducible refine Below.drew ?_) | (refine below_on ?_ (by assumption))))
  have sz_w6 := kB.size
  have sl_w6 := lt_of_block k_g
  clear hB hb h_a h_b h_q h_r h_g
  have h_a := k_a
  have h_b := k_b
  have h_q := k_q
  have h_r := k_r
  have h_g := k_g
  have hB := kB
  clear kB k_a k_b k_q k_r k_g
  have c_b := cell_at h_b
  go_wp2_with fail
  refine (rright_ok y HY.out _).mono ?_
  rintro e w7 ⟨rfl, hb⟩
  have k_a := heap_below hb h_a
  have k_b := heap_below hb h_b
  have k_q := heap_below hb h_q
  have k_r := heap_below hb h_r
  have k_g := heap_below hb h_g
  have kB : Below w.heap.size w w7 := by
    have hsz := hB.size
    focus (repeat (first | (with_reducible exact Below.refl _ _) | (with_reducible assumption) | ((with_reducible refine Below.setCell ?_ ?_ _); rotate_left; (focus (first | omega | (simp; done) | (simp; omega)))) | ((with_reducible refine Below.alloc ?_ ?_ _); rotate_left; (focus (first | omega | (simp; done) | (simp; omega)))) | (with_reducible refine Below.drew ?_) | (refine below_on ?_ (by assumption))))
  have sz_w7 := kB.size
  have sl_w7 := lt_of_block k_g
  clear hB hb h_a h_b h_q h_r h_g
  have h_a := k_a
  have h_b := k_b
  have h_q := k_q
  have h_r := k_r
  have h_g := k_g
  have hB := kB
  clear kB k_a k_b k_q k_r k_g
  go_upto_region 6 with (fail)
  refine region_abs (fun a0 a' w' => ∃ u67 u68 u69 u70 u71 u72 u66 u73 u74 N, a' = (Act.put (Act.put (Act.put (Act.put (Act.put (Act.put (Act.put (Act.put (Act.put (Act.put (Act.put a0 (some 67) u67) (some 68) u68) (some 69) u69) (some 70) u70) (some 71) u71) (some 72) u72) (some 66) u66) (some 73) u73) (some 74) u74) (some 11) (.pointer (some ⟨N, 0, none⟩))) (some 12) (.int .i64 0)) ∧ (w'.heap[N]? = some (.cells #[.bool (ng (((Nat.gcd (ab x) (ab y) : Nat) : Int))), .int .u64 (dg (ab (((Nat.gcd (ab x) (ab y) : Nat) : Int))) 0), .int .u64 (dg (ab (((Nat.gcd (ab x) (ab y) : Nat) : Int))) 1), .int .u64 (dg (ab (((Nat.gcd (ab x) (ab y) : Nat) : Int))) 2), .int .u64 (dg (ab (((Nat.gcd (ab x) (ab y) : Nat) : Int))) 3)] 25 (0, 0))) ∧ Below w7.heap.size w7 w') ?_ ?_
  · have HS : Hd (∀ W', Below w7.heap.size w7 W' → (W'.cell? ⟨w.heap.size, 0, none⟩ = some (.bool (ng (x))) ∧ W'.cell? ⟨w.heap.size, 1, none⟩ = some (.int .u64 (dg (ab (x)) 0)) ∧ W'.cell? ⟨w.heap.size, 2, none⟩ = some (.int .u64 (dg (ab (x)) 1)) ∧ W'.cell? ⟨w.heap.size, 3, none⟩ = some (.int .u64 (dg (ab (x)) 2)) ∧ W'.cell? ⟨w.heap.size, 4, none⟩ = some (.int .u64 (dg (ab (x)) 3))) ∧ W'.cell? ⟨w.heap.size + 1, 0, none⟩ = some (.bool (ng (y))) ∧ W'.cell? ⟨w.heap.size + 1, 1, none⟩ = some (.int .u64 (dg (ab (y)) 0)) ∧ W'.cell? ⟨w.heap.size + 1, 2, none⟩ = some (.int .u64 (dg (ab (y)) 1)) ∧ W'.cell? ⟨w.heap.size + 1, 3, none⟩ = some (.int .u64 (dg (ab (y)) 2)) ∧ W'.cell? ⟨w.heap.size + 1, 4, none⟩ = some (.int .u64 (dg (ab (y)) 3))) := ⟨fun W' h => ⟨(z_at h_a).below h, (z_at h_b).below h⟩⟩
    have hD : Below w7.heap.size w7 w7.drew := Below.drew (Below.refl _ _)
    have hDz := hD.size
    clear hB h_a h_b h_q h_r h_g
    go_region_held3 (fun W' => (W'.cell? ⟨w.heap.size, 0, none⟩ = some (.bool (ng (x))) ∧ W'.cell? ⟨w.heap.size, 1, none⟩ = some (.int .u64 (dg (ab (x)) 0)) ∧ W'.cell? ⟨w.heap.size, 2, none⟩ = some (.int .u64 (dg (ab (x)) 1)) ∧ W'.cell? ⟨w.heap.size, 3, none⟩ = some (.int .u64 (dg (ab (x)) 2)) ∧ W'.cell? ⟨w.heap.size, 4, none⟩ = some (.int .u64 (dg (ab (x)) 3))) ∧ W'.cell? ⟨w.heap.size + 1, 0, none⟩ = some (.bool (ng (y))) ∧ W'.cell? ⟨w.heap.size + 1, 1, none⟩ = some (.int .u64 (dg (ab (y)) 0)) ∧ W'.cell? ⟨w.heap.size + 1, 2, none⟩ = some (.int .u64 (dg (ab (y)) 1)) ∧ W'.cell? ⟨w.heap.size + 1, 3, none⟩ = some (.int .u64 (dg (ab (y)) 2)) ∧ W'.cell? ⟨w.heap.size + 1, 4, none⟩ = some (.int .u64 (dg (ab (y)) 3))) ((exact HS.out _ (by focus (repeat (first | (with_reducible exact Below.refl _ _) | (with_reducible assumption) | ((with_reducible refine Below.setCell ?_ ?_ _); rotate_left; (focus (first | omega | (simp; done) | (simp; omega)))) | ((with_reducible refine Below.alloc ?_ ?_ _); rotate_left; (focus (first | omega | (simp; done) | (simp; omega)))) | (with_reducible refine Below.drew ?_) | (refine below_on ?_ (by assumption)))))))
      ((first
        | (go_at_call 18; have hq := hVa; clear hq; refine (from_z y HY.out _).mono ?_; rintro e wb ⟨vb, rfl, hVb, hb⟩; have hVa2 := BigAt.below hVa (below_on (by focus (repeat (first | (with_reducible exact Below.refl _ _) | (with_reducible assumption) | ((with_reducible refine Below.setCell ?_ ?_ _); rotate_left; (focus (first | omega | (simp; done) | (simp; omega)))) | ((with_reducible refine Below.alloc ?_ ?_ _); rotate_left; (focus (first | omega | (simp; done) | (simp; omega)))) | (with_reducible refine Below.drew ?_) | (refine below_on ?_ (by assumption))))) hb); have hD : Below w7.heap.size w7 wb := below_on (by focus (repeat (first | (with_reducible exact Below.refl _ _) | (with_reducible assumption) | ((with_reducible refine Below.setCell ?_ ?_ _); rotate_left; (focus (first | omega | (simp; done) | (simp; omega)))) | ((with_reducible refine Below.alloc ?_ ?_ _); rotate_left; (focus (first | omega | (simp; done) | (simp; omega)))) | (with_reducible refine Below.drew ?_) | (refine below_on ?_ (by assumption))))) hb; have hDz := hD.size; (first | (have zN := heap_below hb zN; have qN := cell_at zN; have fN := frozen_at zN; have lN := lt_of_block zN) | (have zN := heap_below hb (heap_new _ (.cells #[.bool false, .int .u64 0, .int .u64 0, .int .u64 0, .int .u64 0] 25)); have qN := cell_at zN; have fN := frozen_at zN; have lN := lt_of_block zN) | skip); clear hb)
        | (go_at_call 18; refine (from_z x HX.out _).mono ?_; rintro e wa ⟨va, rfl, hVa, hb⟩; have hD : Below w7.heap.size w7 wa := below_on (by focus (repeat (first | (with_reducible exact Below.refl _ _) | (with_reducible assumption) | ((with_reducible refine Below.setCell ?_ ?_ _); rotate_left; (focus (first | omega | (simp; done) | (simp; omega)))) | ((with_reducible refine Below.alloc ?_ ?_ _); rotate_left; (focus (first | omega | (simp; done) | (simp; omega)))) | (with_reducible refine Below.drew ?_) | (refine below_on ?_ (by assumption))))) hb; have hDz := hD.size; (first | (have zN := heap_below hb zN; have qN := cell_at zN; have fN := frozen_at zN; have lN := lt_of_block zN) | (have zN := heap_below hb (heap_new _ (.cells #[.bool false, .int .u64 0, .int .u64 0, .int .u64 0, .int .u64 0] 25)); have qN := cell_at zN; have fN := frozen_at zN; have lN := lt_of_block zN) | skip); clear hb)
        | (go_at_call 17; refine (rgcd_any x y _ _ HX.out HY.out _ (hVa2.below (by focus (repeat (first | (with_reducible exact Below.refl _ _) | (with_reducible assumption) | ((with_reducible refine Below.setCell ?_ ?_ _); rotate_left; (focus (first | omega | (simp; done) | (simp; omega)))) | ((with_reducible refine Below.alloc ?_ ?_ _); rotate_left; (focus (first | omega | (simp; done) | (simp; omega)))) | (with_reducible refine Below.drew ?_) | (refine below_on ?_ (by assumption)))))) (hVb.below (by focus (repeat (first | (with_reducible exact Below.refl _ _) | (with_reducible assumption) | ((with_reducible refine Below.setCell ?_ ?_ _); rotate_left; (focus (first | omega | (simp; done) | (simp; omega)))) | ((with_reducible refine Below.alloc ?_ ?_ _); rotate_left; (focus (first | omega | (simp; done) | (simp; omega)))) | (with_reducible refine Below.drew ?_) | (refine below_on ?_ (by assumption))))))).mono ?_; rintro e wc ⟨vc, rfl, hVc, hb⟩; have hD : Below w7.heap.size w7 wc := below_on (by focus (repeat (first | (with_reducible exact Below.refl _ _) | (with_reducible assumption) | ((with_reducible refine Below.setCell ?_ ?_ _); rotate_left; (focus (first | omega | (simp; done) | (simp; omega)))) | ((with_reducible refine Below.alloc ?_ ?_ _); rotate_left; (focus (first | omega | (simp; done) | (simp; omega)))) | (with_reducible refine Below.drew ?_) | (refine below_on ?_ (by assumption))))) hb; have hDz := hD.size; (first | (have zN := heap_below hb zN; have qN := cell_at zN; have fN := frozen_at zN; have lN := lt_of_block zN) | (have zN := heap_below hb (heap_new _ (.cells #[.bool false, .int .u64 0, .int .u64 0, .int .u64 0, .int .u64 0] 25)); have qN := cell_at zN; have fN := frozen_at zN; have lN := lt_of_block zN) | skip); clear hb)
        | (go_at_call 16; refine (rout_ok _ HGB.out _ _ (hVc.below (by focus (repeat (first | (with_reducible exact Below.refl _ _) | (with_reducible assumption) | ((with_reducible refine Below.setCell ?_ ?_ _); rotate_left; (focus (first | omega | (simp; done) | (simp; omega)))) | ((with_reducible refine Below.alloc ?_ ?_ _); rotate_left; (focus (first | omega | (simp; done) | (simp; omega)))) | (with_reducible refine Below.drew ?_) | (refine below_on ?_ (by assumption))))))).mono ?_; rintro e wd ⟨rfl, hb⟩; have hD : Below w7.heap.size w7 wd := below_on (by focus (repeat (first | (with_reducible exact Below.refl _ _) | (with_reducible assumption) | ((with_reducible refine Below.setCell ?_ ?_ _); rotate_left; (focus (first | omega | (simp; done) | (simp; omega)))) | ((with_reducible refine Below.alloc ?_ ?_ _); rotate_left; (focus (first | omega | (simp; done) | (simp; omega)))) | (with_reducible refine Below.drew ?_) | (refine below_on ?_ (by assumption))))) hb; have hDz := hD.size; (first | (have zN := heap_below hb zN; have qN := cell_at zN; have fN := frozen_at zN; have lN := lt_of_block zN) | (have zN := heap_below hb (heap_new _ (.cells #[.bool false, .int .u64 0, .int .u64 0, .int .u64 0, .int .u64 0] 25)); have qN := cell_at zN; have fN := frozen_at zN; have lN := lt_of_block zN) | skip); clear hb)))
    all_goals first
      | (obtain ⟨l1, l2, l3⟩ := laid_five _ wd (.bool (ng (((Nat.gcd (ab x) (ab y) : Nat) : Int)))) (.int .u64 (dg (ab (((Nat.gcd (ab x) (ab y) : Nat) : Int))) 0)) (.int .u64 (dg (ab (((Nat.gcd (ab x) (ab y) : Nat) : Int))) 1)) (.int .u64 (dg (ab (((Nat.gcd (ab x) (ab y) : Nat) : Int))) 2)) (.int .u64 (dg (ab (((Nat.gcd (ab x) (ab y) : Nat) : Int))) 3)); have zz := l1 zN rfl; have hF := hD.trans (l3 _ (by omega)); clear l1 l2 l3; exact ⟨rfl, _, _, _, _, _, _, _, _, _, _, rfl, zz, hF⟩)
      | (have zz := heap_new wd (.cells #[.bool (ng (((Nat.gcd (ab x) (ab y) : Nat) : Int))), .int .u64 (dg (ab (((Nat.gcd (ab x) (ab y) : Nat) : Int))) 0), .int .u64 (dg (ab (((Nat.gcd (ab x) (ab y) : Nat) : Int))) 1), .int .u64 (dg (ab (((Nat.gcd (ab x) (ab y) : Nat) : Int))) 2), .int .u64 (dg (ab (((Nat.gcd (ab x) (ab y) : Nat) : Int))) 3)] 25); have hF := Below.alloc hD (by omega) (.cells #[.bool (ng (((Nat.gcd (ab x) (ab y) : Nat) : Int))), .int .u64 (dg (ab (((Nat.gcd (ab x) (ab y) : Nat) : Int))) 0), .int .u64 (dg (ab (((Nat.gcd (ab x) (ab y) : Nat) : Int))) 1), .int .u64 (dg (ab (((Nat.gcd (ab x) (ab y) : Nat) : Int))) 2), .int .u64 (dg (ab (((Nat.gcd (ab x) (ab y) : Nat) : Int))) 3)] 25); exact ⟨rfl, _, _, _, _, _, _, _, _, _, _, rfl, zz, hF⟩)
  rintro a' w' ⟨u67, u68, u69, u70, u71, u72, u66, u73, u74, N, rfl, zN, hF⟩
  have k_a := (hF.block _ (lt_of_block h_a)).trans h_a
  have k_b := (hF.block _ (lt_of_block h_b)).trans h_b
  have k_q := (hF.block _ (lt_of_block h_q)).trans h_q
  have k_r := (hF.block _ (lt_of_block h_r)).trans h_r
  have k_g := (hF.block _ (lt_of_block h_g)).trans h_g
  have kB := below_on hB hF
  clear hB hF h_a h_b h_q h_r h_g
  have h_a := k_a
  have h_b := k_b
  have h_q := k_q
  have h_r := k_r
  have h_g := k_g
  have hB := kB
  have hsz0 := hB.size
  clear kB k_a k_b k_q k_r k_g
  generalize w' = V6 at *
  have h_want := zN
  clear zN
  have c_g := cell_at h_g
  have c_want := cell_at h_want
  go_upto_region 9 with ((go_at_call 14; refine (num_s _ _).mono ?_; rintro e w' ⟨rfl, rfl⟩))
  refine abs_wp (fun W => W.heap[w.heap.size]? = some (.cells #[.bool (ng (x)), .int .u64 (dg (ab (x)) 0), .int .u64 (dg (ab (x)) 1), .int .u64 (dg (ab (x)) 2), .int .u64 (dg (ab (x)) 3)] 25 (0, 0)) ∧ W.heap[w.heap.size + 1]? = some (.cells #[.bool (ng (y)), .int .u64 (dg (ab (y)) 0), .int .u64 (dg (ab (y)) 1), .int .u64 (dg (ab (y)) 2), .int .u64 (dg (ab (y)) 3)] 25 (0, 0)) ∧ W.heap[w2.heap.size]? = some (.cells #[.bool (ng (0)), .int .u64 (dg (ab (0)) 0), .int .u64 (dg (ab (0)) 1), .int .u64 (dg (ab (0)) 2), .int .u64 (dg (ab (0)) 3)] 25 (0, 0)) ∧ W.heap[w2.heap.size + 1]? = some (.cells #[.bool (ng (0)), .int .u64 (dg (ab (0)) 0), .int .u64 (dg (ab (0)) 1), .int .u64 (dg (ab (0)) 2), .int .u64 (dg (ab (0)) 3)] 25 (0, 0)) ∧ Below w.heap.size w W) ⟨h_a, h_b, h_q, h_r, (by focus (repeat (first | (with_reducible exact Below.refl _ _) | (with_reducible assumption) | ((with_reducible refine Below.setCell ?_ ?_ _); rotate_left; (focus (first | omega | (simp; done) | (simp; omega)))) | ((with_reducible refine Below.alloc ?_ ?_ _); rotate_left; (focus (first | omega | (simp; done) | (simp; omega)))) | (with_reducible refine Below.drew ?_) | (refine below_on ?_ (by assumption)))))⟩ fun W8 ⟨g_a, g_b, g_q, g_r, gB⟩ => ?_
  clear hB h_a h_b h_q h_r h_g h_want
  have h_a := g_a
  have h_b := g_b
  have h_q := g_q
  have h_r := g_r
  have hB := gB
  clear gB g_a g_b g_q g_r
  have c_b := cell_at h_b
  obtain ⟨hy1, hy2, hy3, hy4, hy5⟩ : ng y = false ∧ dg (ab y) 0 = 0 ∧ dg (ab y) 1 = 0 ∧ dg (ab y) 2 = 0 ∧ dg (ab y) 3 = 0 := by rw [HN.out]; exact ⟨rfl, dg_zero _, dg_zero _, dg_zero _, dg_zero _⟩
  go_upto_region 10 with (fail)
  refine abs_wp (fun W => W.heap[w.heap.size]? = some (.cells #[.bool (ng (x)), .int .u64 (dg (ab (x)) 0), .int .u64 (dg (ab (x)) 1), .int .u64 (dg (ab (x)) 2), .int .u64 (dg (ab (x)) 3)] 25 (0, 0)) ∧ W.heap[w.heap.size + 1]? = some (.cells #[.bool (ng (y)), .int .u64 (dg (ab (y)) 0), .int .u64 (dg (ab (y)) 1), .int .u64 (dg (ab (y)) 2), .int .u64 (dg (ab (y)) 3)] 25 (0, 0)) ∧ W.heap[w2.heap.size]? = some (.cells #[.bool (ng (0)), .int .u64 (dg (ab (0)) 0), .int .u64 (dg (ab (0)) 1), .int .u64 (dg (ab (0)) 2), .int .u64 (dg (ab (0)) 3)] 25 (0, 0)) ∧ W.heap[w2.heap.size + 1]? = some (.cells #[.bool (ng (0)), .int .u64 (dg (ab (0)) 0), .int .u64 (dg (ab (0)) 1), .int .u64 (dg (ab (0)) 2), .int .u64 (dg (ab (0)) 3)] 25 (0, 0)) ∧ Below w.heap.size w W) ⟨h_a, h_b, h_q, h_r, (by focus (repeat (first | (with_reducible exact Below.refl _ _) | (with_reducible assumption) | ((with_reducible refine Below.setCell ?_ ?_ _); rotate_left; (focus (first | omega | (simp; done) | (simp; omega)))) | ((with_reducible refine Below.alloc ?_ ?_ _); rotate_left; (focus (first | omega | (simp; done) | (simp; omega)))) | (with_reducible refine Below.drew ?_) | (refine below_on ?_ (by assumption)))))⟩ fun W9 ⟨g_a, g_b, g_q, g_r, gB⟩ => ?_
  clear hB h_a h_b h_q h_r
  have h_a := g_a
  have h_b := g_b
  have h_q := g_q
  have h_r := g_r
  have hB := gB
  clear gB g_a g_b g_q g_r
  clear hy1 hy2 hy3 hy4 hy5
  have c_q := cell_at h_q
  have c_r := cell_at h_r
  go_wp2_with ((go_at_call 14; refine (num_s _ _).mono ?_; rintro e w' ⟨rfl, rfl⟩))
  refine (works_any _).mono ?_
  rintro e wz ⟨rfl, hb⟩
  have hF := below_on hB hb
  go_wp2
  go_ret
  exact ⟨rfl, hF⟩
set_option maxRecDepth 100000 in
set_option maxHeartbeats 8000000 in
theorem quos_ok (x y : Int) (HX : Hd (ab x < 2 ^ 256)) (HY : Hd (ab y < 2 ^ 256)) (HGB : Hd (ab ((Nat.gcd (ab x) (ab y) : Nat) : Int) < 2 ^ 256)) (HN : Hd (y ≠ 0)) (HQB : Hd (ab (x.tdiv y) < 2 ^ 256)) (HRB : Hd (ab (x.tmod y) < 2 ^ 256)) (HI : Hd (ng y = false → dg (ab y) 0 = 0 → dg (ab y) 1 = 0 → dg (ab y) 2 = 0 → ¬ dg (ab y) 3 = 0)) (w : World) :
    Calls Try.prog 3 #[.agg #[.bool (ng (x)), .int .u64 (dg (ab (x)) 0), .int .u64 (dg (ab (x)) 1), .int .u64 (dg (ab (x)) 2), .int .u64 (dg (ab (x)) 3)], .agg #[.bool (ng (y)), .int .u64 (dg (ab (y)) 0), .int .u64 (dg (ab (y)) 1), .int .u64 (dg (ab (y)) 2), .int .u64 (dg (ab (y)) 3)]] w fun e w' => e = .returned (.bool true) ∧ Below w.heap.size w w' := by
  go_enter Try.func3, Try.ntmps3
  have hB := Below.refl w.heap.size w
  have hsz := hB.size
  go_upto_region 1 with (fail)
  refine abs_wp (fun W => W.heap[w.heap.size]? = some (.cells #[.bool (ng (x)), .int .u64 (dg (ab (x)) 0), .int .u64 (dg (ab (x)) 1), .int .u64 (dg (ab (x)) 2), .int .u64 (dg (ab (x)) 3)] 25 (0, 0)) ∧ W.heap[w.heap.size + 1]? = some (.cells #[.bool (ng (y)), .int .u64 (dg (ab (y)) 0), .int .u64 (dg (ab (y)) 1), .int .u64 (dg (ab (y)) 2), .int .u64 (dg (ab (y)) 3)] 25 (0, 0)) ∧ Below w.heap.size w W) ⟨heap_old (heap_new _ _) _, heap_at (by simp) _, (by focus (repeat (first | (with_reducible exact Below.refl _ _) | (with_reducible assumption) | ((with_reducible refine Below.setCell ?_ ?_ _); rotate_left; (focus (first | omega | (simp; done) | (simp; omega)))) | ((with_reducible refine Below.alloc ?_ ?_ _); rotate_left; (focus (first | omega | (simp; done) | (simp; omega)))) | (with_reducible refine Below.drew ?_) | (refine below_on ?_ (by assumption)))))⟩ fun W1 ⟨g_a, g_b, gB⟩ => ?_
  clear hB hsz 
  have h_a := g_a
  have h_b := g_b
  have hB := gB
  clear gB g_a g_b
  have c_a := cell_at h_a
  have c_b := cell_at h_b
  go_wp2_with fail
  refine (quo_at x y _ _ HX.out HY.out HN.out rfl rfl _).mono ?_
  rintro e w2 ⟨rfl, hb⟩
  have k_a := heap_below hb h_a
  have k_b := heap_below hb h_b
  have kB : Below w.heap.size w w2 := by
    have hsz := hB.size
    focus (repeat (first | (with_reducible exact Below.refl _ _) | (with_reducible assumption) | ((with_reducible refine Below.setCell ?_ ?_ _); rotate_left; (focus (first | omega | (simp; done) | (simp; omega)))) | ((with_reducible refine Below.alloc ?_ ?_ _); rotate_left; (focus (first | omega | (simp; done) | (simp; omega)))) | (with_reducible refine Below.drew ?_) | (refine below_on ?_ (by assumption))))
  have sz_w2 := kB.size
  have sl_w2 := lt_of_block k_b
  clear hB hb h_a h_b
  have h_a := k_a
  have h_b := k_b
  have hB := kB
  clear kB k_a k_b
  have hsz := hB.size
  go_upto_region 2 with (fail)
  refine abs_wp (fun W => W.heap[w.heap.size]? = some (.cells #[.bool (ng (x)), .int .u64 (dg (ab (x)) 0), .int .u64 (dg (ab (x)) 1), .int .u64 (dg (ab (x)) 2), .int .u64 (dg (ab (x)) 3)] 25 (0, 0)) ∧ W.heap[w.heap.size + 1]? = some (.cells #[.bool (ng (y)), .int .u64 (dg (ab (y)) 0), .int .u64 (dg (ab (y)) 1), .int .u64 (dg (ab (y)) 2), .int .u64 (dg (ab (y)) 3)] 25 (0, 0)) ∧ W.heap[w2.heap.size]? = some (.cells #[.bool (ng (x.tdiv y)), .int .u64 (dg (ab (x.tdiv y)) 0), .int .u64 (dg (ab (x.tdiv y)) 1), .int .u64 (dg (ab (x.tdiv y)) 2), .int .u64 (dg (ab (x.tdiv y)) 3)] 25 (0, 0)) ∧ W.heap[w2.heap.size + 1]? = some (.cells #[.bool (ng (x.tmod y)), .int .u64 (dg (ab (x.tmod y)) 0), .int .u64 (dg (ab (x.tmod y)) 1), .int .u64 (dg (ab (x.tmod y)) 2), .int .u64 (dg (ab (x.tmod y)) 3)] 25 (0, 0)) ∧ Below w.heap.size w W) ⟨heap_old (heap_old (h_a) _) _, heap_old (heap_old (h_b) _) _, heap_old (heap_new _ _) _, heap_at (by simp) _, (by focus (repeat (first | (with_reducible exact Below.refl _ _) | (with_reducible assumption) | ((with_reducible refine Below.setCell ?_ ?_ _); rotate_left; (focus (first | omega | (simp; done) | (simp; omega)))) | ((with_reducible refine Below.alloc ?_ ?_ _); rotate_left; (focus (first | omega | (simp; done) | (simp; omega)))) | (with_reducible refine Below.drew ?_) | (refine below_on ?_ (by assumption)))))⟩ fun W3 ⟨g_a, g_b, g_q, g_r, gB⟩ => ?_
  clear hB hsz h_a h_b
  have h_a := g_a
  have h_b := g_b
  have h_q := g_q
  have h_r := g_r
  have hB := gB
  clear gB g_a g_b g_q g_r
  have c_a := cell_at h_a
  have c_b := cell_at h_b
  go_wp2_with fail
  refine (gcd_at x y _ HX.out HY.out rfl _).mono ?_
  rintro e w4 ⟨rfl, hb⟩
  have k_a := heap_below hb h_a
  have k_b := heap_below hb h_b
  have k_q := heap_below hb h_q
  have k_r := heap_below hb h_r
  have kB : Below w.heap.size w w4 := by
    have hsz := hB.size
    focus (repeat (first | (with_reducible exact Below.refl _ _) | (with_reducible assumption) | ((with_reducible refine Below.setCell ?_ ?_ _); rotate_left; (focus (first | omega | (simp; done) | (simp; omega)))) | ((with_reducible refine Below.alloc ?_ ?_ _); rotate_left; (focus (first | omega | (simp; done) | (simp; omega)))) | (with_reducible refine Below.drew ?_) | (refine below_on ?_ (by assumption))))
  have sz_w4 := kB.size
  have sl_w4 := lt_of_block k_r
  clear hB hb h_a h_b h_q h_r
  have h_a := k_a
  have h_b := k_b
  have h_q := k_q
  have h_r := k_r
  have hB := kB
  clear kB k_a k_b k_q k_r
  have hsz := hB.size
  go_upto_region 3 with (fail)
  refine abs_wp (fun W => W.heap[w.heap.size]? = some (.cells #[.bool (ng (x)), .int .u64 (dg (ab (x)) 0), .int .u64 (dg (ab (x)) 1), .int .u64 (dg (ab (x)) 2), .int .u64 (dg (ab (x)) 3)] 25 (0, 0)) ∧ W.heap[w.heap.size + 1]? = some (.cells #[.bool (ng (y)), .int .u64 (dg (ab (y)) 0), .int .u64 (dg (ab (y)) 1), .int .u64 (dg (ab (y)) 2), .int .u64 (dg (ab (y)) 3)] 25 (0, 0)) ∧ W.heap[w2.heap.size]? = some (.cells #[.bool (ng (x.tdiv y)), .int .u64 (dg (ab (x.tdiv y)) 0), .int .u64 (dg (ab (x.tdiv y)) 1), .int .u64 (dg (ab (x.tdiv y)) 2), .int .u64 (dg (ab (x.tdiv y)) 3)] 25 (0, 0)) ∧ W.heap[w2.heap.size + 1]? = some (.cells #[.bool (ng (x.tmod y)), .int .u64 (dg (ab (x.tmod y)) 0), .int .u64 (dg (ab (x.tmod y)) 1), .int .u64 (dg (ab (x.tmod y)) 2), .int .u64 (dg (ab (x.tmod y)) 3)] 25 (0, 0)) ∧ W.heap[w4.heap.size]? = some (.cells #[.bool (ng (((Nat.gcd (ab x) (ab y) : Nat) : Int))), .int .u64 (dg (ab (((Nat.gcd (ab x) (ab y) : Nat) : Int))) 0), .int .u64 (dg (ab (((Nat.gcd (ab x) (ab y) : Nat) : Int))) 1), .int .u64 (dg (ab (((Nat.gcd (ab x) (ab y) : Nat) : Int))) 2), .int .u64 (dg (ab (((Nat.gcd (ab x) (ab y) : Nat) : Int))) 3)] 25 (0, 0)) ∧ Below w.heap.size w W) ⟨heap_old (h_a) _, heap_old (h_b) _, heap_old (h_q) _, heap_old (h_r) _, heap_new _ _, (by focus (repeat (first | (with_reducible exact Below.refl _ _) | (with_reducible assumption) | ((with_reducible refine Below.setCell ?_ ?_ _); rotate_left; (focus (first | omega | (simp; done) | (simp; omega)))) | ((with_reducible refine Below.alloc ?_ ?_ _); rotate_left; (focus (first | omega | (simp; done) | (simp; omega)))) | (with_reducible refine Below.drew ?_) | (refine below_on ?_ (by assumption)))))⟩ fun W5 ⟨g_a, g_b, g_q, g_r, g_g, gB⟩ => ?_
  clear hB hsz h_a h_b h_q h_r
  have h_a := g_a
  have h_b := g_b
  have h_q := g_q
  have h_r := g_r
  have h_g := g_g
  have hB := gB
  clear gB g_a g_b g_q g_r g_g
  have c_a := cell_at h_a
  go_wp2_with fail
  refine (rright_ok x HX.out _).mono ?_
  rintro e w6 ⟨rfl, hb⟩
  have k_a := heap_below hb h_a
  have k_b := heap_below hb h_b
  have k_q := heap_below hb h_q
  have k_r := heap_below hb h_r
  have k_g := heap_below hb h_g
  have kB : Below w.heap.size w w6 := by
    have hsz := hB.size
    focus (repeat (first | (with_reducible exact Below.refl _ _) | (with_reducible assumption) | ((with_reducible refine Below.setCell ?_ ?_ _); rotate_left; (focus (first | omega | (simp; done) | (simp; omega)))) | ((with_reducible refine Below.alloc ?_ ?_ _); rotate_left; (focus (first | omega | (simp; done) | (simp; omega)))) | (with_reducible refine Below.drew ?_) | (refine below_on ?_ (by assumption))))
  have sz_w6 := kB.size
  have sl_w6 := lt_of_block k_g
  clear hB hb h_a h_b h_q h_r h_g
  have h_a := k_a
  have h_b := k_b
  have h_q := k_q
  have h_r := k_r
  have h_g := k_g
  have hB := kB
  clear kB k_a k_b k_q k_r k_g
  have c_b := cell_at h_b
  go_wp2_with fail
  refine (rright_ok y HY.out _).mono ?_
  rintro e w7 ⟨rfl, hb⟩
  have k_a := heap_below hb h_a
  have k_b := heap_below hb h_b
  have k_q := heap_below hb h_q
  have k_r := heap_below hb h_r
  have k_g := heap_below hb h_g
  have kB : Below w.heap.size w w7 := by
    have hsz := hB.size
    focus (repeat (first | (with_reducible exact Below.refl _ _) | (with_reducible assumption) | ((with_reducible refine Below.setCell ?_ ?_ _); rotate_left; (focus (first | omega | (simp; done) | (simp; omega)))) | ((with_reducible refine Below.alloc ?_ ?_ _); rotate_left; (focus (first | omega | (simp; done) | (simp; omega)))) | (with_reducible refine Below.drew ?_) | (refine below_on ?_ (by assumption))))
  have sz_w7 := kB.size
  have sl_w7 := lt_of_block k_g
  clear hB hb h_a h_b h_q h_r h_g
  have h_a := k_a
  have h_b := k_b
  have h_q := k_q
  have h_r := k_r
  have h_g := k_g
  have hB := kB
  clear kB k_a k_b k_q k_r k_g
  go_upto_region 6 with (fail)
  refine region_abs (fun a0 a' w' => ∃ u67 u68 u69 u70 u71 u72 u66 u73 u74 N, a' = (Act.put (Act.put (Act.put (Act.put (Act.put (Act.put (Act.put (Act.put (Act.put (Act.put (Act.put a0 (some 67) u67) (some 68) u68) (some 69) u69) (some 70) u70) (some 71) u71) (some 72) u72) (some 66) u66) (some 73) u73) (some 74) u74) (some 11) (.pointer (some ⟨N, 0, none⟩))) (some 12) (.int .i64 0)) ∧ (w'.heap[N]? = some (.cells #[.bool (ng (((Nat.gcd (ab x) (ab y) : Nat) : Int))), .int .u64 (dg (ab (((Nat.gcd (ab x) (ab y) : Nat) : Int))) 0), .int .u64 (dg (ab (((Nat.gcd (ab x) (ab y) : Nat) : Int))) 1), .int .u64 (dg (ab (((Nat.gcd (ab x) (ab y) : Nat) : Int))) 2), .int .u64 (dg (ab (((Nat.gcd (ab x) (ab y) : Nat) : Int))) 3)] 25 (0, 0))) ∧ Below w7.heap.size w7 w') ?_ ?_
  · have HS : Hd (∀ W', Below w7.heap.size w7 W' → (W'.cell? ⟨w.heap.size, 0, none⟩ = some (.bool (ng (x))) ∧ W'.cell? ⟨w.heap.size, 1, none⟩ = some (.int .u64 (dg (ab (x)) 0)) ∧ W'.cell? ⟨w.heap.size, 2, none⟩ = some (.int .u64 (dg (ab (x)) 1)) ∧ W'.cell? ⟨w.heap.size, 3, none⟩ = some (.int .u64 (dg (ab (x)) 2)) ∧ W'.cell? ⟨w.heap.size, 4, none⟩ = some (.int .u64 (dg (ab (x)) 3))) ∧ W'.cell? ⟨w.heap.size + 1, 0, none⟩ = some (.bool (ng (y))) ∧ W'.cell? ⟨w.heap.size + 1, 1, none⟩ = some (.int .u64 (dg (ab (y)) 0)) ∧ W'.cell? ⟨w.heap.size + 1, 2, none⟩ = some (.int .u64 (dg (ab (y)) 1)) ∧ W'.cell? ⟨w.heap.size + 1, 3, none⟩ = some (.int .u64 (dg (ab (y)) 2)) ∧ W'.cell? ⟨w.heap.size + 1, 4, none⟩ = some (.int .u64 (dg (ab (y)) 3))) := ⟨fun W' h => ⟨(z_at h_a).below h, (z_at h_b).below h⟩⟩
    have hD : Below w7.heap.size w7 w7.drew := Below.drew (Below.refl _ _)
    have hDz := hD.size
    clear hB h_a h_b h_q h_r h_g
    go_region_held3 (fun W' => (W'.cell? ⟨w.heap.size, 0, none⟩ = some (.bool (ng (x))) ∧ W'.cell? ⟨w.heap.size, 1, none⟩ = some (.int .u64 (dg (ab (x)) 0)) ∧ W'.cell? ⟨w.heap.size, 2, none⟩ = some (.int .u64 (dg (ab (x)) 1)) ∧ W'.cell? ⟨w.heap.size, 3, none⟩ = some (.int .u64 (dg (ab (x)) 2)) ∧ W'.cell? ⟨w.heap.size, 4, none⟩ = some (.int .u64 (dg (ab (x)) 3))) ∧ W'.cell? ⟨w.heap.size + 1, 0, none⟩ = some (.bool (ng (y))) ∧ W'.cell? ⟨w.heap.size + 1, 1, none⟩ = some (.int .u64 (dg (ab (y)) 0)) ∧ W'.cell? ⟨w.heap.size + 1, 2, none⟩ = some (.int .u64 (dg (ab (y)) 1)) ∧ W'.cell? ⟨w.heap.size + 1, 3, none⟩ = some (.int .u64 (dg (ab (y)) 2)) ∧ W'.cell? ⟨w.heap.size + 1, 4, none⟩ = some (.int .u64 (dg (ab (y)) 3))) ((exact HS.out _ (by focus (repeat (first | (with_reducible exact Below.refl _ _) | (with_reducible assumption) | ((with_reducible refine Below.setCell ?_ ?_ _); rotate_left; (focus (first | omega | (simp; done) | (simp; omega)))) | ((with_reducible refine Below.alloc ?_ ?_ _); rotate_left; (focus (first | omega | (simp; done) | (simp; omega)))) | (with_reducible refine Below.drew ?_) | (refine below_on ?_ (by assumption)))))))
      ((first
        | (go_at_call 18; have hq := hVa; clear hq; refine (from_z y HY.out _).mono ?_; rintro e wb ⟨vb, rfl, hVb, hb⟩; have hVa2 := BigAt.below hVa (below_on (by focus (repeat (first | (with_reducible exact Below.refl _ _) | (with_reducible assumption) | ((with_reducible refine Below.setCell ?_ ?_ _); rotate_left; (focus (first | omega | (simp; done) | (simp; omega)))) | ((with_reducible refine Below.alloc ?_ ?_ _); rotate_left; (focus (first | omega | (simp; done) | (simp; omega)))) | (with_reducible refine Below.drew ?_) | (refine below_on ?_ (by assumption))))) hb); have hD : Below w7.heap.size w7 wb := below_on (by focus (repeat (first | (with_reducible exact Below.refl _ _) | (with_reducible assumption) | ((with_reducible refine Below.setCell ?_ ?_ _); rotate_left; (focus (first | omega | (simp; done) | (simp; omega)))) | ((with_reducible refine Below.alloc ?_ ?_ _); rotate_left; (focus (first | omega | (simp; done) | (simp; omega)))) | (with_reducible refine Below.drew ?_) | (refine below_on ?_ (by assumption))))) hb; have hDz := hD.size; (first | (have zN := heap_below hb zN; have qN := cell_at zN; have fN := frozen_at zN; have lN := lt_of_block zN) | (have zN := heap_below hb (heap_new _ (.cells #[.bool false, .int .u64 0, .int .u64 0, .int .u64 0, .int .u64 0] 25)); have qN := cell_at zN; have fN := frozen_at zN; have lN := lt_of_block zN) | skip); clear hb)
        | (go_at_call 18; refine (from_z x HX.out _).mono ?_; rintro e wa ⟨va, rfl, hVa, hb⟩; have hD : Below w7.heap.size w7 wa := below_on (by focus (repeat (first | (with_reducible exact Below.refl _ _) | (with_reducible assumption) | ((with_reducible refine Below.setCell ?_ ?_ _); rotate_left; (focus (first | omega | (simp; done) | (simp; omega)))) | ((with_reducible refine Below.alloc ?_ ?_ _); rotate_left; (focus (first | omega | (simp; done) | (simp; omega)))) | (with_reducible refine Below.drew ?_) | (refine below_on ?_ (by assumption))))) hb; have hDz := hD.size; (first | (have zN := heap_below hb zN; have qN := cell_at zN; have fN := frozen_at zN; have lN := lt_of_block zN) | (have zN := heap_below hb (heap_new _ (.cells #[.bool false, .int .u64 0, .int .u64 0, .int .u64 0, .int .u64 0] 25)); have qN := cell_at zN; have fN := frozen_at zN; have lN := lt_of_block zN) | skip); clear hb)
        | (go_at_call 17; refine (rgcd_any x y _ _ HX.out HY.out _ (hVa2.below (by focus (repeat (first | (with_reducible exact Below.refl _ _) | (with_reducible assumption) | ((with_reducible refine Below.setCell ?_ ?_ _); rotate_left; (focus (first | omega | (simp; done) | (simp; omega)))) | ((with_reducible refine Below.alloc ?_ ?_ _); rotate_left; (focus (first | omega | (simp; done) | (simp; omega)))) | (with_reducible refine Below.drew ?_) | (refine below_on ?_ (by assumption)))))) (hVb.below (by focus (repeat (first | (with_reducible exact Below.refl _ _) | (with_reducible assumption) | ((with_reducible refine Below.setCell ?_ ?_ _); rotate_left; (focus (first | omega | (simp; done) | (simp; omega)))) | ((with_reducible refine Below.alloc ?_ ?_ _); rotate_left; (focus (first | omega | (simp; done) | (simp; omega)))) | (with_reducible refine Below.drew ?_) | (refine below_on ?_ (by assumption))))))).mono ?_; rintro e wc ⟨vc, rfl, hVc, hb⟩; have hD : Below w7.heap.size w7 wc := below_on (by focus (repeat (first | (with_reducible exact Below.refl _ _) | (with_reducible assumption) | ((with_reducible refine Below.setCell ?_ ?_ _); rotate_left; (focus (first | omega | (simp; done) | (simp; omega)))) | ((with_reducible refine Below.alloc ?_ ?_ _); rotate_left; (focus (first | omega | (simp; done) | (simp; omega)))) | (with_reducible refine Below.drew ?_) | (refine below_on ?_ (by assumption))))) hb; have hDz := hD.size; (first | (have zN := heap_below hb zN; have qN := cell_at zN; have fN := frozen_at zN; have lN := lt_of_block zN) | (have zN := heap_below hb (heap_new _ (.cells #[.bool false, .int .u64 0, .int .u64 0, .int .u64 0, .int .u64 0] 25)); have qN := cell_at zN; have fN := frozen_at zN; have lN := lt_of_block zN) | skip); clear hb)
        | (go_at_call 16; refine (rout_ok _ HGB.out _ _ (hVc.below (by focus (repeat (first | (with_reducible exact Below.refl _ _) | (with_reducible assumption) | ((with_reducible refine Below.setCell ?_ ?_ _); rotate_left; (focus (first | omega | (simp; done) | (simp; omega)))) | ((with_reducible refine Below.alloc ?_ ?_ _); rotate_left; (focus (first | omega | (simp; done) | (simp; omega)))) | (with_reducible refine Below.drew ?_) | (refine below_on ?_ (by assumption))))))).mono ?_; rintro e wd ⟨rfl, hb⟩; have hD : Below w7.heap.size w7 wd := below_on (by focus (repeat (first | (with_reducible exact Below.refl _ _) | (with_reducible assumption) | ((with_reducible refine Below.setCell ?_ ?_ _); rotate_left; (focus (first | omega | (simp; done) | (simp; omega)))) | ((with_reducible refine Below.alloc ?_ ?_ _); rotate_left; (focus (first | omega | (simp; done) | (simp; omega)))) | (with_reducible refine Below.drew ?_) | (refine below_on ?_ (by assumption))))) hb; have hDz := hD.size; (first | (have zN := heap_below hb zN; have qN := cell_at zN; have fN := frozen_at zN; have lN := lt_of_block zN) | (have zN := heap_below hb (heap_new _ (.cells #[.bool false, .int .u64 0, .int .u64 0, .int .u64 0, .int .u64 0] 25)); have qN := cell_at zN; have fN := frozen_at zN; have lN := lt_of_block zN) | skip); clear hb)))
    all_goals first
      | (obtain ⟨l1, l2, l3⟩ := laid_five _ wd (.bool (ng (((Nat.gcd (ab x) (ab y) : Nat) : Int)))) (.int .u64 (dg (ab (((Nat.gcd (ab x) (ab y) : Nat) : Int))) 0)) (.int .u64 (dg (ab (((Nat.gcd (ab x) (ab y) : Nat) : Int))) 1)) (.int .u64 (dg (ab (((Nat.gcd (ab x) (ab y) : Nat) : Int))) 2)) (.int .u64 (dg (ab (((Nat.gcd (ab x) (ab y) : Nat) : Int))) 3)); have zz := l1 zN rfl; have hF := hD.trans (l3 _ (by omega)); clear l1 l2 l3; exact ⟨rfl, _, _, _, _, _, _, _, _, _, _, rfl, zz, hF⟩)
      | (have zz := heap_new wd (.cells #[.bool (ng (((Nat.gcd (ab x) (ab y) : Nat) : Int))), .int .u64 (dg (ab (((Nat.gcd (ab x) (ab y) : Nat) : Int))) 0), .int .u64 (dg (ab (((Nat.gcd (ab x) (ab y) : Nat) : Int))) 1), .int .u64 (dg (ab (((Nat.gcd (ab x) (ab y) : Nat) : Int))) 2), .int .u64 (dg (ab (((Nat.gcd (ab x) (ab y) : Nat) : Int))) 3)] 25); have hF := Below.alloc hD (by omega) (.cells #[.bool (ng (((Nat.gcd (ab x) (ab y) : Nat) : Int))), .int .u64 (dg (ab (((Nat.gcd (ab x) (ab y) : Nat) : Int))) 0), .int .u64 (dg (ab (((Nat.gcd (ab x) (ab y) : Nat) : Int))) 1), .int .u64 (dg (ab (((Nat.gcd (ab x) (ab y) : Nat) : Int))) 2), .int .u64 (dg (ab (((Nat.gcd (ab x) (ab y) : Nat) : Int))) 3)] 25); exact ⟨rfl, _, _, _, _, _, _, _, _, _, _, rfl, zz, hF⟩)
  rintro a' w' ⟨u67, u68, u69, u70, u71, u72, u66, u73, u74, N, rfl, zN, hF⟩
  have k_a := (hF.block _ (lt_of_block h_a)).trans h_a
  have k_b := (hF.block _ (lt_of_block h_b)).trans h_b
  have k_q := (hF.block _ (lt_of_block h_q)).trans h_q
  have k_r := (hF.block _ (lt_of_block h_r)).trans h_r
  have k_g := (hF.block _ (lt_of_block h_g)).trans h_g
  have kB := below_on hB hF
  clear hB hF h_a h_b h_q h_r h_g
  have h_a := k_a
  have h_b := k_b
  have h_q := k_q
  have h_r := k_r
  have h_g := k_g
  have hB := kB
  have hsz0 := hB.size
  clear kB k_a k_b k_q k_r k_g
  generalize w' = V6 at *
  have h_want := zN
  clear zN
  have c_g := cell_at h_g
  have c_want := cell_at h_want
  go_upto_region 9 with ((go_at_call 14; refine (num_s _ _).mono ?_; rintro e w' ⟨rfl, rfl⟩))
  refine abs_wp (fun W => W.heap[w.heap.size]? = some (.cells #[.bool (ng (x)), .int .u64 (dg (ab (x)) 0), .int .u64 (dg (ab (x)) 1), .int .u64 (dg (ab (x)) 2), .int .u64 (dg (ab (x)) 3)] 25 (0, 0)) ∧ W.heap[w.heap.size + 1]? = some (.cells #[.bool (ng (y)), .int .u64 (dg (ab (y)) 0), .int .u64 (dg (ab (y)) 1), .int .u64 (dg (ab (y)) 2), .int .u64 (dg (ab (y)) 3)] 25 (0, 0)) ∧ W.heap[w2.heap.size]? = some (.cells #[.bool (ng (x.tdiv y)), .int .u64 (dg (ab (x.tdiv y)) 0), .int .u64 (dg (ab (x.tdiv y)) 1), .int .u64 (dg (ab (x.tdiv y)) 2), .int .u64 (dg (ab (x.tdiv y)) 3)] 25 (0, 0)) ∧ W.heap[w2.heap.size + 1]? = some (.cells #[.bool (ng (x.tmod y)), .int .u64 (dg (ab (x.tmod y)) 0), .int .u64 (dg (ab (x.tmod y)) 1), .int .u64 (dg (ab (x.tmod y)) 2), .int .u64 (dg (ab (x.tmod y)) 3)] 25 (0, 0)) ∧ Below w.heap.size w W) ⟨h_a, h_b, h_q, h_r, (by focus (repeat (first | (with_reducible exact Below.refl _ _) | (with_reducible assumption) | ((with_reducible refine Below.setCell ?_ ?_ _); rotate_left; (focus (first | omega | (simp; done) | (simp; omega)))) | ((with_reducible refine Below.alloc ?_ ?_ _); rotate_left; (focus (first | omega | (simp; done) | (simp; omega)))) | (with_reducible refine Below.drew ?_) | (refine below_on ?_ (by assumption)))))⟩ fun W8 ⟨g_a, g_b, g_q, g_r, gB⟩ => ?_
  clear hB h_a h_b h_q h_r h_g h_want
  have h_a := g_a
  have h_b := g_b
  have h_q := g_q
  have h_r := g_r
  have hB := gB
  clear gB g_a g_b g_q g_r
  have c_b := cell_at h_b
  refine region_abs (fun a0 a' w' => ∃ u83 u84, a' = Act.put (Act.put (Act.put a0 (some 83) u83) (some 84) u84) (some 85) (.bool false) ∧ w' = W8) ?_ ?_
  · have himp := HI.out
    clear h_a h_q h_r
    cases hng : ng y
    · have himp := himp hng
      go_wp2
      all_goals first | exact ⟨rfl, _, _, rfl, rfl⟩ | (exfalso; simp_all; done)
    · go_wp2
      all_goals first | exact ⟨rfl, _, _, rfl, rfl⟩ | (exfalso; simp_all; done)
  rintro a' w9 ⟨u83, u84, rfl, hw9⟩
  rw [hw9]
  clear hw9 w9
  clear c_b
  simp only [Act.put, List.setIfInBounds_toArray, List.set_cons_succ, List.set_cons_zero]
  go_upto_region 11 with (fail)
  refine region_abs (fun a0 a' w' => ∃ u103 u104 u105 u106 u107 u102 u108 u109 M1 M2, a' = (Act.put (Act.put (Act.put (Act.put (Act.put (Act.put (Act.put (Act.put (Act.put (Act.put a0 (some 103) u103) (some 104) u104) (some 105) u105) (some 106) u106) (some 107) u107) (some 102) u102) (some 108) u108) (some 109) u109) (some 13) (.pointer (some ⟨M1, 0, none⟩))) (some 14) (.pointer (some ⟨M2, 0, none⟩))) ∧ (BigIn w' M1 (x.tdiv y) ∧ BigIn w' M2 (x.tmod y)) ∧ Below W8.heap.size W8 w') ?_ ?_
  · have HS : Hd (∀ W', Below W8.heap.size W8 W' → (W'.cell? ⟨w.heap.size, 0, none⟩ = some (.bool (ng (x))) ∧ W'.cell? ⟨w.heap.size, 1, none⟩ = some (.int .u64 (dg (ab (x)) 0)) ∧ W'.cell? ⟨w.heap.size, 2, none⟩ = some (.int .u64 (dg (ab (x)) 1)) ∧ W'.cell? ⟨w.heap.size, 3, none⟩ = some (.int .u64 (dg (ab (x)) 2)) ∧ W'.cell? ⟨w.heap.size, 4, none⟩ = some (.int .u64 (dg (ab (x)) 3))) ∧ W'.cell? ⟨w.heap.size + 1, 0, none⟩ = some (.bool (ng (y))) ∧ W'.cell? ⟨w.heap.size + 1, 1, none⟩ = some (.int .u64 (dg (ab (y)) 0)) ∧ W'.cell? ⟨w.heap.size + 1, 2, none⟩ = some (.int .u64 (dg (ab (y)) 1)) ∧ W'.cell? ⟨w.heap.size + 1, 3, none⟩ = some (.int .u64 (dg (ab (y)) 2)) ∧ W'.cell? ⟨w.heap.size + 1, 4, none⟩ = some (.int .u64 (dg (ab (y)) 3))) := ⟨fun W' h => ⟨(z_at h_a).below h, (z_at h_b).below h⟩⟩
    have hD : Below W8.heap.size W8 W8.drew := Below.drew (Below.refl _ _)
    have hDz := hD.size
    clear hB h_a h_b h_q h_r
    go_region_held3 (fun W' => (W'.cell? ⟨w.heap.size, 0, none⟩ = some (.bool (ng (x))) ∧ W'.cell? ⟨w.heap.size, 1, none⟩ = some (.int .u64 (dg (ab (x)) 0)) ∧ W'.cell? ⟨w.heap.size, 2, none⟩ = some (.int .u64 (dg (ab (x)) 1)) ∧ W'.cell? ⟨w.heap.size, 3, none⟩ = some (.int .u64 (dg (ab (x)) 2)) ∧ W'.cell? ⟨w.heap.size, 4, none⟩ = some (.int .u64 (dg (ab (x)) 3))) ∧ W'.cell? ⟨w.heap.size + 1, 0, none⟩ = some (.bool (ng (y))) ∧ W'.cell? ⟨w.heap.size + 1, 1, none⟩ = some (.int .u64 (dg (ab (y)) 0)) ∧ W'.cell? ⟨w.heap.size + 1, 2, none⟩ = some (.int .u64 (dg (ab (y)) 1)) ∧ W'.cell? ⟨w.heap.size + 1, 3, none⟩ = some (.int .u64 (dg (ab (y)) 2)) ∧ W'.cell? ⟨w.heap.size + 1, 4, none⟩ = some (.int .u64 (dg (ab (y)) 3))) ((exact HS.out _ (by focus (repeat (first | (with_reducible exact Below.refl _ _) | (with_reducible assumption) | ((with_reducible refine Below.setCell ?_ ?_ _); rotate_left; (focus (first | omega | (simp; done) | (simp; omega)))) | ((with_reducible refine Below.alloc ?_ ?_ _); rotate_left; (focus (first | omega | (simp; done) | (simp; omega)))) | (with_reducible refine Below.drew ?_) | (refine below_on ?_ (by assumption)))))))
      ((first
        | (go_at_call 18; have hq := hVa; clear hq; refine (from_z y HY.out _).mono ?_; rintro e wb ⟨vb, rfl, hVb, hb⟩; have hVa2 := BigAt.below hVa (below_on (by focus (repeat (first | (with_reducible exact Below.refl _ _) | (with_reducible assumption) | ((with_reducible refine Below.setCell ?_ ?_ _); rotate_left; (focus (first | omega | (simp; done) | (simp; omega)))) | ((with_reducible refine Below.alloc ?_ ?_ _); rotate_left; (focus (first | omega | (simp; done) | (simp; omega)))) | (with_reducible refine Below.drew ?_) | (refine below_on ?_ (by assumption))))) hb); have hD : Below W8.heap.size W8 wb := below_on (by focus (repeat (first | (with_reducible exact Below.refl _ _) | (with_reducible assumption) | ((with_reducible refine Below.setCell ?_ ?_ _); rotate_left; (focus (first | omega | (simp; done) | (simp; omega)))) | ((with_reducible refine Below.alloc ?_ ?_ _); rotate_left; (focus (first | omega | (simp; done) | (simp; omega)))) | (with_reducible refine Below.drew ?_) | (refine below_on ?_ (by assumption))))) hb; have hDz := hD.size; (first | (have zN := heap_below hb zN; have qN := cell_at zN; have fN := frozen_at zN; have lN := lt_of_block zN; have nN := Nat.ne_of_lt lN; have nN2 := Nat.ne_of_gt lN; (first | (have zM := heap_below hb zM; have qM := cell_at zM; have fM := frozen_at zM; have lM := lt_of_block zM; have nM := Nat.ne_of_lt lM; have nM2 := Nat.ne_of_gt lM) | skip)) | (have zN := heap_below hb (heap_old zN _); have qN := cell_at zN; have fN := frozen_at zN; have lN := lt_of_block zN; have nN := Nat.ne_of_lt lN; have nN2 := Nat.ne_of_gt lN; have zM := heap_below hb (heap_new _ (.cells #[.bool false, .slice none 0 0] 38)); have qM := cell_at zM; have fM := frozen_at zM; have lM := lt_of_block zM; have nM := Nat.ne_of_lt lM; have nM2 := Nat.ne_of_gt lM) | (have zM := heap_below hb (heap_two _ (.cells #[.bool false, .slice none 0 0] 38) (.cells #[.bool false, .slice none 0 0] 38)); have zN := heap_below hb (heap_old (heap_new _ (.cells #[.bool false, .slice none 0 0] 38)) _); have qN := cell_at zN; have fN := frozen_at zN; have lN := lt_of_block zN; have nN := Nat.ne_of_lt lN; have nN2 := Nat.ne_of_gt lN; have qM := cell_at zM; have fM := frozen_at zM; have lM := lt_of_block zM; have nM := Nat.ne_of_lt lM; have nM2 := Nat.ne_of_gt lM) | (have zN := heap_below hb (heap_new _ (.cells #[.bool false, .slice none 0 0] 38)); have qN := cell_at zN; have fN := frozen_at zN; have lN := lt_of_block zN; have nN := Nat.ne_of_lt lN; have nN2 := Nat.ne_of_gt lN) | skip); clear hb)
        | (go_at_call 18; refine (from_z x HX.out _).mono ?_; rintro e wa ⟨va, rfl, hVa, hb⟩; have hD : Below W8.heap.size W8 wa := below_on (by focus (repeat (first | (with_reducible exact Below.refl _ _) | (with_reducible assumption) | ((with_reducible refine Below.setCell ?_ ?_ _); rotate_left; (focus (first | omega | (simp; done) | (simp; omega)))) | ((with_reducible refine Below.alloc ?_ ?_ _); rotate_left; (focus (first | omega | (simp; done) | (simp; omega)))) | (with_reducible refine Below.drew ?_) | (refine below_on ?_ (by assumption))))) hb; have hDz := hD.size; (first | (have zN := heap_below hb zN; have qN := cell_at zN; have fN := frozen_at zN; have lN := lt_of_block zN; have nN := Nat.ne_of_lt lN; have nN2 := Nat.ne_of_gt lN; (first | (have zM := heap_below hb zM; have qM := cell_at zM; have fM := frozen_at zM; have lM := lt_of_block zM; have nM := Nat.ne_of_lt lM; have nM2 := Nat.ne_of_gt lM) | skip)) | (have zN := heap_below hb (heap_old zN _); have qN := cell_at zN; have fN := frozen_at zN; have lN := lt_of_block zN; have nN := Nat.ne_of_lt lN; have nN2 := Nat.ne_of_gt lN; have zM := heap_below hb (heap_new _ (.cells #[.bool false, .slice none 0 0] 38)); have qM := cell_at zM; have fM := frozen_at zM; have lM := lt_of_block zM; have nM := Nat.ne_of_lt lM; have nM2 := Nat.ne_of_gt lM) | (have zM := heap_below hb (heap_two _ (.cells #[.bool false, .slice none 0 0] 38) (.cells #[.bool false, .slice none 0 0] 38)); have zN := heap_below hb (heap_old (heap_new _ (.cells #[.bool false, .slice none 0 0] 38)) _); have qN := cell_at zN; have fN := frozen_at zN; have lN := lt_of_block zN; have nN := Nat.ne_of_lt lN; have nN2 := Nat.ne_of_gt lN; have qM := cell_at zM; have fM := frozen_at zM; have lM := lt_of_block zM; have nM := Nat.ne_of_lt lM; have nM2 := Nat.ne_of_gt lM) | (have zN := heap_below hb (heap_new _ (.cells #[.bool false, .slice none 0 0] 38)); have qN := cell_at zN; have fN := frozen_at zN; have lN := lt_of_block zN; have nN := Nat.ne_of_lt lN; have nN2 := Nat.ne_of_gt lN) | skip); clear hb)
        | (go_at_call 19; refine (rquo_any x y HN.out _ _ (dd_small HX.out) (Nat.le_trans ((dd_len16 _).2 HY.out) (by decide)) _ (hVa2.below (by focus (repeat (first | (with_reducible exact Below.refl _ _) | (with_reducible assumption) | ((with_reducible refine Below.setCell ?_ ?_ _); rotate_left; (focus (first | omega | (simp; done) | (simp; omega)))) | ((with_reducible refine Below.alloc ?_ ?_ _); rotate_left; (focus (first | omega | (simp; done) | (simp; omega)))) | (with_reducible refine Below.drew ?_) | (refine below_on ?_ (by assumption)))))) (hVb.below (by focus (repeat (first | (with_reducible exact Below.refl _ _) | (with_reducible assumption) | ((with_reducible refine Below.setCell ?_ ?_ _); rotate_left; (focus (first | omega | (simp; done) | (simp; omega)))) | ((with_reducible refine Below.alloc ?_ ?_ _); rotate_left; (focus (first | omega | (simp; done) | (simp; omega)))) | (with_reducible refine Below.drew ?_) | (refine below_on ?_ (by assumption))))))).mono ?_; rintro e wc ⟨vc, vd, rfl, hVc, hVd, hb⟩; obtain ⟨A1, c1, rfl, h11, h12⟩ := hVc; obtain ⟨A2, c2, rfl, h21, h22⟩ := hVd; have hD : Below W8.heap.size W8 wc := below_on (by focus (repeat (first | (with_reducible exact Below.refl _ _) | (with_reducible assumption) | ((with_reducible refine Below.setCell ?_ ?_ _); rotate_left; (focus (first | omega | (simp; done) | (simp; omega)))) | ((with_reducible refine Below.alloc ?_ ?_ _); rotate_left; (focus (first | omega | (simp; done) | (simp; omega)))) | (with_reducible refine Below.drew ?_) | (refine below_on ?_ (by assumption))))) hb; have hDz := hD.size; (first | (have zN := heap_below hb zN; have qN := cell_at zN; have fN := frozen_at zN; have lN := lt_of_block zN; have nN := Nat.ne_of_lt lN; have nN2 := Nat.ne_of_gt lN; (first | (have zM := heap_below hb zM; have qM := cell_at zM; have fM := frozen_at zM; have lM := lt_of_block zM; have nM := Nat.ne_of_lt lM; have nM2 := Nat.ne_of_gt lM) | skip)) | (have zN := heap_below hb (heap_old zN _); have qN := cell_at zN; have fN := frozen_at zN; have lN := lt_of_block zN; have nN := Nat.ne_of_lt lN; have nN2 := Nat.ne_of_gt lN; have zM := heap_below hb (heap_new _ (.cells #[.bool false, .slice none 0 0] 38)); have qM := cell_at zM; have fM := frozen_at zM; have lM := lt_of_block zM; have nM := Nat.ne_of_lt lM; have nM2 := Nat.ne_of_gt lM) | (have zM := heap_below hb (heap_two _ (.cells #[.bool false, .slice none 0 0] 38) (.cells #[.bool false, .slice none 0 0] 38)); have zN := heap_below hb (heap_old (heap_new _ (.cells #[.bool false, .slice none 0 0] 38)) _); have qN := cell_at zN; have fN := frozen_at zN; have lN := lt_of_block zN; have nN := Nat.ne_of_lt lN; have nN2 := Nat.ne_of_gt lN; have qM := cell_at zM; have fM := frozen_at zM; have lM := lt_of_block zM; have nM := Nat.ne_of_lt lM; have nM2 := Nat.ne_of_gt lM) | (have zN := heap_below hb (heap_new _ (.cells #[.bool false, .slice none 0 0] 38)); have qN := cell_at zN; have fN := frozen_at zN; have lN := lt_of_block zN; have nN := Nat.ne_of_lt lN; have nN2 := Nat.ne_of_gt lN) | skip); clear hb)))
    all_goals first
      | (obtain ⟨L1, L2, L3⟩ := lay_two zN zM (by omega) h11 h12 h21 h22; refine ⟨rfl, _, _, _, _, _, _, _, _, _, _, rfl, ?_⟩; (with_reducible exact ⟨⟨L1, L2⟩, hD.trans (L3 _ (by omega) (by omega))⟩))
      | (obtain ⟨L1, L2, L3⟩ := lay_two zM zN (by omega) h11 h12 h21 h22; refine ⟨rfl, _, _, _, _, _, _, _, _, _, _, rfl, ?_⟩; (with_reducible exact ⟨⟨L1, L2⟩, hD.trans (L3 _ (by omega) (by omega))⟩))
      | (obtain ⟨L1, L2, L3⟩ := lay_set_alloc zN h11 h12 h21 h22; refine ⟨rfl, _, _, _, _, _, _, _, _, _, _, rfl, ?_⟩; (with_reducible exact ⟨⟨L1, L2⟩, hD.trans (L3 _ (by omega))⟩))
      | (obtain ⟨L1, L2, L3⟩ := lay_set_alloc zN h21 h22 h11 h12; refine ⟨rfl, _, _, _, _, _, _, _, _, _, _, rfl, ?_⟩; (with_reducible exact ⟨⟨L2, L1⟩, hD.trans (L3 _ (by omega))⟩))
      | (obtain ⟨L1, L2, L3⟩ := lay_alloc2 h11 h12 h21 h22; refine ⟨rfl, _, _, _, _, _, _, _, _, _, _, rfl, ?_⟩; (with_reducible exact ⟨⟨L1, L2⟩, hD.trans (L3 _ (by omega))⟩))
      | (obtain ⟨L1, L2, L3⟩ := lay_alloc2 h21 h22 h11 h12; refine ⟨rfl, _, _, _, _, _, _, _, _, _, _, rfl, ?_⟩; (with_reducible exact ⟨⟨L2, L1⟩, hD.trans (L3 _ (by omega))⟩))
  rintro a' w' ⟨u103, u104, u105, u106, u107, u102, u108, u109, M1, M2, rfl, ⟨zM1, zM2⟩, hF⟩
  have k_a := (hF.block _ (lt_of_block h_a)).trans h_a
  have k_b := (hF.block _ (lt_of_block h_b)).trans h_b
  have k_q := (hF.block _ (lt_of_block h_q)).trans h_q
  have k_r := (hF.block _ (lt_of_block h_r)).trans h_r
  have kB := below_on hB hF
  clear hB hF h_a h_b h_q h_r
  have h_a := k_a
  have h_b := k_b
  have h_q := k_q
  have h_r := k_r
  have hB := kB
  have hsz0 := hB.size
  clear kB k_a k_b k_q k_r
  generalize w' = V11 at *
  obtain ⟨Aq, cq, zq, hq1, hq2⟩ := zM1
  have c_zq := cell_at zq
  go_wp2_with fail
  refine (rout_ok (x.tdiv y) HQB.out _ _ ⟨Aq, cq, rfl, hq1, hq2⟩).mono ?_
  rintro e w9 ⟨rfl, hb⟩
  have zM2 := zM2.below hb
  clear c_zq zq hq1 hq2
  have k_a := heap_below hb h_a
  have k_b := heap_below hb h_b
  have k_q := heap_below hb h_q
  have k_r := heap_below hb h_r
  have kB : Below w.heap.size w w9 := by
    have hsz := hB.size
    focus (repeat (first | (with_reducible exact Below.refl _ _) | (with_reducible assumption) | ((with_reducible refine Below.setCell ?_ ?_ _); rotate_left; (focus (first | omega | (simp; done) | (simp; omega)))) | ((with_reducible refine Below.alloc ?_ ?_ _); rotate_left; (focus (first | omega | (simp; done) | (simp; omega)))) | (with_reducible refine Below.drew ?_) | (refine below_on ?_ (by assumption))))
  have sz_w9 := kB.size
  have sl_w9 := lt_of_block k_r
  clear hB hb h_a h_b h_q h_r
  have h_a := k_a
  have h_b := k_b
  have h_q := k_q
  have h_r := k_r
  have hB := kB
  clear kB k_a k_b k_q k_r
  obtain ⟨Ar, cr, zr, hr1, hr2⟩ := zM2
  have c_zr := cell_at zr
  have lr := lt_of_block zr
  go_wp2_with fail
  refine (rout_ok (x.tmod y) HRB.out _ _ ⟨Ar, cr, rfl, hr1, hr2.below (by focus (repeat (first | (with_reducible exact Below.refl _ _) | (with_reducible assumption) | ((with_reducible refine Below.setCell ?_ ?_ _); rotate_left; (focus (first | omega | (simp; done) | (simp; omega)))) | ((with_reducible refine Below.alloc ?_ ?_ _); rotate_left; (focus (first | omega | (simp; done) | (simp; omega)))) | (with_reducible refine Below.drew ?_) | (refine below_on ?_ (by assumption)))))⟩).mono ?_
  rintro e w10 ⟨rfl, hb⟩
  have k_quo := heap_below hb (heap_new _ (.cells #[.bool (ng (x.tdiv y)), .int .u64 (dg (ab (x.tdiv y)) 0), .int .u64 (dg (ab (x.tdiv y)) 1), .int .u64 (dg (ab (x.tdiv y)) 2), .int .u64 (dg (ab (x.tdiv y)) 3)] 25))
  clear c_zr zr hr1 hr2 lr
  have k_a := heap_below hb (heap_old h_a _)
  have k_b := heap_below hb (heap_old h_b _)
  have k_q := heap_below hb (heap_old h_q _)
  have k_r := heap_below hb (heap_old h_r _)
  have kB : Below w.heap.size w w10 := by
    have hsz := hB.size
    focus (repeat (first | (with_reducible exact Below.refl _ _) | (with_reducible assumption) | ((with_reducible refine Below.setCell ?_ ?_ _); rotate_left; (focus (first | omega | (simp; done) | (simp; omega)))) | ((with_reducible refine Below.alloc ?_ ?_ _); rotate_left; (focus (first | omega | (simp; done) | (simp; omega)))) | (with_reducible refine Below.drew ?_) | (refine below_on ?_ (by assumption))))
  have sz_w10 := kB.size
  have sl_w10 := lt_of_block k_r
  clear hB hb h_a h_b h_q h_r
  have h_a := k_a
  have h_b := k_b
  have h_q := k_q
  have h_r := k_r
  have hB := kB
  clear kB k_a k_b k_q k_r
  have h_quo := k_quo
  clear k_quo
  have hsz := hB.size
  go_upto_region 14 with (fail)
  refine abs_wp (fun W => W.heap[w.heap.size]? = some (.cells #[.bool (ng (x)), .int .u64 (dg (ab (x)) 0), .int .u64 (dg (ab (x)) 1), .int .u64 (dg (ab (x)) 2), .int .u64 (dg (ab (x)) 3)] 25 (0, 0)) ∧ W.heap[w.heap.size + 1]? = some (.cells #[.bool (ng (y)), .int .u64 (dg (ab (y)) 0), .int .u64 (dg (ab (y)) 1), .int .u64 (dg (ab (y)) 2), .int .u64 (dg (ab (y)) 3)] 25 (0, 0)) ∧ W.heap[w2.heap.size]? = some (.cells #[.bool (ng (x.tdiv y)), .int .u64 (dg (ab (x.tdiv y)) 0), .int .u64 (dg (ab (x.tdiv y)) 1), .int .u64 (dg (ab (x.tdiv y)) 2), .int .u64 (dg (ab (x.tdiv y)) 3)] 25 (0, 0)) ∧ W.heap[w2.heap.size + 1]? = some (.cells #[.bool (ng (x.tmod y)), .int .u64 (dg (ab (x.tmod y)) 0), .int .u64 (dg (ab (x.tmod y)) 1), .int .u64 (dg (ab (x.tmod y)) 2), .int .u64 (dg (ab (x.tmod y)) 3)] 25 (0, 0)) ∧ W.heap[w9.heap.size]? = some (.cells #[.bool (ng (x.tdiv y)), .int .u64 (dg (ab (x.tdiv y)) 0), .int .u64 (dg (ab (x.tdiv y)) 1), .int .u64 (dg (ab (x.tdiv y)) 2), .int .u64 (dg (ab (x.tdiv y)) 3)] 25 (0, 0)) ∧ W.heap[w10.heap.size]? = some (.cells #[.bool (ng (x.tmod y)), .int .u64 (dg (ab (x.tmod y)) 0), .int .u64 (dg (ab (x.tmod y)) 1), .int .u64 (dg (ab (x.tmod y)) 2), .int .u64 (dg (ab (x.tmod y)) 3)] 25 (0, 0)) ∧ Below w.heap.size w W) ⟨heap_old (h_a) _, heap_old (h_b) _, heap_old (h_q) _, heap_old (h_r) _, heap_old (h_quo) _, heap_new _ _, (by focus (repeat (first | (with_reducible exact Below.refl _ _) | (with_reducible assumption) | ((with_reducible refine Below.setCell ?_ ?_ _); rotate_left; (focus (first | omega | (simp; done) | (simp; omega)))) | ((with_reducible refine Below.alloc ?_ ?_ _); rotate_left; (focus (first | omega | (simp; done) | (simp; omega)))) | (with_reducible refine Below.drew ?_) | (refine below_on ?_ (by assumption)))))⟩ fun W11 ⟨g_a, g_b, g_q, g_r, g_quo, g_rest, gB⟩ => ?_
  clear hB hsz h_a h_b h_q h_r h_quo
  have h_a := g_a
  have h_b := g_b
  have h_q := g_q
  have h_r := g_r
  have h_quo := g_quo
  have h_rest := g_rest
  have hB := gB
  clear gB g_a g_b g_q g_r g_quo g_rest
  have c_q := cell_at h_q
  have c_r := cell_at h_r
  have c_quo := cell_at h_quo
  have c_rest := cell_at h_rest
  go_wp2_with ((go_at_call 14; refine (num_s _ _).mono ?_; rintro e w' ⟨rfl, rfl⟩))
  refine (works_any _).mono ?_
  rintro e wz ⟨rfl, hb⟩
  have hF := below_on hB hb
  go_wp2
  go_ret
  exact ⟨rfl, hF⟩
end Go.Proofs.Yteibcklcegkbcaa
