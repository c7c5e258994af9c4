/-
  Walks: Sub. Conditions stand in each theorem.
-/
import Derived.Test.YteibcklcegkbcaaLm14
namespace Go.Proofs.Yteibcklcegkbcaa
open Go.RowKit Go.BigFrame

theorem neg_ok (z : Int) (hz : ab z < 2 ^ 256) (w : World) :
    Calls Try.prog 25 #[.agg #[.bool (ng (z)), .int .u64 (dg (ab (z)) 0), .int .u64 (dg (ab (z)) 1), .int .u64 (dg (ab (z)) 2), .int .u64 (dg (ab (z)) 3)]] w fun e w' => e = .returned (.tuple #[.agg #[.bool (ng (-z)), .int .u64 (dg (ab (-z)) 0), .int .u64 (dg (ab (-z)) 1), .int .u64 (dg (ab (-z)) 2), .int .u64 (dg (ab (-z)) 3)], .int .i64 0]) ∧ Below w.heap.size w w' := by
  have h := neg_any (pr z) hz w
  have h1 : negV (pr z) = -z := by
    unfold negV; rw [if_pos (pr_ok z)]; exact congrArg (fun x => -x) (zof_ng_ab z)
  have h2 : errC (pr z) = 0 := by unfold errC; rw [if_pos (pr_ok z)]
  rw [h1, h2] at h
  exact h
theorem neg_bad (p : Bool × Nat) (hp : p.2 < 2 ^ 256) (h : ¬ okP p) (w : World) :
    Calls Try.prog 25 #[.agg #[.bool (p.1), .int .u64 (dg (p.2) 0), .int .u64 (dg (p.2) 1), .int .u64 (dg (p.2) 2), .int .u64 (dg (p.2) 3)]] w fun e w' => e = .returned (.tuple #[.agg #[.bool (ng (0)), .int .u64 (dg (ab (0)) 0), .int .u64 (dg (ab (0)) 1), .int .u64 (dg (ab (0)) 2), .int .u64 (dg (ab (0)) 3)], .int .i64 2]) ∧ Below w.heap.size w w' := by
  have h' := neg_any p hp w
  have h1 : negV p = 0 := by
    unfold negV; rw [if_neg h]
  have h2 : errC p = 2 := by unfold errC; rw [if_neg h]
  rw [h1, h2] at h'
  exact h'
theorem ab_neg' (z : Int) : ab (-z) = ab z := by unfold ab; omega
theorem ints_two_z {W : World} {b : Nat} {t : TypeId} {f : Nat × Nat} {x y : Int} (hx : ab x < 2 ^ 256) (hy : ab y < 2 ^ 256)
    (h : W.heap[b]? = some (.cells #[.bool (ng x), .int .u64 (dg (ab x) 0), .int .u64 (dg (ab x) 1), .int .u64 (dg (ab x) 2), .int .u64 (dg (ab x) 3), .bool (ng y), .int .u64 (dg (ab y) 0), .int .u64 (dg (ab y) 1), .int .u64 (dg (ab y) 2), .int .u64 (dg (ab y) 3)] t f)) :
    IntsAt W (some ⟨b, 0, none⟩) ([x, y].map pr) := ints_two (p := pr x) (q := pr y) hx hy h
theorem abs_post {P : Program} {fn : Func} {R : Ending → World → Prop} {e : Exit} {a : Act} {w : World} (I : World → Prop) (h0 : I w) (h : ∀ W, I W → bodyPost P fn R e a W) : bodyPost P fn R e a w := h w h0
set_option maxHeartbeats 1000000 in
theorem sub_ok (x y : Int) (hx : ab x < 2 ^ 256) (hy : ab y < 2 ^ 256) (w : World) :
    Calls Try.prog 37 #[.agg #[.bool (ng (x)), .int .u64 (dg (ab (x)) 0), .int .u64 (dg (ab (x)) 1), .int .u64 (dg (ab (x)) 2), .int .u64 (dg (ab (x)) 3)], .agg #[.bool (ng (y)), .int .u64 (dg (ab (y)) 0), .int .u64 (dg (ab (y)) 1), .int .u64 (dg (ab (y)) 2), .int .u64 (dg (ab (y)) 3)]] w fun e w' => e = .returned (.tuple #[.agg #[.bool (ng (addV [x, -y])), .int .u64 (dg (ab (addV [x, -y])) 0), .int .u64 (dg (ab (addV [x, -y])) 1), .int .u64 (dg (ab (addV [x, -y])) 2), .int .u64 (dg (ab (addV [x, -y])) 3)], .int .i64 (addE [x, -y])]) ∧ Below w.heap.size w w' := by
  have HX := Hd.mk hx
  have HY := Hd.mk hy
  have HY2 : Hd (ab (-y) < 2 ^ 256) := ⟨by rw [ab_neg']; exact hy⟩
  clear hx hy
  go_enter Try.func37, Try.ntmps37
  go_wp2_with fail
  refine (neg_ok _ HY.out _).mono ?_
  rintro e w1 ⟨rfl, hb1⟩
  have z0 : w1.heap[w.heap.size]? = some _ := heap_below hb1 (heap_old (heap_old (heap_new w _) _) _)
  have c0 := cell_at z0
  have f0 := frozen_at z0
  have z2 : w1.heap[w.heap.size + 1 + 1]? = some _ := heap_below hb1 (heap_at (n := w.heap.size + 1 + 1) (by simp) _)
  have c2 := cell_at z2
  have f2 := frozen_at z2
  have hw1 : Below w.heap.size w w1 := by
    focus (repeat (first | (with_reducible exact Below.refl _ _) | (with_reducible assumption) | ((with_reducible refine Below.setCell ?_ ?_ _); rotate_left; (focus (first | omega | (simp; done) | (simp; omega)))) | ((with_reducible refine Below.alloc ?_ ?_ _); rotate_left; (focus (first | omega | (simp; done) | (simp; omega)))) | (with_reducible refine Below.drew ?_) | (refine below_on ?_ (by assumption))))
  have hsz : w.heap.size + 1 + 1 < w1.heap.size := lt_of_block z2
  clear hb1
  go_upto_region 4 with (fail)
  refine abs_wp (fun W => W.heap[w.heap.size]? = some (.cells #[.bool (ng (x)), .int .u64 (dg (ab (x)) 0), .int .u64 (dg (ab (x)) 1), .int .u64 (dg (ab (x)) 2), .int .u64 (dg (ab (x)) 3)] 25 (0, 0)) ∧ W.heap[w.heap.size + 1 + 1]? = some (.cells #[.bool false, .int .u64 0, .int .u64 0, .int .u64 0, .int .u64 0] 25 (0, 0)) ∧ W.heap[w1.heap.size]? = some (.cells #[.bool (ng (-y)), .int .u64 (dg (ab (-y)) 0), .int .u64 (dg (ab (-y)) 1), .int .u64 (dg (ab (-y)) 2), .int .u64 (dg (ab (-y)) 3)] 25 (0, 0)) ∧ Below w.heap.size w W) ⟨heap_old z0 _, heap_old z2 _, heap_new _ _, by focus (repeat (first | (with_reducible exact Below.refl _ _) | (with_reducible assumption) | ((with_reducible refine Below.setCell ?_ ?_ _); rotate_left; (focus (first | omega | (simp; done) | (simp; omega)))) | ((with_reducible refine Below.alloc ?_ ?_ _); rotate_left; (focus (first | omega | (simp; done) | (simp; omega)))) | (with_reducible refine Below.drew ?_) | (refine below_on ?_ (by assumption))))⟩ fun W ⟨y0, y2, y3, hB⟩ => ?_
  clear z0 c0 f0 z2 c2 f2 hw1
  have c0 := cell_at y0
  have c3 := cell_at y3
  go_wp2_with fail
  refine (add_ok _ _ [x, -y] _ (ints_two_z (b := W.heap.size) HX.out HY2.out (by focus (repeat (first | (with_reducible exact heap_at (by first | rfl | (simp; done) | (simp; omega)) _) | (with_reducible refine heap_old ?_ _)))))).mono ?_
  rintro e w2 ⟨rfl, hb2⟩
  have z4 : w2.heap[w.heap.size + 1 + 1]? = some _ := heap_below hb2 (heap_old y2 _)
  have c4 := cell_at z4
  have f4 := frozen_at z4
  have hsz2 := hB.size
  have hw2 : Below w.heap.size w w2 := by
    focus (repeat (first | (with_reducible exact Below.refl _ _) | (with_reducible assumption) | ((with_reducible refine Below.setCell ?_ ?_ _); rotate_left; (focus (first | omega | (simp; done) | (simp; omega)))) | ((with_reducible refine Below.alloc ?_ ?_ _); rotate_left; (focus (first | omega | (simp; done) | (simp; omega)))) | (with_reducible refine Below.drew ?_) | (refine below_on ?_ (by assumption))))
  clear hb2 hB y0 y2 y3 c0 c3
  go_wp2
  refine abs_post (fun W => W.heap[w.heap.size + 1 + 1]? = some (.cells #[.bool (ng (addV [x, -y])), .int .u64 (dg (ab (addV [x, -y])) 0), .int .u64 (dg (ab (addV [x, -y])) 1), .int .u64 (dg (ab (addV [x, -y])) 2), .int .u64 (dg (ab (addV [x, -y])) 3)] 25 (0, 0)) ∧ Below w.heap.size w W) ?_ fun W ⟨y0, hB⟩ => ?_
  · obtain ⟨l1, l2, l3⟩ := laid_five (w.heap.size + 1 + 1) w2 (.bool (ng (addV [x, -y]))) (.int .u64 (dg (ab (addV [x, -y])) 0)) (.int .u64 (dg (ab (addV [x, -y])) 1)) (.int .u64 (dg (ab (addV [x, -y])) 2)) (.int .u64 (dg (ab (addV [x, -y])) 3))
    exact ⟨l1 z4 rfl, hw2.trans (l3 _ (by omega))⟩
  · have c0 := cell_at y0
    refine bodyPost_ret (by simp [results, Try.results37, go_sem, c0]) rfl ⟨rfl, hB⟩
set_option maxHeartbeats 1000000 in
theorem sub_bad1 (p : Bool × Nat) (y : Int) (hx : p.2 < 2 ^ 256) (hp : ¬ okP p) (hy : ab y < 2 ^ 256) (w : World) :
    Calls Try.prog 37 #[.agg #[.bool (p.1), .int .u64 (dg (p.2) 0), .int .u64 (dg (p.2) 1), .int .u64 (dg (p.2) 2), .int .u64 (dg (p.2) 3)], .agg #[.bool (ng (y)), .int .u64 (dg (ab (y)) 0), .int .u64 (dg (ab (y)) 1), .int .u64 (dg (ab (y)) 2), .int .u64 (dg (ab (y)) 3)]] w fun e w' => e = .returned (.tuple #[.agg #[.bool (ng (0)), .int .u64 (dg (ab (0)) 0), .int .u64 (dg (ab (0)) 1), .int .u64 (dg (ab (0)) 2), .int .u64 (dg (ab (0)) 3)], .int .i64 2]) ∧ Below w.heap.size w w' := by
  have HX := Hd.mk hx
  have HY := Hd.mk hy
  have HY2 : Hd (ab (-y) < 2 ^ 256) := ⟨by rw [ab_neg']; exact hy⟩
  have HO := Hd.mk hp
  clear hx hy hp
  go_enter Try.func37, Try.ntmps37
  go_wp2_with fail
  refine (neg_ok _ HY.out _).mono ?_
  rintro e w1 ⟨rfl, hb1⟩
  have z0 : w1.heap[w.heap.size]? = some _ := heap_below hb1 (heap_old (heap_old (heap_new w _) _) _)
  have c0 := cell_at z0
  have f0 := frozen_at z0
  have z2 : w1.heap[w.heap.size + 1 + 1]? = some _ := heap_below hb1 (heap_at (n := w.heap.size + 1 + 1) (by simp) _)
  have c2 := cell_at z2
  have f2 := frozen_at z2
  have hw1 : Below w.heap.size w w1 := by
    focus (repeat (first | (with_reducible exact Below.refl _ _) | (with_reducible assumption) | ((with_reducible refine Below.setCell ?_ ?_ _); rotate_left; (focus (first | omega | (simp; done) | (simp; omega)))) | ((with_reducible refine Below.alloc ?_ ?_ _); rotate_left; (focus (first | omega | (simp; done) | (simp; omega)))) | (with_reducible refine Below.drew ?_) | (refine below_on ?_ (by assumption))))
  have hsz : w.heap.size + 1 + 1 < w1.heap.size := lt_of_block z2
  clear hb1
  go_upto_region 4 with (fail)
  refine abs_wp (fun W => W.heap[w.heap.size]? = some (.cells #[.bool (p.1), .int .u64 (dg (p.2) 0), .int .u64 (dg (p.2) 1), .int .u64 (dg (p.2) 2), .int .u64 (dg (p.2) 3)] 25 (0, 0)) ∧ W.heap[w.heap.size + 1 + 1]? = some (.cells #[.bool false, .int .u64 0, .int .u64 0, .int .u64 0, .int .u64 0] 25 (0, 0)) ∧ W.heap[w1.heap.size]? = some (.cells #[.bool (ng (-y)), .int .u64 (dg (ab (-y)) 0), .int .u64 (dg (ab (-y)) 1), .int .u64 (dg (ab (-y)) 2), .int .u64 (dg (ab (-y)) 3)] 25 (0, 0)) ∧ Below w.heap.size w W) ⟨heap_old z0 _, heap_old z2 _, heap_new _ _, by focus (repeat (first | (with_reducible exact Below.refl _ _) | (with_reducible assumption) | ((with_reducible refine Below.setCell ?_ ?_ _); rotate_left; (focus (first | omega | (simp; done) | (simp; omega)))) | ((with_reducible refine Below.alloc ?_ ?_ _); rotate_left; (focus (first | omega | (simp; done) | (simp; omega)))) | (with_reducible refine Below.drew ?_) | (refine below_on ?_ (by assumption))))⟩ fun W ⟨y0, y2, y3, hB⟩ => ?_
  clear z0 c0 f0 z2 c2 f2 hw1
  have c0 := cell_at y0
  have c3 := cell_at y3
  go_wp2_with fail
  refine (add_bad _ _ [p, pr (-y)] _ (ints_two (b := W.heap.size) HX.out HY2.out (by focus (repeat (first | (with_reducible exact heap_at (by first | rfl | (simp; done) | (simp; omega)) _) | (with_reducible refine heap_old ?_ _))))) (fun h => HO.out (h p (by simp)))).mono ?_
  rintro e w2 ⟨rfl, hb2⟩
  have z4 : w2.heap[w.heap.size + 1 + 1]? = some _ := heap_below hb2 (heap_old y2 _)
  have c4 := cell_at z4
  have f4 := frozen_at z4
  have hsz2 := hB.size
  have hw2 : Below w.heap.size w w2 := by
    focus (repeat (first | (with_reducible exact Below.refl _ _) | (with_reducible assumption) | ((with_reducible refine Below.setCell ?_ ?_ _); rotate_left; (focus (first | omega | (simp; done) | (simp; omega)))) | ((with_reducible refine Below.alloc ?_ ?_ _); rotate_left; (focus (first | omega | (simp; done) | (simp; omega)))) | (with_reducible refine Below.drew ?_) | (refine below_on ?_ (by assumption))))
  clear hb2 hB y0 y2 y3 c0 c3
  go_wp2
  refine abs_post (fun W => W.heap[w.heap.size + 1 + 1]? = some (.cells #[.bool (ng (0)), .int .u64 (dg (ab (0)) 0), .int .u64 (dg (ab (0)) 1), .int .u64 (dg (ab (0)) 2), .int .u64 (dg (ab (0)) 3)] 25 (0, 0)) ∧ Below w.heap.size w W) ?_ fun W ⟨y0, hB⟩ => ?_
  · obtain ⟨l1, l2, l3⟩ := laid_five (w.heap.size + 1 + 1) w2 (.bool (ng (0 : Int))) (.int .u64 (dg (ab (0 : Int)) 0)) (.int .u64 (dg (ab (0 : Int)) 1)) (.int .u64 (dg (ab (0 : Int)) 2)) (.int .u64 (dg (ab (0 : Int)) 3))
    exact ⟨l1 z4 rfl, hw2.trans (l3 _ (by omega))⟩
  · have c0 := cell_at y0
    refine bodyPost_ret (by simp [results, Try.results37, go_sem, c0]) rfl ⟨rfl, hB⟩
set_option maxHeartbeats 1000000 in
theorem sub_bad2 (p q : Bool × Nat) (hy : q.2 < 2 ^ 256) (hq : ¬ okP q) (w : World) :
    Calls Try.prog 37 #[.agg #[.bool (p.1), .int .u64 (dg (p.2) 0), .int .u64 (dg (p.2) 1), .int .u64 (dg (p.2) 2), .int .u64 (dg (p.2) 3)], .agg #[.bool (q.1), .int .u64 (dg (q.2) 0), .int .u64 (dg (q.2) 1), .int .u64 (dg (q.2) 2), .int .u64 (dg (q.2) 3)]] w fun e w' => e = .returned (.tuple #[.agg #[.bool (ng (0)), .int .u64 (dg (ab (0)) 0), .int .u64 (dg (ab (0)) 1), .int .u64 (dg (ab (0)) 2), .int .u64 (dg (ab (0)) 3)], .int .i64 2]) ∧ Below w.heap.size w w' := by
  have HY := Hd.mk hy
  have HO := Hd.mk hq
  clear hy hq
  go_enter Try.func37, Try.ntmps37
  go_wp2_with fail
  refine (neg_bad _ HY.out HO.out _).mono ?_
  rintro e w1 ⟨rfl, hb1⟩
  have z2 : w1.heap[w.heap.size + 1 + 1]? = some _ := heap_below hb1 (heap_at (n := w.heap.size + 1 + 1) (by simp) _)
  have c2 := cell_at z2
  have f2 := frozen_at z2
  have hw1 : Below w.heap.size w w1 := by
    focus (repeat (first | (with_reducible exact Below.refl _ _) | (with_reducible assumption) | ((with_reducible refine Below.setCell ?_ ?_ _); rotate_left; (focus (first | omega | (simp; done) | (simp; omega)))) | ((with_reducible refine Below.alloc ?_ ?_ _); rotate_left; (focus (first | omega | (simp; done) | (simp; omega)))) | (with_reducible refine Below.drew ?_) | (refine below_on ?_ (by assumption))))
  have hsz : w.heap.size + 1 + 1 < w1.heap.size := lt_of_block z2
  clear hb1
  go_upto_region 3 with (fail)
  refine abs_wp (fun W => W.heap[w.heap.size + 1 + 1]? = some (.cells #[.bool false, .int .u64 0, .int .u64 0, .int .u64 0, .int .u64 0] 25 (0, 0)) ∧ Below w.heap.size w W) ⟨heap_old z2 _, by focus (repeat (first | (with_reducible exact Below.refl _ _) | (with_reducible assumption) | ((with_reducible refine Below.setCell ?_ ?_ _); rotate_left; (focus (first | omega | (simp; done) | (simp; omega)))) | ((with_reducible refine Below.alloc ?_ ?_ _); rotate_left; (focus (first | omega | (simp; done) | (simp; omega)))) | (with_reducible refine Below.drew ?_) | (refine below_on ?_ (by assumption))))⟩ fun W ⟨y2, hB⟩ => ?_
  clear z2 c2 f2 hw1
  have c2 := cell_at y2
  have f2 := frozen_at y2
  go_wp2
  refine abs_post (fun W => W.heap[w.heap.size + 1 + 1]? = some (.cells #[.bool (ng (0)), .int .u64 (dg (ab (0)) 0), .int .u64 (dg (ab (0)) 1), .int .u64 (dg (ab (0)) 2), .int .u64 (dg (ab (0)) 3)] 25 (0, 0)) ∧ Below w.heap.size w W) ?_ fun W ⟨y0, hB⟩ => ?_
  · obtain ⟨l1, l2, l3⟩ := laid_five (w.heap.size + 1 + 1) W (.bool false) (.int .u64 0) (.int .u64 0) (.int .u64 0) (.int .u64 0)
    rw [zero_cells]
    exact ⟨l1 y2 rfl, hB.trans (l3 _ (by omega))⟩
  · have c0 := cell_at y0
    refine bodyPost_ret (by simp [results, Try.results37, go_sem, c0]) rfl ⟨rfl, hB⟩
theorem sub_bad (p q : Bool × Nat) (hx : p.2 < 2 ^ 256) (hy : q.2 < 2 ^ 256) (h : ¬ (okP p ∧ okP q)) (w : World) :
    Calls Try.prog 37 #[.agg #[.bool (p.1), .int .u64 (dg (p.2) 0), .int .u64 (dg (p.2) 1), .int .u64 (dg (p.2) 2), .int .u64 (dg (p.2) 3)], .agg #[.bool (q.1), .int .u64 (dg (q.2) 0), .int .u64 (dg (q.2) 1), .int .u64 (dg (q.2) 2), .int .u64 (dg (q.2) 3)]] w fun e w' => e = .returned (.tuple #[.agg #[.bool (ng (0)), .int .u64 (dg (ab (0)) 0), .int .u64 (dg (ab (0)) 1), .int .u64 (dg (ab (0)) 2), .int .u64 (dg (ab (0)) 3)], .int .i64 2]) ∧ Below w.heap.size w w' := by
  by_cases hq : okP q
  · have hp : ¬ okP p := fun hp => h ⟨hp, hq⟩
    have e := pr_of hq
    generalize zof q.1 q.2 = y at e
    subst e
    exact sub_bad1 p y hx hp hy w
  · exact sub_bad2 p q hy hq w
end Go.Proofs.Yteibcklcegkbcaa
