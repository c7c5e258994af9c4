/-
  The walk of LimbHolds, path by path (printed by gen/holds.py of this project). Conditions stand in each theorem.
-/
import Derived.Test.YteibcklcegkbcaaHo3
namespace Go.Proofs.Yteibcklcegkbcaa
open Go.RowKit Go.BigFrame

set_option maxRecDepth 100000 in
set_option maxHeartbeats 4000000 in
theorem holds_101 (M : Int) (q r : Bool × Nat) (HP : Hd (ab M < 2 ^ 256)) (HQ : Hd (q.2 < 2 ^ 256)) (HR : Hd (r.2 < 2 ^ 256)) (X Z1 VP VQ VR VS EX EP EQ ER ES : Int) (HXB : Hd (ab X < 2 ^ 256)) (HVQ : Hd (ab VQ < 2 ^ 256)) (HVR : Hd (ab VR < 2 ^ 256)) (H1 : Hd (addRV [pr M, q] = X ∧ addRE [pr M, q] = EX)) (H2 : Hd (addRV [q, pr M] = X ∧ addRE [q, pr M] = EX)) (H3 : Hd (mulRV [pr M, q, r] = Z1 ∧ mulRE [pr M, q, r] = 0)) (H4 : Hd (mulRV [r, q, pr M] = Z1 ∧ mulRE [r, q, pr M] = 0)) (H5 : Hd (mulRV [pr X, r] = VP ∧ mulRE [pr X, r] = EP)) (H6 : Hd (mulRV [pr M, r] = VQ ∧ mulRE [pr M, r] = EQ)) (H7 : Hd (mulRV [q, r] = VR ∧ mulRE [q, r] = ER)) (H8 : Hd (addRV [pr VQ, pr VR] = VS ∧ addRE [pr VQ, pr VR] = ES)) (HT2 : Hd ((EX + EP + EQ + ER + ES == 0) = false)) (HBX : Hd (0 ≤ EX ∧ EX ≤ 110)) (HBP : Hd (0 ≤ EP ∧ EP ≤ 110)) (HBQ : Hd (0 ≤ EQ ∧ EQ ≤ 110)) (HBR : Hd (0 ≤ ER ∧ ER ≤ 110)) (HBS : Hd (0 ≤ ES ∧ ES ≤ 110)) (T : ByteArray) (HTX : Hd (textZ M = T)) (HTS : Hd (T.size ≤ 1000000)) (HPV : Hd (parseV (strB T) = M)) (HPE : Hd (parseE (strB T) = 0)) (w : World) :
    Calls Try.prog 10 #[.agg #[.bool (ng (M)), .int .u64 (dg (ab (M)) 0), .int .u64 (dg (ab (M)) 1), .int .u64 (dg (ab (M)) 2), .int .u64 (dg (ab (M)) 3)], .agg #[.bool (q.1), .int .u64 (dg (q.2) 0), .int .u64 (dg (q.2) 1), .int .u64 (dg (q.2) 2), .int .u64 (dg (q.2) 3)], .agg #[.bool (r.1), .int .u64 (dg (r.2) 0), .int .u64 (dg (r.2) 1), .int .u64 (dg (r.2) 2), .int .u64 (dg (r.2) 3)]] w fun e w' => e = .returned (.bool true) ∧ Below w.heap.size w w' := by
  go_enter Try.func10, Try.ntmps10
  have hB := Below.refl w.heap.size w
  have hsz := hB.size
  go_upto_region 1 with (fail)
  refine abs_wp (fun W => W.heap[w.heap.size]? = some (.cells #[.bool (ng (M)), .int .u64 (dg (ab (M)) 0), .int .u64 (dg (ab (M)) 1), .int .u64 (dg (ab (M)) 2), .int .u64 (dg (ab (M)) 3)] 25 (0, 0)) ∧ W.heap[w.heap.size + 1]? = some (.cells #[.bool (q.1), .int .u64 (dg (q.2) 0), .int .u64 (dg (q.2) 1), .int .u64 (dg (q.2) 2), .int .u64 (dg (q.2) 3)] 25 (0, 0)) ∧ W.heap[w.heap.size + 2]? = some (.cells #[.bool (r.1), .int .u64 (dg (r.2) 0), .int .u64 (dg (r.2) 1), .int .u64 (dg (r.2) 2), .int .u64 (dg (r.2) 3)] 25 (0, 0)) ∧ Below w.heap.size w W) ⟨heap_old (heap_old (heap_new _ _) _) _, heap_old (heap_at (by simp) _) _, heap_at (by simp) _, (by focus (repeat (first | (with_reducible exact Below.refl _ _) | (with_reducible assumption) | ((with_reducible refine Below.setCell ?_ ?_ _); rotate_left; (focus (first | omega | (simp; done) | (simp; omega)))) | ((with_reducible refine Below.alloc ?_ ?_ _); rotate_left; (focus (first | omega | (simp; done) | (simp; omega)))) | (with_reducible refine Below.drew ?_) | (refine below_on ?_ (by assumption)))))⟩ fun W1 ⟨g_a, g_b, g_c, gB⟩ => ?_
  clear hB hsz 
  have h_a := g_a
  have h_b := g_b
  have h_c := g_c
  have hB := gB
  clear gB g_a g_b g_c
  have c_a := cell_at h_a
  have c_b := cell_at h_b
  go_wp2_with fail
  refine (add_r _ _ [pr M, q] (X) (EX) _ (ints_two (b := W1.heap.size) (p := (pr M)) (q := (q)) HP.out HQ.out (by focus (repeat (first | (with_reducible exact heap_at (by first | rfl | (simp; done) | (simp; omega)) _) | (with_reducible refine heap_old ?_ _))))) H1.out.1 H1.out.2).mono ?_
  rintro e w2 ⟨rfl, hb⟩
  have k_a := heap_below hb (heap_old h_a _)
  have k_b := heap_below hb (heap_old h_b _)
  have k_c := heap_below hb (heap_old h_c _)
  have kB : Below w.heap.size w w2 := by
    have hsz := hB.size
    focus (repeat (first | (with_reducible exact Below.refl _ _) | (with_reducible assumption) | ((with_reducible refine Below.setCell ?_ ?_ _); rotate_left; (focus (first | omega | (simp; done) | (simp; omega)))) | ((with_reducible refine Below.alloc ?_ ?_ _); rotate_left; (focus (first | omega | (simp; done) | (simp; omega)))) | (with_reducible refine Below.drew ?_) | (refine below_on ?_ (by assumption))))
  have sz_w2 := kB.size
  have sl_w2 := lt_of_block k_c
  clear hB hb h_a h_b h_c
  have h_a := k_a
  have h_b := k_b
  have h_c := k_c
  have hB := kB
  clear kB k_a k_b k_c
  have hsz := hB.size
  go_upto_region 2 with (fail)
  refine abs_wp (fun W => W.heap[w.heap.size]? = some (.cells #[.bool (ng (M)), .int .u64 (dg (ab (M)) 0), .int .u64 (dg (ab (M)) 1), .int .u64 (dg (ab (M)) 2), .int .u64 (dg (ab (M)) 3)] 25 (0, 0)) ∧ W.heap[w.heap.size + 1]? = some (.cells #[.bool (q.1), .int .u64 (dg (q.2) 0), .int .u64 (dg (q.2) 1), .int .u64 (dg (q.2) 2), .int .u64 (dg (q.2) 3)] 25 (0, 0)) ∧ W.heap[w.heap.size + 2]? = some (.cells #[.bool (r.1), .int .u64 (dg (r.2) 0), .int .u64 (dg (r.2) 1), .int .u64 (dg (r.2) 2), .int .u64 (dg (r.2) 3)] 25 (0, 0)) ∧ W.heap[w2.heap.size]? = some (.cells #[.bool (ng (X)), .int .u64 (dg (ab (X)) 0), .int .u64 (dg (ab (X)) 1), .int .u64 (dg (ab (X)) 2), .int .u64 (dg (ab (X)) 3)] 25 (0, 0)) ∧ Below w.heap.size w W) ⟨heap_old (h_a) _, heap_old (h_b) _, heap_old (h_c) _, heap_new _ _, (by focus (repeat (first | (with_reducible exact Below.refl _ _) | (with_reducible assumption) | ((with_reducible refine Below.setCell ?_ ?_ _); rotate_left; (focus (first | omega | (simp; done) | (simp; omega)))) | ((with_reducible refine Below.alloc ?_ ?_ _); rotate_left; (focus (first | omega | (simp; done) | (simp; omega)))) | (with_reducible refine Below.drew ?_) | (refine below_on ?_ (by assumption)))))⟩ fun W3 ⟨g_a, g_b, g_c, g_x, gB⟩ => ?_
  clear hB hsz h_a h_b h_c
  have h_a := g_a
  have h_b := g_b
  have h_c := g_c
  have h_x := g_x
  have hB := gB
  clear gB g_a g_b g_c g_x
  have c_b := cell_at h_b
  have c_a := cell_at h_a
  go_wp2_with fail
  refine (add_r _ _ [q, pr M] (X) (EX) _ (ints_two (b := W3.heap.size) (p := (q)) (q := (pr M)) HQ.out HP.out (by focus (repeat (first | (with_reducible exact heap_at (by first | rfl | (simp; done) | (simp; omega)) _) | (with_reducible refine heap_old ?_ _))))) H2.out.1 H2.out.2).mono ?_
  rintro e w4 ⟨rfl, hb⟩
  have k_a := heap_below hb (heap_old h_a _)
  have k_b := heap_below hb (heap_old h_b _)
  have k_c := heap_below hb (heap_old h_c _)
  have k_x := heap_below hb (heap_old h_x _)
  have kB : Below w.heap.size w w4 := by
    have hsz := hB.size
    focus (repeat (first | (with_reducible exact Below.refl _ _) | (with_reducible assumption) | ((with_reducible refine Below.setCell ?_ ?_ _); rotate_left; (focus (first | omega | (simp; done) | (simp; omega)))) | ((with_reducible refine Below.alloc ?_ ?_ _); rotate_left; (focus (first | omega | (simp; done) | (simp; omega)))) | (with_reducible refine Below.drew ?_) | (refine below_on ?_ (by assumption))))
  have sz_w4 := kB.size
  have sl_w4 := lt_of_block k_x
  clear hB hb h_a h_b h_c h_x
  have h_a := k_a
  have h_b := k_b
  have h_c := k_c
  have h_x := k_x
  have hB := kB
  clear kB k_a k_b k_c k_x
  have hsz := hB.size
  go_upto_region 3 with (fail)
  refine abs_wp (fun W => W.heap[w.heap.size]? = some (.cells #[.bool (ng (M)), .int .u64 (dg (ab (M)) 0), .int .u64 (dg (ab (M)) 1), .int .u64 (dg (ab (M)) 2), .int .u64 (dg (ab (M)) 3)] 25 (0, 0)) ∧ W.heap[w.heap.size + 1]? = some (.cells #[.bool (q.1), .int .u64 (dg (q.2) 0), .int .u64 (dg (q.2) 1), .int .u64 (dg (q.2) 2), .int .u64 (dg (q.2) 3)] 25 (0, 0)) ∧ W.heap[w.heap.size + 2]? = some (.cells #[.bool (r.1), .int .u64 (dg (r.2) 0), .int .u64 (dg (r.2) 1), .int .u64 (dg (r.2) 2), .int .u64 (dg (r.2) 3)] 25 (0, 0)) ∧ W.heap[w2.heap.size]? = some (.cells #[.bool (ng (X)), .int .u64 (dg (ab (X)) 0), .int .u64 (dg (ab (X)) 1), .int .u64 (dg (ab (X)) 2), .int .u64 (dg (ab (X)) 3)] 25 (0, 0)) ∧ W.heap[w4.heap.size]? = some (.cells #[.bool (ng (X)), .int .u64 (dg (ab (X)) 0), .int .u64 (dg (ab (X)) 1), .int .u64 (dg (ab (X)) 2), .int .u64 (dg (ab (X)) 3)] 25 (0, 0)) ∧ Below w.heap.size w W) ⟨heap_old (h_a) _, heap_old (h_b) _, heap_old (h_c) _, heap_old (h_x) _, heap_new _ _, (by focus (repeat (first | (with_reducible exact Below.refl _ _) | (with_reducible assumption) | ((with_reducible refine Below.setCell ?_ ?_ _); rotate_left; (focus (first | omega | (simp; done) | (simp; omega)))) | ((with_reducible refine Below.alloc ?_ ?_ _); rotate_left; (focus (first | omega | (simp; done) | (simp; omega)))) | (with_reducible refine Below.drew ?_) | (refine below_on ?_ (by assumption)))))⟩ fun W5 ⟨g_a, g_b, g_c, g_x, g_y, gB⟩ => ?_
  clear hB hsz h_a h_b h_c h_x
  have h_a := g_a
  have h_b := g_b
  have h_c := g_c
  have h_x := g_x
  have h_y := g_y
  have hB := gB
  clear gB g_a g_b g_c g_x g_y
  have c_x := cell_at h_x
  have c_y := cell_at h_y
  go_upto_region 5 with (fail)
  refine abs_wp (fun W => W.heap[w.heap.size]? = some (.cells #[.bool (ng (M)), .int .u64 (dg (ab (M)) 0), .int .u64 (dg (ab (M)) 1), .int .u64 (dg (ab (M)) 2), .int .u64 (dg (ab (M)) 3)] 25 (0, 0)) ∧ W.heap[w.heap.size + 1]? = some (.cells #[.bool (q.1), .int .u64 (dg (q.2) 0), .int .u64 (dg (q.2) 1), .int .u64 (dg (q.2) 2), .int .u64 (dg (q.2) 3)] 25 (0, 0)) ∧ W.heap[w.heap.size + 2]? = some (.cells #[.bool (r.1), .int .u64 (dg (r.2) 0), .int .u64 (dg (r.2) 1), .int .u64 (dg (r.2) 2), .int .u64 (dg (r.2) 3)] 25 (0, 0)) ∧ W.heap[w2.heap.size]? = some (.cells #[.bool (ng (X)), .int .u64 (dg (ab (X)) 0), .int .u64 (dg (ab (X)) 1), .int .u64 (dg (ab (X)) 2), .int .u64 (dg (ab (X)) 3)] 25 (0, 0)) ∧ Below w.heap.size w W) ⟨h_a, h_b, h_c, h_x, (by focus (repeat (first | (with_reducible exact Below.refl _ _) | (with_reducible assumption) | ((with_reducible refine Below.setCell ?_ ?_ _); rotate_left; (focus (first | omega | (simp; done) | (simp; omega)))) | ((with_reducible refine Below.alloc ?_ ?_ _); rotate_left; (focus (first | omega | (simp; done) | (simp; omega)))) | (with_reducible refine Below.drew ?_) | (refine below_on ?_ (by assumption)))))⟩ fun W6 ⟨g_a, g_b, g_c, g_x, gB⟩ => ?_
  clear hB h_a h_b h_c h_x h_y
  have h_a := g_a
  have h_b := g_b
  have h_c := g_c
  have h_x := g_x
  have hB := gB
  clear gB g_a g_b g_c g_x
  have c_a := cell_at h_a
  have c_b := cell_at h_b
  have c_c := cell_at h_c
  go_wp2_with fail
  refine (mul_r _ _ [pr M, q, r] (Z1) (0) _ (ints_three (b := W6.heap.size) (p := (pr M)) (q := (q)) (r := (r)) HP.out HQ.out HR.out (by focus (repeat (first | (with_reducible exact heap_at (by first | rfl | (simp; done) | (simp; omega)) _) | (with_reducible refine heap_old ?_ _))))) H3.out.1 H3.out.2).mono ?_
  rintro e w7 ⟨rfl, hb⟩
  have k_a := heap_below hb (heap_old h_a _)
  have k_b := heap_below hb (heap_old h_b _)
  have k_c := heap_below hb (heap_old h_c _)
  have k_x := heap_below hb (heap_old h_x _)
  have kB : Below w.heap.size w w7 := by
    have hsz := hB.size
    focus (repeat (first | (with_reducible exact Below.refl _ _) | (with_reducible assumption) | ((with_reducible refine Below.setCell ?_ ?_ _); rotate_left; (focus (first | omega | (simp; done) | (simp; omega)))) | ((with_reducible refine Below.alloc ?_ ?_ _); rotate_left; (focus (first | omega | (simp; done) | (simp; omega)))) | (with_reducible refine Below.drew ?_) | (refine below_on ?_ (by assumption))))
  have sz_w7 := kB.size
  have sl_w7 := lt_of_block k_x
  clear hB hb h_a h_b h_c h_x
  have h_a := k_a
  have h_b := k_b
  have h_c := k_c
  have h_x := k_x
  have hB := kB
  clear kB k_a k_b k_c k_x
  have hsz := hB.size
  go_upto_region 6 with (fail)
  refine abs_wp (fun W => W.heap[w.heap.size]? = some (.cells #[.bool (ng (M)), .int .u64 (dg (ab (M)) 0), .int .u64 (dg (ab (M)) 1), .int .u64 (dg (ab (M)) 2), .int .u64 (dg (ab (M)) 3)] 25 (0, 0)) ∧ W.heap[w.heap.size + 1]? = some (.cells #[.bool (q.1), .int .u64 (dg (q.2) 0), .int .u64 (dg (q.2) 1), .int .u64 (dg (q.2) 2), .int .u64 (dg (q.2) 3)] 25 (0, 0)) ∧ W.heap[w.heap.size + 2]? = some (.cells #[.bool (r.1), .int .u64 (dg (r.2) 0), .int .u64 (dg (r.2) 1), .int .u64 (dg (r.2) 2), .int .u64 (dg (r.2) 3)] 25 (0, 0)) ∧ W.heap[w2.heap.size]? = some (.cells #[.bool (ng (X)), .int .u64 (dg (ab (X)) 0), .int .u64 (dg (ab (X)) 1), .int .u64 (dg (ab (X)) 2), .int .u64 (dg (ab (X)) 3)] 25 (0, 0)) ∧ W.heap[w7.heap.size]? = some (.cells #[.bool (ng (Z1)), .int .u64 (dg (ab (Z1)) 0), .int .u64 (dg (ab (Z1)) 1), .int .u64 (dg (ab (Z1)) 2), .int .u64 (dg (ab (Z1)) 3)] 25 (0, 0)) ∧ Below w.heap.size w W) ⟨heap_old (h_a) _, heap_old (h_b) _, heap_old (h_c) _, heap_old (h_x) _, heap_new _ _, (by focus (repeat (first | (with_reducible exact Below.refl _ _) | (with_reducible assumption) | ((with_reducible refine Below.setCell ?_ ?_ _); rotate_left; (focus (first | omega | (simp; done) | (simp; omega)))) | ((with_reducible refine Below.alloc ?_ ?_ _); rotate_left; (focus (first | omega | (simp; done) | (simp; omega)))) | (with_reducible refine Below.drew ?_) | (refine below_on ?_ (by assumption)))))⟩ fun W8 ⟨g_a, g_b, g_c, g_x, g_z, gB⟩ => ?_
  clear hB hsz h_a h_b h_c h_x
  have h_a := g_a
  have h_b := g_b
  have h_c := g_c
  have h_x := g_x
  have h_z := g_z
  have hB := gB
  clear gB g_a g_b g_c g_x g_z
  have c_c := cell_at h_c
  have c_b := cell_at h_b
  have c_a := cell_at h_a
  go_wp2_with fail
  refine (mul_r _ _ [r, q, pr M] (Z1) (0) _ (ints_three (b := W8.heap.size) (p := (r)) (q := (q)) (r := (pr M)) HR.out HQ.out HP.out (by focus (repeat (first | (with_reducible exact heap_at (by first | rfl | (simp; done) | (simp; omega)) _) | (with_reducible refine heap_old ?_ _))))) H4.out.1 H4.out.2).mono ?_
  rintro e w9 ⟨rfl, hb⟩
  have k_a := heap_below hb (heap_old h_a _)
  have k_b := heap_below hb (heap_old h_b _)
  have k_c := heap_below hb (heap_old h_c _)
  have k_x := heap_below hb (heap_old h_x _)
  have k_z := heap_below hb (heap_old h_z _)
  have kB : Below w.heap.size w w9 := by
    have hsz := hB.size
    focus (repeat (first | (with_reducible exact Below.refl _ _) | (with_reducible assumption) | ((with_reducible refine Below.setCell ?_ ?_ _); rotate_left; (focus (first | omega | (simp; done) | (simp; omega)))) | ((with_reducible refine Below.alloc ?_ ?_ _); rotate_left; (focus (first | omega | (simp; done) | (simp; omega)))) | (with_reducible refine Below.drew ?_) | (refine below_on ?_ (by assumption))))
  have sz_w9 := kB.size
  have sl_w9 := lt_of_block k_z
  clear hB hb h_a h_b h_c h_x h_z
  have h_a := k_a
  have h_b := k_b
  have h_c := k_c
  have h_x := k_x
  have h_z := k_z
  have hB := kB
  clear kB k_a k_b k_c k_x k_z
  have hsz := hB.size
  go_upto_region 7 with (fail)
  refine abs_wp (fun W => W.heap[w.heap.size]? = some (.cells #[.bool (ng (M)), .int .u64 (dg (ab (M)) 0), .int .u64 (dg (ab (M)) 1), .int .u64 (dg (ab (M)) 2), .int .u64 (dg (ab (M)) 3)] 25 (0, 0)) ∧ W.heap[w.heap.size + 1]? = some (.cells #[.bool (q.1), .int .u64 (dg (q.2) 0), .int .u64 (dg (q.2) 1), .int .u64 (dg (q.2) 2), .int .u64 (dg (q.2) 3)] 25 (0, 0)) ∧ W.heap[w.heap.size + 2]? = some (.cells #[.bool (r.1), .int .u64 (dg (r.2) 0), .int .u64 (dg (r.2) 1), .int .u64 (dg (r.2) 2), .int .u64 (dg (r.2) 3)] 25 (0, 0)) ∧ W.heap[w2.heap.size]? = some (.cells #[.bool (ng (X)), .int .u64 (dg (ab (X)) 0), .int .u64 (dg (ab (X)) 1), .int .u64 (dg (ab (X)) 2), .int .u64 (dg (ab (X)) 3)] 25 (0, 0)) ∧ W.heap[w7.heap.size]? = some (.cells #[.bool (ng (Z1)), .int .u64 (dg (ab (Z1)) 0), .int .u64 (dg (ab (Z1)) 1), .int .u64 (dg (ab (Z1)) 2), .int .u64 (dg (ab (Z1)) 3)] 25 (0, 0)) ∧ W.heap[w9.heap.size]? = some (.cells #[.bool (ng (Z1)), .int .u64 (dg (ab (Z1)) 0), .int .u64 (dg (ab (Z1)) 1), .int .u64 (dg (ab (Z1)) 2), .int .u64 (dg (ab (Z1)) 3)] 25 (0, 0)) ∧ Below w.heap.size w W) ⟨heap_old (h_a) _, heap_old (h_b) _, heap_old (h_c) _, heap_old (h_x) _, heap_old (h_z) _, heap_new _ _, (by focus (repeat (first | (with_reducible exact Below.refl _ _) | (with_reducible assumption) | ((with_reducible refine Below.setCell ?_ ?_ _); rotate_left; (focus (first | omega | (simp; done) | (simp; omega)))) | ((with_reducible refine Below.alloc ?_ ?_ _); rotate_left; (focus (first | omega | (simp; done) | (simp; omega)))) | (with_reducible refine Below.drew ?_) | (refine below_on ?_ (by assumption)))))⟩ fun W10 ⟨g_a, g_b, g_c, g_x, g_z, g_u, gB⟩ => ?_
  clear hB hsz h_a h_b h_c h_x h_z
  have h_a := g_a
  have h_b := g_b
  have h_c := g_c
  have h_x := g_x
  have h_z := g_z
  have h_u := g_u
  have hB := gB
  clear gB g_a g_b g_c g_x g_z g_u
  have c_z := cell_at h_z
  have c_u := cell_at h_u
  go_upto_region 9 with ((go_at_call 14; refine (num_s _ _).mono ?_; rintro e w' ⟨rfl, rfl⟩))
  refine abs_wp (fun W => W.heap[w.heap.size]? = some (.cells #[.bool (ng (M)), .int .u64 (dg (ab (M)) 0), .int .u64 (dg (ab (M)) 1), .int .u64 (dg (ab (M)) 2), .int .u64 (dg (ab (M)) 3)] 25 (0, 0)) ∧ W.heap[w.heap.size + 1]? = some (.cells #[.bool (q.1), .int .u64 (dg (q.2) 0), .int .u64 (dg (q.2) 1), .int .u64 (dg (q.2) 2), .int .u64 (dg (q.2) 3)] 25 (0, 0)) ∧ W.heap[w.heap.size + 2]? = some (.cells #[.bool (r.1), .int .u64 (dg (r.2) 0), .int .u64 (dg (r.2) 1), .int .u64 (dg (r.2) 2), .int .u64 (dg (r.2) 3)] 25 (0, 0)) ∧ W.heap[w2.heap.size]? = some (.cells #[.bool (ng (X)), .int .u64 (dg (ab (X)) 0), .int .u64 (dg (ab (X)) 1), .int .u64 (dg (ab (X)) 2), .int .u64 (dg (ab (X)) 3)] 25 (0, 0)) ∧ Below w.heap.size w W) ⟨h_a, h_b, h_c, h_x, (by focus (repeat (first | (with_reducible exact Below.refl _ _) | (with_reducible assumption) | ((with_reducible refine Below.setCell ?_ ?_ _); rotate_left; (focus (first | omega | (simp; done) | (simp; omega)))) | ((with_reducible refine Below.alloc ?_ ?_ _); rotate_left; (focus (first | omega | (simp; done) | (simp; omega)))) | (with_reducible refine Below.drew ?_) | (refine below_on ?_ (by assumption)))))⟩ fun W11 ⟨g_a, g_b, g_c, g_x, gB⟩ => ?_
  clear hB h_a h_b h_c h_x h_z h_u
  have h_a := g_a
  have h_b := g_b
  have h_c := g_c
  have h_x := g_x
  have hB := gB
  clear gB g_a g_b g_c g_x
  have c_x := cell_at h_x
  have c_c := cell_at h_c
  go_wp2_with fail
  refine (mul_r _ _ [pr X, r] (VP) (EP) _ (ints_two (b := W11.heap.size) (p := (pr X)) (q := (r)) HXB.out HR.out (by focus (repeat (first | (with_reducible exact heap_at (by first | rfl | (simp; done) | (simp; omega)) _) | (with_reducible refine heap_old ?_ _))))) H5.out.1 H5.out.2).mono ?_
  rintro e w12 ⟨rfl, hb⟩
  have k_a := heap_below hb (heap_old h_a _)
  have k_b := heap_below hb (heap_old h_b _)
  have k_c := heap_below hb (heap_old h_c _)
  have k_x := heap_below hb (heap_old h_x _)
  have kB : Below w.heap.size w w12 := by
    have hsz := hB.size
    focus (repeat (first | (with_reducible exact Below.refl _ _) | (with_reducible assumption) | ((with_reducible refine Below.setCell ?_ ?_ _); rotate_left; (focus (first | omega | (simp; done) | (simp; omega)))) | ((with_reducible refine Below.alloc ?_ ?_ _); rotate_left; (focus (first | omega | (simp; done) | (simp; omega)))) | (with_reducible refine Below.drew ?_) | (refine below_on ?_ (by assumption))))
  have sz_w12 := kB.size
  have sl_w12 := lt_of_block k_x
  clear hB hb h_a h_b h_c h_x
  have h_a := k_a
  have h_b := k_b
  have h_c := k_c
  have h_x := k_x
  have hB := kB
  clear kB k_a k_b k_c k_x
  have hsz := hB.size
  go_upto_region 10 with (fail)
  refine abs_wp (fun W => W.heap[w.heap.size]? = some (.cells #[.bool (ng (M)), .int .u64 (dg (ab (M)) 0), .int .u64 (dg (ab (M)) 1), .int .u64 (dg (ab (M)) 2), .int .u64 (dg (ab (M)) 3)] 25 (0, 0)) ∧ W.heap[w.heap.size + 1]? = some (.cells #[.bool (q.1), .int .u64 (dg (q.2) 0), .int .u64 (dg (q.2) 1), .int .u64 (dg (q.2) 2), .int .u64 (dg (q.2) 3)] 25 (0, 0)) ∧ W.heap[w.heap.size + 2]? = some (.cells #[.bool (r.1), .int .u64 (dg (r.2) 0), .int .u64 (dg (r.2) 1), .int .u64 (dg (r.2) 2), .int .u64 (dg (r.2) 3)] 25 (0, 0)) ∧ W.heap[w2.heap.size]? = some (.cells #[.bool (ng (X)), .int .u64 (dg (ab (X)) 0), .int .u64 (dg (ab (X)) 1), .int .u64 (dg (ab (X)) 2), .int .u64 (dg (ab (X)) 3)] 25 (0, 0)) ∧ W.heap[w12.heap.size]? = some (.cells #[.bool (ng (VP)), .int .u64 (dg (ab (VP)) 0), .int .u64 (dg (ab (VP)) 1), .int .u64 (dg (ab (VP)) 2), .int .u64 (dg (ab (VP)) 3)] 25 (0, 0)) ∧ Below w.heap.size w W) ⟨heap_old (h_a) _, heap_old (h_b) _, heap_old (h_c) _, heap_old (h_x) _, heap_new _ _, (by focus (repeat (first | (with_reducible exact Below.refl _ _) | (with_reducible assumption) | ((with_reducible refine Below.setCell ?_ ?_ _); rotate_left; (focus (first | omega | (simp; done) | (simp; omega)))) | ((with_reducible refine Below.alloc ?_ ?_ _); rotate_left; (focus (first | omega | (simp; done) | (simp; omega)))) | (with_reducible refine Below.drew ?_) | (refine below_on ?_ (by assumption)))))⟩ fun W13 ⟨g_a, g_b, g_c, g_x, g_p, gB⟩ => ?_
  clear hB hsz h_a h_b h_c h_x
  have h_a := g_a
  have h_b := g_b
  have h_c := g_c
  have h_x := g_x
  have h_p := g_p
  have hB := gB
  clear gB g_a g_b g_c g_x g_p
  have c_a := cell_at h_a
  have c_c := cell_at h_c
  go_wp2_with fail
  refine (mul_r _ _ [pr M, r] (VQ) (EQ) _ (ints_two (b := W13.heap.size) (p := (pr M)) (q := (r)) HP.out HR.out (by focus (repeat (first | (with_reducible exact heap_at (by first | rfl | (simp; done) | (simp; omega)) _) | (with_reducible refine heap_old ?_ _))))) H6.out.1 H6.out.2).mono ?_
  rintro e w14 ⟨rfl, hb⟩
  have k_a := heap_below hb (heap_old h_a _)
  have k_b := heap_below hb (heap_old h_b _)
  have k_c := heap_below hb (heap_old h_c _)
  have k_x := heap_below hb (heap_old h_x _)
  have k_p := heap_below hb (heap_old h_p _)
  have kB : Below w.heap.size w w14 := by
    have hsz := hB.size
    focus (repeat (first | (with_reducible exact Below.refl _ _) | (with_reducible assumption) | ((with_reducible refine Below.setCell ?_ ?_ _); rotate_left; (focus (first | omega | (simp; done) | (simp; omega)))) | ((with_reducible refine Below.alloc ?_ ?_ _); rotate_left; (focus (first | omega | (simp; done) | (simp; omega)))) | (with_reducible refine Below.drew ?_) | (refine below_on ?_ (by assumption))))
  have sz_w14 := kB.size
  have sl_w14 := lt_of_block k_p
  clear hB hb h_a h_b h_c h_x h_p
  have h_a := k_a
  have h_b := k_b
  have h_c := k_c
  have h_x := k_x
  have h_p := k_p
  have hB := kB
  clear kB k_a k_b k_c k_x k_p
  have hsz := hB.size
  go_upto_region 11 with (fail)
  refine abs_wp (fun W => W.heap[w.heap.size]? = some (.cells #[.bool (ng (M)), .int .u64 (dg (ab (M)) 0), .int .u64 (dg (ab (M)) 1), .int .u64 (dg (ab (M)) 2), .int .u64 (dg (ab (M)) 3)] 25 (0, 0)) ∧ W.heap[w.heap.size + 1]? = some (.cells #[.bool (q.1), .int .u64 (dg (q.2) 0), .int .u64 (dg (q.2) 1), .int .u64 (dg (q.2) 2), .int .u64 (dg (q.2) 3)] 25 (0, 0)) ∧ W.heap[w.heap.size + 2]? = some (.cells #[.bool (r.1), .int .u64 (dg (r.2) 0), .int .u64 (dg (r.2) 1), .int .u64 (dg (r.2) 2), .int .u64 (dg (r.2) 3)] 25 (0, 0)) ∧ W.heap[w2.heap.size]? = some (.cells #[.bool (ng (X)), .int .u64 (dg (ab (X)) 0), .int .u64 (dg (ab (X)) 1), .int .u64 (dg (ab (X)) 2), .int .u64 (dg (ab (X)) 3)] 25 (0, 0)) ∧ W.heap[w12.heap.size]? = some (.cells #[.bool (ng (VP)), .int .u64 (dg (ab (VP)) 0), .int .u64 (dg (ab (VP)) 1), .int .u64 (dg (ab (VP)) 2), .int .u64 (dg (ab (VP)) 3)] 25 (0, 0)) ∧ W.heap[w14.heap.size]? = some (.cells #[.bool (ng (VQ)), .int .u64 (dg (ab (VQ)) 0), .int .u64 (dg (ab (VQ)) 1), .int .u64 (dg (ab (VQ)) 2), .int .u64 (dg (ab (VQ)) 3)] 25 (0, 0)) ∧ Below w.heap.size w W) ⟨heap_old (h_a) _, heap_old (h_b) _, heap_old (h_c) _, heap_old (h_x) _, heap_old (h_p) _, heap_new _ _, (by focus (repeat (first | (with_reducible exact Below.refl _ _) | (with_reducible assumption) | ((with_reducible refine Below.setCell ?_ ?_ _); rotate_left; (focus (first | omega | (simp; done) | (simp; omega)))) | ((with_reducible refine Below.alloc ?_ ?_ _); rotate_left; (focus (first | omega | (simp; done) | (simp; omega)))) | (with_reducible refine Below.drew ?_) | (refine below_on ?_ (by assumption)))))⟩ fun W15 ⟨g_a, g_b, g_c, g_x, g_p, g_q, gB⟩ => ?_
  clear hB hsz h_a h_b h_c h_x h_p
  have h_a := g_a
  have h_b := g_b
  have h_c := g_c
  have h_x := g_x
  have h_p := g_p
  have h_q := g_q
  have hB := gB
  clear gB g_a g_b g_c g_x g_p g_q
  have c_b := cell_at h_b
  have c_c := cell_at h_c
  go_wp2_with fail
  refine (mul_r _ _ [q, r] (VR) (ER) _ (ints_two (b := W15.heap.size) (p := (q)) (q := (r)) HQ.out HR.out (by focus (repeat (first | (with_reducible exact heap_at (by first | rfl | (simp; done) | (simp; omega)) _) | (with_reducible refine heap_old ?_ _))))) H7.out.1 H7.out.2).mono ?_
  rintro e w16 ⟨rfl, hb⟩
  have k_a := heap_below hb (heap_old h_a _)
  have k_b := heap_below hb (heap_old h_b _)
  have k_c := heap_below hb (heap_old h_c _)
  have k_x := heap_below hb (heap_old h_x _)
  have k_p := heap_below hb (heap_old h_p _)
  have k_q := heap_below hb (heap_old h_q _)
  have kB : Below w.heap.size w w16 := by
    have hsz := hB.size
    focus (repeat (first | (with_reducible exact Below.refl _ _) | (with_reducible assumption) | ((with_reducible refine Below.setCell ?_ ?_ _); rotate_left; (focus (first | omega | (simp; done) | (simp; omega)))) | ((with_reducible refine Below.alloc ?_ ?_ _); rotate_left; (focus (first | omega | (simp; done) | (simp; omega)))) | (with_reducible refine Below.drew ?_) | (refine below_on ?_ (by assumption))))
  have sz_w16 := kB.size
  have sl_w16 := lt_of_block k_q
  clear hB hb h_a h_b h_c h_x h_p h_q
  have h_a := k_a
  have h_b := k_b
  have h_c := k_c
  have h_x := k_x
  have h_p := k_p
  have h_q := k_q
  have hB := kB
  clear kB k_a k_b k_c k_x k_p k_q
  have hsz := hB.size
  go_upto_region 12 with (fail)
  refine abs_wp (fun W => W.heap[w.heap.size]? = some (.cells #[.bool (ng (M)), .int .u64 (dg (ab (M)) 0), .int .u64 (dg (ab (M)) 1), .int .u64 (dg (ab (M)) 2), .int .u64 (dg (ab (M)) 3)] 25 (0, 0)) ∧ W.heap[w.heap.size + 1]? = some (.cells #[.bool (q.1), .int .u64 (dg (q.2) 0), .int .u64 (dg (q.2) 1), .int .u64 (dg (q.2) 2), .int .u64 (dg (q.2) 3)] 25 (0, 0)) ∧ W.heap[w.heap.size + 2]? = some (.cells #[.bool (r.1), .int .u64 (dg (r.2) 0), .int .u64 (dg (r.2) 1), .int .u64 (dg (r.2) 2), .int .u64 (dg (r.2) 3)] 25 (0, 0)) ∧ W.heap[w2.heap.size]? = some (.cells #[.bool (ng (X)), .int .u64 (dg (ab (X)) 0), .int .u64 (dg (ab (X)) 1), .int .u64 (dg (ab (X)) 2), .int .u64 (dg (ab (X)) 3)] 25 (0, 0)) ∧ W.heap[w12.heap.size]? = some (.cells #[.bool (ng (VP)), .int .u64 (dg (ab (VP)) 0), .int .u64 (dg (ab (VP)) 1), .int .u64 (dg (ab (VP)) 2), .int .u64 (dg (ab (VP)) 3)] 25 (0, 0)) ∧ W.heap[w14.heap.size]? = some (.cells #[.bool (ng (VQ)), .int .u64 (dg (ab (VQ)) 0), .int .u64 (dg (ab (VQ)) 1), .int .u64 (dg (ab (VQ)) 2), .int .u64 (dg (ab (VQ)) 3)] 25 (0, 0)) ∧ W.heap[w16.heap.size]? = some (.cells #[.bool (ng (VR)), .int .u64 (dg (ab (VR)) 0), .int .u64 (dg (ab (VR)) 1), .int .u64 (dg (ab (VR)) 2), .int .u64 (dg (ab (VR)) 3)] 25 (0, 0)) ∧ Below w.heap.size w W) ⟨heap_old (h_a) _, heap_old (h_b) _, heap_old (h_c) _, heap_old (h_x) _, heap_old (h_p) _, heap_old (h_q) _, heap_new _ _, (by focus (repeat (first | (with_reducible exact Below.refl _ _) | (with_reducible assumption) | ((with_reducible refine Below.setCell ?_ ?_ _); rotate_left; (focus (first | omega | (simp; done) | (simp; omega)))) | ((with_reducible refine Below.alloc ?_ ?_ _); rotate_left; (focus (first | omega | (simp; done) | (simp; omega)))) | (with_reducible refine Below.drew ?_) | (refine below_on ?_ (by assumption)))))⟩ fun W17 ⟨g_a, g_b, g_c, g_x, g_p, g_q, g_r, gB⟩ => ?_
  clear hB hsz h_a h_b h_c h_x h_p h_q
  have h_a := g_a
  have h_b := g_b
  have h_c := g_c
  have h_x := g_x
  have h_p := g_p
  have h_q := g_q
  have h_r := g_r
  have hB := gB
  clear gB g_a g_b g_c g_x g_p g_q g_r
  have c_q := cell_at h_q
  have c_r := cell_at h_r
  go_wp2_with fail
  refine (add_r _ _ [pr VQ, pr VR] (VS) (ES) _ (ints_two (b := W17.heap.size) (p := (pr VQ)) (q := (pr VR)) HVQ.out HVR.out (by focus (repeat (first | (with_reducible exact heap_at (by first | rfl | (simp; done) | (simp; omega)) _) | (with_reducible refine heap_old ?_ _))))) H8.out.1 H8.out.2).mono ?_
  rintro e w18 ⟨rfl, hb⟩
  have k_a := heap_below hb (heap_old h_a _)
  have k_b := heap_below hb (heap_old h_b _)
  have k_c := heap_below hb (heap_old h_c _)
  have k_x := heap_below hb (heap_old h_x _)
  have k_p := heap_below hb (heap_old h_p _)
  have k_q := heap_below hb (heap_old h_q _)
  have k_r := heap_below hb (heap_old h_r _)
  have kB : Below w.heap.size w w18 := by
    have hsz := hB.size
    focus (repeat (first | (with_reducible exact Below.refl _ _) | (with_reducible assumption) | ((with_reducible refine Below.setCell ?_ ?_ _); rotate_left; (focus (first | omega | (simp; done) | (simp; omega)))) | ((with_reducible refine Below.alloc ?_ ?_ _); rotate_left; (focus (first | omega | (simp; done) | (simp; omega)))) | (with_reducible refine Below.drew ?_) | (refine below_on ?_ (by assumption))))
  have sz_w18 := kB.size
  have sl_w18 := lt_of_block k_r
  clear hB hb h_a h_b h_c h_x h_p h_q h_r
  have h_a := k_a
  have h_b := k_b
  have h_c := k_c
  have h_x := k_x
  have h_p := k_p
  have h_q := k_q
  have h_r := k_r
  have hB := kB
  clear kB k_a k_b k_c k_x k_p k_q k_r
  have hsz := hB.size
  go_upto_region 13 with (fail)
  refine abs_wp (fun W => W.heap[w.heap.size]? = some (.cells #[.bool (ng (M)), .int .u64 (dg (ab (M)) 0), .int .u64 (dg (ab (M)) 1), .int .u64 (dg (ab (M)) 2), .int .u64 (dg (ab (M)) 3)] 25 (0, 0)) ∧ W.heap[w.heap.size + 1]? = some (.cells #[.bool (q.1), .int .u64 (dg (q.2) 0), .int .u64 (dg (q.2) 1), .int .u64 (dg (q.2) 2), .int .u64 (dg (q.2) 3)] 25 (0, 0)) ∧ W.heap[w.heap.size + 2]? = some (.cells #[.bool (r.1), .int .u64 (dg (r.2) 0), .int .u64 (dg (r.2) 1), .int .u64 (dg (r.2) 2), .int .u64 (dg (r.2) 3)] 25 (0, 0)) ∧ W.heap[w2.heap.size]? = some (.cells #[.bool (ng (X)), .int .u64 (dg (ab (X)) 0), .int .u64 (dg (ab (X)) 1), .int .u64 (dg (ab (X)) 2), .int .u64 (dg (ab (X)) 3)] 25 (0, 0)) ∧ W.heap[w12.heap.size]? = some (.cells #[.bool (ng (VP)), .int .u64 (dg (ab (VP)) 0), .int .u64 (dg (ab (VP)) 1), .int .u64 (dg (ab (VP)) 2), .int .u64 (dg (ab (VP)) 3)] 25 (0, 0)) ∧ W.heap[w14.heap.size]? = some (.cells #[.bool (ng (VQ)), .int .u64 (dg (ab (VQ)) 0), .int .u64 (dg (ab (VQ)) 1), .int .u64 (dg (ab (VQ)) 2), .int .u64 (dg (ab (VQ)) 3)] 25 (0, 0)) ∧ W.heap[w16.heap.size]? = some (.cells #[.bool (ng (VR)), .int .u64 (dg (ab (VR)) 0), .int .u64 (dg (ab (VR)) 1), .int .u64 (dg (ab (VR)) 2), .int .u64 (dg (ab (VR)) 3)] 25 (0, 0)) ∧ W.heap[w18.heap.size]? = some (.cells #[.bool (ng (VS)), .int .u64 (dg (ab (VS)) 0), .int .u64 (dg (ab (VS)) 1), .int .u64 (dg (ab (VS)) 2), .int .u64 (dg (ab (VS)) 3)] 25 (0, 0)) ∧ Below w.heap.size w W) ⟨heap_old (h_a) _, heap_old (h_b) _, heap_old (h_c) _, heap_old (h_x) _, heap_old (h_p) _, heap_old (h_q) _, heap_old (h_r) _, heap_new _ _, (by focus (repeat (first | (with_reducible exact Below.refl _ _) | (with_reducible assumption) | ((with_reducible refine Below.setCell ?_ ?_ _); rotate_left; (focus (first | omega | (simp; done) | (simp; omega)))) | ((with_reducible refine Below.alloc ?_ ?_ _); rotate_left; (focus (first | omega | (simp; done) | (simp; omega)))) | (with_reducible refine Below.drew ?_) | (refine below_on ?_ (by assumption)))))⟩ fun W19 ⟨g_a, g_b, g_c, g_x, g_p, g_q, g_r, g_s, gB⟩ => ?_
  clear hB hsz h_a h_b h_c h_x h_p h_q h_r
  have h_a := g_a
  have h_b := g_b
  have h_c := g_c
  have h_x := g_x
  have h_p := g_p
  have h_q := g_q
  have h_r := g_r
  have h_s := g_s
  have hB := gB
  clear gB g_a g_b g_c g_x g_p g_q g_r g_s
  have c_p := cell_at h_p
  have c_s := cell_at h_s
  have ht := HT2.out
  have b1 := HBX.out
  have b2 := HBP.out
  have b3 := HBQ.out
  have b4 := HBR.out
  have b5 := HBS.out
  go_upto_region 15 with ((go_at_call 14; refine (num_s _ _).mono ?_; rintro e w' ⟨rfl, rfl⟩))
  refine abs_wp (fun W => W.heap[w.heap.size]? = some (.cells #[.bool (ng (M)), .int .u64 (dg (ab (M)) 0), .int .u64 (dg (ab (M)) 1), .int .u64 (dg (ab (M)) 2), .int .u64 (dg (ab (M)) 3)] 25 (0, 0)) ∧ W.heap[w.heap.size + 1]? = some (.cells #[.bool (q.1), .int .u64 (dg (q.2) 0), .int .u64 (dg (q.2) 1), .int .u64 (dg (q.2) 2), .int .u64 (dg (q.2) 3)] 25 (0, 0)) ∧ W.heap[w.heap.size + 2]? = some (.cells #[.bool (r.1), .int .u64 (dg (r.2) 0), .int .u64 (dg (r.2) 1), .int .u64 (dg (r.2) 2), .int .u64 (dg (r.2) 3)] 25 (0, 0)) ∧ Below w.heap.size w W) ⟨h_a, h_b, h_c, (by focus (repeat (first | (with_reducible exact Below.refl _ _) | (with_reducible assumption) | ((with_reducible refine Below.setCell ?_ ?_ _); rotate_left; (focus (first | omega | (simp; done) | (simp; omega)))) | ((with_reducible refine Below.alloc ?_ ?_ _); rotate_left; (focus (first | omega | (simp; done) | (simp; omega)))) | (with_reducible refine Below.drew ?_) | (refine below_on ?_ (by assumption)))))⟩ fun W20 ⟨g_a, g_b, g_c, gB⟩ => ?_
  clear hB h_a h_b h_c h_x h_p h_q h_r h_s
  have h_a := g_a
  have h_b := g_b
  have h_c := g_c
  have hB := gB
  clear gB g_a g_b g_c
  clear ht b1 b2 b3 b4 b5
  have c_a := cell_at h_a
  go_wp2_with fail
  refine (text_at M T HP.out HTX.out _).mono ?_
  rintro e w21 ⟨rfl, hb⟩
  have k_a := heap_below hb h_a
  have k_b := heap_below hb h_b
  have k_c := heap_below hb h_c
  have kB : Below w.heap.size w w21 := by
    have hsz := hB.size
    focus (repeat (first | (with_reducible exact Below.refl _ _) | (with_reducible assumption) | ((with_reducible refine Below.setCell ?_ ?_ _); rotate_left; (focus (first | omega | (simp; done) | (simp; omega)))) | ((with_reducible refine Below.alloc ?_ ?_ _); rotate_left; (focus (first | omega | (simp; done) | (simp; omega)))) | (with_reducible refine Below.drew ?_) | (refine below_on ?_ (by assumption))))
  have sz_w21 := kB.size
  have sl_w21 := lt_of_block k_c
  clear hB hb h_a h_b h_c
  have h_a := k_a
  have h_b := k_b
  have h_c := k_c
  have hB := kB
  clear kB k_a k_b k_c
  go_wp2_with fail
  refine (parse_at T M 0 HTS.out HPV.out HPE.out _).mono ?_
  rintro e w22 ⟨rfl, hb⟩
  have k_a := heap_below hb h_a
  have k_b := heap_below hb h_b
  have k_c := heap_below hb h_c
  have kB : Below w.heap.size w w22 := by
    have hsz := hB.size
    focus (repeat (first | (with_reducible exact Below.refl _ _) | (with_reducible assumption) | ((with_reducible refine Below.setCell ?_ ?_ _); rotate_left; (focus (first | omega | (simp; done) | (simp; omega)))) | ((with_reducible refine Below.alloc ?_ ?_ _); rotate_left; (focus (first | omega | (simp; done) | (simp; omega)))) | (with_reducible refine Below.drew ?_) | (refine below_on ?_ (by assumption))))
  have sz_w22 := kB.size
  have sl_w22 := lt_of_block k_c
  clear hB hb h_a h_b h_c
  have h_a := k_a
  have h_b := k_b
  have h_c := k_c
  have hB := kB
  clear kB k_a k_b k_c
  have hsz := hB.size
  go_upto_region 17 with (fail)
  refine abs_wp (fun W => W.heap[w.heap.size]? = some (.cells #[.bool (ng (M)), .int .u64 (dg (ab (M)) 0), .int .u64 (dg (ab (M)) 1), .int .u64 (dg (ab (M)) 2), .int .u64 (dg (ab (M)) 3)] 25 (0, 0)) ∧ W.heap[w.heap.size + 1]? = some (.cells #[.bool (q.1), .int .u64 (dg (q.2) 0), .int .u64 (dg (q.2) 1), .int .u64 (dg (q.2) 2), .int .u64 (dg (q.2) 3)] 25 (0, 0)) ∧ W.heap[w.heap.size + 2]? = some (.cells #[.bool (r.1), .int .u64 (dg (r.2) 0), .int .u64 (dg (r.2) 1), .int .u64 (dg (r.2) 2), .int .u64 (dg (r.2) 3)] 25 (0, 0)) ∧ W.heap[w22.heap.size]? = some (.cells #[.bool (ng (M)), .int .u64 (dg (ab (M)) 0), .int .u64 (dg (ab (M)) 1), .int .u64 (dg (ab (M)) 2), .int .u64 (dg (ab (M)) 3)] 25 (0, 0)) ∧ Below w.heap.size w W) ⟨heap_old (h_a) _, heap_old (h_b) _, heap_old (h_c) _, heap_new _ _, (by focus (repeat (first | (with_reducible exact Below.refl _ _) | (with_reducible assumption) | ((with_reducible refine Below.setCell ?_ ?_ _); rotate_left; (focus (first | omega | (simp; done) | (simp; omega)))) | ((with_reducible refine Below.alloc ?_ ?_ _); rotate_left; (focus (first | omega | (simp; done) | (simp; omega)))) | (with_reducible refine Below.drew ?_) | (refine below_on ?_ (by assumption)))))⟩ fun W23 ⟨g_a, g_b, g_c, g_k, gB⟩ => ?_
  clear hB hsz h_a h_b h_c
  have h_a := g_a
  have h_b := g_b
  have h_c := g_c
  have h_k := g_k
  have hB := gB
  clear gB g_a g_b g_c g_k
  have c_k := cell_at h_k
  have c_a := cell_at h_a
  go_upto_region 19 with ((go_at_call 14; refine (num_s _ _).mono ?_; rintro e w' ⟨rfl, rfl⟩))
  refine abs_wp (fun W => W.heap[w.heap.size]? = some (.cells #[.bool (ng (M)), .int .u64 (dg (ab (M)) 0), .int .u64 (dg (ab (M)) 1), .int .u64 (dg (ab (M)) 2), .int .u64 (dg (ab (M)) 3)] 25 (0, 0)) ∧ W.heap[w.heap.size + 1]? = some (.cells #[.bool (q.1), .int .u64 (dg (q.2) 0), .int .u64 (dg (q.2) 1), .int .u64 (dg (q.2) 2), .int .u64 (dg (q.2) 3)] 25 (0, 0)) ∧ Below w.heap.size w W) ⟨h_a, h_b, (by focus (repeat (first | (with_reducible exact Below.refl _ _) | (with_reducible assumption) | ((with_reducible refine Below.setCell ?_ ?_ _); rotate_left; (focus (first | omega | (simp; done) | (simp; omega)))) | ((with_reducible refine Below.alloc ?_ ?_ _); rotate_left; (focus (first | omega | (simp; done) | (simp; omega)))) | (with_reducible refine Below.drew ?_) | (refine below_on ?_ (by assumption)))))⟩ fun W24 ⟨g_a, g_b, gB⟩ => ?_
  clear hB h_a h_b h_c h_k
  have h_a := g_a
  have h_b := g_b
  have hB := gB
  clear gB g_a g_b
  have c_a := cell_at h_a
  have c_b := cell_at h_b
  go_wp2_with fail
  refine (divides_any (pr M) q HP.out HQ.out _).mono ?_
  rintro e w25 ⟨rfl, hb⟩
  have k_a := heap_below hb h_a
  have k_b := heap_below hb h_b
  have kB : Below w.heap.size w w25 := by
    have hsz := hB.size
    focus (repeat (first | (with_reducible exact Below.refl _ _) | (with_reducible assumption) | ((with_reducible refine Below.setCell ?_ ?_ _); rotate_left; (focus (first | omega | (simp; done) | (simp; omega)))) | ((with_reducible refine Below.alloc ?_ ?_ _); rotate_left; (focus (first | omega | (simp; done) | (simp; omega)))) | (with_reducible refine Below.drew ?_) | (refine below_on ?_ (by assumption))))
  have sz_w25 := kB.size
  have sl_w25 := lt_of_block k_b
  clear hB hb h_a h_b
  have h_a := k_a
  have h_b := k_b
  have hB := kB
  clear kB k_a k_b
  go_wp2_with fail
  refine (works_any _).mono ?_
  rintro e wz ⟨rfl, hb⟩
  have hF := below_on hB hb
  go_wp2
  go_ret
  exact ⟨rfl, hF⟩
set_option maxRecDepth 100000 in
set_option maxHeartbeats 4000000 in
theorem holds_011 (M : Int) (q r : Bool × Nat) (HP : Hd (ab M < 2 ^ 256)) (HQ : Hd (q.2 < 2 ^ 256)) (HR : Hd (r.2 < 2 ^ 256)) (X Z1 VP VQ VR Z2 G H : Int) (HXB : Hd (ab X < 2 ^ 256)) (HVQ : Hd (ab VQ < 2 ^ 256)) (HVR : Hd (ab VR < 2 ^ 256)) (H1 : Hd (addRV [pr M, q] = X ∧ addRE [pr M, q] = 0)) (H2 : Hd (addRV [q, pr M] = X ∧ addRE [q, pr M] = 0)) (H3 : Hd (mulRV [pr M, q, r] = Z1 ∧ mulRE [pr M, q, r] = G)) (H4 : Hd (mulRV [r, q, pr M] = Z2 ∧ mulRE [r, q, pr M] = H)) (H5 : Hd (mulRV [pr X, r] = VP ∧ mulRE [pr X, r] = 0)) (H6 : Hd (mulRV [pr M, r] = VQ ∧ mulRE [pr M, r] = 0)) (H7 : Hd (mulRV [q, r] = VR ∧ mulRE [q, r] = 0)) (H8 : Hd (addRV [pr VQ, pr VR] = VP ∧ addRE [pr VQ, pr VR] = 0)) (HT1 : Hd ((G + H == 0) = false)) (HBG : Hd (0 ≤ G ∧ G ≤ 110)) (HBH : Hd (0 ≤ H ∧ H ≤ 110)) (T : ByteArray) (HTX : Hd (textZ M = T)) (HTS : Hd (T.size ≤ 1000000)) (HPV : Hd (parseV (strB T) = M)) (HPE : Hd (parseE (strB T) = 0)) (w : World) :
    Calls Try.prog 10 #[.agg #[.bool (ng (M)), .int .u64 (dg (ab (M)) 0), .int .u64 (dg (ab (M)) 1), .int .u64 (dg (ab (M)) 2), .int .u64 (dg (ab (M)) 3)], .agg #[.bool (q.1), .int .u64 (dg (q.2) 0), .int .u64 (dg (q.2) 1), .int .u64 (dg (q.2) 2), .int .u64 (dg (q.2) 3)], .agg #[.bool (r.1), .int .u64 (dg (r.2) 0), .int .u64 (dg (r.2) 1), .int .u64 (dg (r.2) 2), .int .u64 (dg (r.2) 3)]] w fun e w' => e = .returned (.bool true) ∧ Below w.heap.size w w' := by
  go_enter Try.func10, Try.ntmps10
  have hB := Below.refl w.heap.size w
  have hsz := hB.size
  go_upto_region 1 with (fail)
  refine abs_wp (fun W => W.heap[w.heap.size]? = some (.cells #[.bool (ng (M)), .int .u64 (dg (ab (M)) 0), .int .u64 (dg (ab (M)) 1), .int .u64 (dg (ab (M)) 2), .int .u64 (dg (ab (M)) 3)] 25 (0, 0)) ∧ W.heap[w.heap.size + 1]? = some (.cells #[.bool (q.1), .int .u64 (dg (q.2) 0), .int .u64 (dg (q.2) 1), .int .u64 (dg (q.2) 2), .int .u64 (dg (q.2) 3)] 25 (0, 0)) ∧ W.heap[w.heap.size + 2]? = some (.cells #[.bool (r.1), .int .u64 (dg (r.2) 0), .int .u64 (dg (r.2) 1), .int .u64 (dg (r.2) 2), .int .u64 (dg (r.2) 3)] 25 (0, 0)) ∧ Below w.heap.size w W) ⟨heap_old (heap_old (heap_new _ _) _) _, heap_old (heap_at (by simp) _) _, heap_at (by simp) _, (by focus (repeat (first | (with_reducible exact Below.refl _ _) | (with_reducible assumption) | ((with_reducible refine Below.setCell ?_ ?_ _); rotate_left; (focus (first | omega | (simp; done) | (simp; omega)))) | ((with_reducible refine Below.alloc ?_ ?_ _); rotate_left; (focus (first | omega | (simp; done) | (simp; omega)))) | (with_reducible refine Below.drew ?_) | (refine below_on ?_ (by assumption)))))⟩ fun W1 ⟨g_a, g_b, g_c, gB⟩ => ?_
  clear hB hsz 
  have h_a := g_a
  have h_b := g_b
  have h_c := g_c
  have hB := gB
  clear gB g_a g_b g_c
  have c_a := cell_at h_a
  have c_b := cell_at h_b
  go_wp2_with fail
  refine (add_r _ _ [pr M, q] (X) (0) _ (ints_two (b := W1.heap.size) (p := (pr M)) (q := (q)) HP.out HQ.out (by focus (repeat (first | (with_reducible exact heap_at (by first | rfl | (simp; done) | (simp; omega)) _) | (with_reducible refine heap_old ?_ _))))) H1.out.1 H1.out.2).mono ?_
  rintro e w2 ⟨rfl, hb⟩
  have k_a := heap_below hb (heap_old h_a _)
  have k_b := heap_below hb (heap_old h_b _)
  have k_c := heap_below hb (heap_old h_c _)
  have kB : Below w.heap.size w w2 := by
    have hsz := hB.size
    focus (repeat (first | (with_reducible exact Below.refl _ _) | (with_reducible assumption) | ((with_reducible refine Below.setCell ?_ ?_ _); rotate_left; (focus (first | omega | (simp; done) | (simp; omega)))) | ((with_reducible refine Below.alloc ?_ ?_ _); rotate_left; (focus (first | omega | (simp; done) | (simp; omega)))) | (with_reducible refine Below.drew ?_) | (refine below_on ?_ (by assumption))))
  have sz_w2 := kB.size
  have sl_w2 := lt_of_block k_c
  clear hB hb h_a h_b h_c
  have h_a := k_a
  have h_b := k_b
  have h_c := k_c
  have hB := kB
  clear kB k_a k_b k_c
  have hsz := hB.size
  go_upto_region 2 with (fail)
  refine abs_wp (fun W => W.heap[w.heap.size]? = some (.cells #[.bool (ng (M)), .int .u64 (dg (ab (M)) 0), .int .u64 (dg (ab (M)) 1), .int .u64 (dg (ab (M)) 2), .int .u64 (dg (ab (M)) 3)] 25 (0, 0)) ∧ W.heap[w.heap.size + 1]? = some (.cells #[.bool (q.1), .int .u64 (dg (q.2) 0), .int .u64 (dg (q.2) 1), .int .u64 (dg (q.2) 2), .int .u64 (dg (q.2) 3)] 25 (0, 0)) ∧ W.heap[w.heap.size + 2]? = some (.cells #[.bool (r.1), .int .u64 (dg (r.2) 0), .int .u64 (dg (r.2) 1), .int .u64 (dg (r.2) 2), .int .u64 (dg (r.2) 3)] 25 (0, 0)) ∧ W.heap[w2.heap.size]? = some (.cells #[.bool (ng (X)), .int .u64 (dg (ab (X)) 0), .int .u64 (dg (ab (X)) 1), .int .u64 (dg (ab (X)) 2), .int .u64 (dg (ab (X)) 3)] 25 (0, 0)) ∧ Below w.heap.size w W) ⟨heap_old (h_a) _, heap_old (h_b) _, heap_old (h_c) _, heap_new _ _, (by focus (repeat (first | (with_reducible exact Below.refl _ _) | (with_reducible assumption) | ((with_reducible refine Below.setCell ?_ ?_ _); rotate_left; (focus (first | omega | (simp; done) | (simp; omega)))) | ((with_reducible refine Below.alloc ?_ ?_ _); rotate_left; (focus (first | omega | (simp; done) | (simp; omega)))) | (with_reducible refine Below.drew ?_) | (refine below_on ?_ (by assumption)))))⟩ fun W3 ⟨g_a, g_b, g_c, g_x, gB⟩ => ?_
  clear hB hsz h_a h_b h_c
  have h_a := g_a
  have h_b := g_b
  have h_c := g_c
  have h_x := g_x
  have hB := gB
  clear gB g_a g_b g_c g_x
  have c_b := cell_at h_b
  have c_a := cell_at h_a
  go_wp2_with fail
  refine (add_r _ _ [q, pr M] (X) (0) _ (ints_two (b := W3.heap.size) (p := (q)) (q := (pr M)) HQ.out HP.out (by focus (repeat (first | (with_reducible exact heap_at (by first | rfl | (simp; done) | (simp; omega)) _) | (with_reducible refine heap_old ?_ _))))) H2.out.1 H2.out.2).mono ?_
  rintro e w4 ⟨rfl, hb⟩
  have k_a := heap_below hb (heap_old h_a _)
  have k_b := heap_below hb (heap_old h_b _)
  have k_c := heap_below hb (heap_old h_c _)
  have k_x := heap_below hb (heap_old h_x _)
  have kB : Below w.heap.size w w4 := by
    have hsz := hB.size
    focus (repeat (first | (with_reducible exact Below.refl _ _) | (with_reducible assumption) | ((with_reducible refine Below.setCell ?_ ?_ _); rotate_left; (focus (first | omega | (simp; done) | (simp; omega)))) | ((with_reducible refine Below.alloc ?_ ?_ _); rotate_left; (focus (first | omega | (simp; done) | (simp; omega)))) | (with_reducible refine Below.drew ?_) | (refine below_on ?_ (by assumption))))
  have sz_w4 := kB.size
  have sl_w4 := lt_of_block k_x
  clear hB hb h_a h_b h_c h_x
  have h_a := k_a
  have h_b := k_b
  have h_c := k_c
  have h_x := k_x
  have hB := kB
  clear kB k_a k_b k_c k_x
  have hsz := hB.size
  go_upto_region 3 with (fail)
  refine abs_wp (fun W => W.heap[w.heap.size]? = some (.cells #[.bool (ng (M)), .int .u64 (dg (ab (M)) 0), .int .u64 (dg (ab (M)) 1), .int .u64 (dg (ab (M)) 2), .int .u64 (dg (ab (M)) 3)] 25 (0, 0)) ∧ W.heap[w.heap.size + 1]? = some (.cells #[.bool (q.1), .int .u64 (dg (q.2) 0), .int .u64 (dg (q.2) 1), .int .u64 (dg (q.2) 2), .int .u64 (dg (q.2) 3)] 25 (0, 0)) ∧ W.heap[w.heap.size + 2]? = some (.cells #[.bool (r.1), .int .u64 (dg (r.2) 0), .int .u64 (dg (r.2) 1), .int .u64 (dg (r.2) 2), .int .u64 (dg (r.2) 3)] 25 (0, 0)) ∧ W.heap[w2.heap.size]? = some (.cells #[.bool (ng (X)), .int .u64 (dg (ab (X)) 0), .int .u64 (dg (ab (X)) 1), .int .u64 (dg (ab (X)) 2), .int .u64 (dg (ab (X)) 3)] 25 (0, 0)) ∧ W.heap[w4.heap.size]? = some (.cells #[.bool (ng (X)), .int .u64 (dg (ab (X)) 0), .int .u64 (dg (ab (X)) 1), .int .u64 (dg (ab (X)) 2), .int .u64 (dg (ab (X)) 3)] 25 (0, 0)) ∧ Below w.heap.size w W) ⟨heap_old (h_a) _, heap_old (h_b) _, heap_old (h_c) _, heap_old (h_x) _, heap_new _ _, (by focus (repeat (first | (with_reducible exact Below.refl _ _) | (with_reducible assumption) | ((with_reducible refine Below.setCell ?_ ?_ _); rotate_left; (focus (first | omega | (simp; done) | (simp; omega)))) | ((with_reducible refine Below.alloc ?_ ?_ _); rotate_left; (focus (first | omega | (simp; done) | (simp; omega)))) | (with_reducible refine Below.drew ?_) | (refine below_on ?_ (by assumption)))))⟩ fun W5 ⟨g_a, g_b, g_c, g_x, g_y, gB⟩ => ?_
  clear hB hsz h_a h_b h_c h_x
  have h_a := g_a
  have h_b := g_b
  have h_c := g_c
  have h_x := g_x
  have h_y := g_y
  have hB := gB
  clear gB g_a g_b g_c g_x g_y
  have c_x := cell_at h_x
  have c_y := cell_at h_y
  go_upto_region 5 with (fail)
  refine abs_wp (fun W => W.heap[w.heap.size]? = some (.cells #[.bool (ng (M)), .int .u64 (dg (ab (M)) 0), .int .u64 (dg (ab (M)) 1), .int .u64 (dg (ab (M)) 2), .int .u64 (dg (ab (M)) 3)] 25 (0, 0)) ∧ W.heap[w.heap.size + 1]? = some (.cells #[.bool (q.1), .int .u64 (dg (q.2) 0), .int .u64 (dg (q.2) 1), .int .u64 (dg (q.2) 2), .int .u64 (dg (q.2) 3)] 25 (0, 0)) ∧ W.heap[w.heap.size + 2]? = some (.cells #[.bool (r.1), .int .u64 (dg (r.2) 0), .int .u64 (dg (r.2) 1), .int .u64 (dg (r.2) 2), .int .u64 (dg (r.2) 3)] 25 (0, 0)) ∧ W.heap[w2.heap.size]? = some (.cells #[.bool (ng (X)), .int .u64 (dg (ab (X)) 0), .int .u64 (dg (ab (X)) 1), .int .u64 (dg (ab (X)) 2), .int .u64 (dg (ab (X)) 3)] 25 (0, 0)) ∧ Below w.heap.size w W) ⟨h_a, h_b, h_c, h_x, (by focus (repeat (first | (with_reducible exact Below.refl _ _) | (with_reducible assumption) | ((with_reducible refine Below.setCell ?_ ?_ _); rotate_left; (focus (first | omega | (simp; done) | (simp; omega)))) | ((with_reducible refine Below.alloc ?_ ?_ _); rotate_left; (focus (first | omega | (simp; done) | (simp; omega)))) | (with_reducible refine Below.drew ?_) | (refine below_on ?_ (by assumption)))))⟩ fun W6 ⟨g_a, g_b, g_c, g_x, gB⟩ => ?_
  clear hB h_a h_b h_c h_x h_y
  have h_a := g_a
  have h_b := g_b
  have h_c := g_c
  have h_x := g_x
  have hB := gB
  clear gB g_a g_b g_c g_x
  have c_a := cell_at h_a
  have c_b := cell_at h_b
  have c_c := cell_at h_c
  go_wp2_with fail
  refine (mul_r _ _ [pr M, q, r] (Z1) (G) _ (ints_three (b := W6.heap.size) (p := (pr M)) (q := (q)) (r := (r)) HP.out HQ.out HR.out (by focus (repeat (first | (with_reducible exact heap_at (by first | rfl | (simp; done) | (simp; omega)) _) | (with_reducible refine heap_old ?_ _))))) H3.out.1 H3.out.2).mono ?_
  rintro e w7 ⟨rfl, hb⟩
  have k_a := heap_below hb (heap_old h_a _)
  have k_b := heap_below hb (heap_old h_b _)
  have k_c := heap_below hb (heap_old h_c _)
  have k_x := heap_below hb (heap_old h_x _)
  have kB : Below w.heap.size w w7 := by
    have hsz := hB.size
    focus (repeat (first | (with_reducible exact Below.refl _ _) | (with_reducible assumption) | ((with_reducible refine Below.setCell ?_ ?_ _); rotate_left; (focus (first | omega | (simp; done) | (simp; omega)))) | ((with_reducible refine Below.alloc ?_ ?_ _); rotate_left; (focus (first | omega | (simp; done) | (simp; omega)))) | (with_reducible refine Below.drew ?_) | (refine below_on ?_ (by assumption))))
  have sz_w7 := kB.size
  have sl_w7 := lt_of_block k_x
  clear hB hb h_a h_b h_c h_x
  have h_a := k_a
  have h_b := k_b
  have h_c := k_c
  have h_x := k_x
  have hB := kB
  clear kB k_a k_b k_c k_x
  have hsz := hB.size
  go_upto_region 6 with (fail)
  refine abs_wp (fun W => W.heap[w.heap.size]? = some (.cells #[.bool (ng (M)), .int .u64 (dg (ab (M)) 0), .int .u64 (dg (ab (M)) 1), .int .u64 (dg (ab (M)) 2), .int .u64 (dg (ab (M)) 3)] 25 (0, 0)) ∧ W.heap[w.heap.size + 1]? = some (.cells #[.bool (q.1), .int .u64 (dg (q.2) 0), .int .u64 (dg (q.2) 1), .int .u64 (dg (q.2) 2), .int .u64 (dg (q.2) 3)] 25 (0, 0)) ∧ W.heap[w.heap.size + 2]? = some (.cells #[.bool (r.1), .int .u64 (dg (r.2) 0), .int .u64 (dg (r.2) 1), .int .u64 (dg (r.2) 2), .int .u64 (dg (r.2) 3)] 25 (0, 0)) ∧ W.heap[w2.heap.size]? = some (.cells #[.bool (ng (X)), .int .u64 (dg (ab (X)) 0), .int .u64 (dg (ab (X)) 1), .int .u64 (dg (ab (X)) 2), .int .u64 (dg (ab (X)) 3)] 25 (0, 0)) ∧ W.heap[w7.heap.size]? = some (.cells #[.bool (ng (Z1)), .int .u64 (dg (ab (Z1)) 0), .int .u64 (dg (ab (Z1)) 1), .int .u64 (dg (ab (Z1)) 2), .int .u64 (dg (ab (Z1)) 3)] 25 (0, 0)) ∧ Below w.heap.size w W) ⟨heap_old (h_a) _, heap_old (h_b) _, heap_old (h_c) _, heap_old (h_x) _, heap_new _ _, (by focus (repeat (first | (with_reducible exact Below.refl _ _) | (with_reducible assumption) | ((with_reducible refine Below.setCell ?_ ?_ _); rotate_left; (focus (first | omega | (simp; done) | (simp; omega)))) | ((with_reducible refine Below.alloc ?_ ?_ _); rotate_left; (focus (first | omega | (simp; done) | (simp; omega)))) | (with_reducible refine Below.drew ?_) | (refine below_on ?_ (by assumption)))))⟩ fun W8 ⟨g_a, g_b, g_c, g_x, g_z, gB⟩ => ?_
  clear hB hsz h_a h_b h_c h_x
  have h_a := g_a
  have h_b := g_b
  have h_c := g_c
  have h_x := g_x
  have h_z := g_z
  have hB := gB
  clear gB g_a g_b g_c g_x g_z
  have c_c := cell_at h_c
  have c_b := cell_at h_b
  have c_a := cell_at h_a
  go_wp2_with fail
  refine (mul_r _ _ [r, q, pr M] (Z2) (H) _ (ints_three (b := W8.heap.size) (p := (r)) (q := (q)) (r := (pr M)) HR.out HQ.out HP.out (by focus (repeat (first | (with_reducible exact heap_at (by first | rfl | (simp; done) | (simp; omega)) _) | (with_reducible refine heap_old ?_ _))))) H4.out.1 H4.out.2).mono ?_
  rintro e w9 ⟨rfl, hb⟩
  have k_a := heap_below hb (heap_old h_a _)
  have k_b := heap_below hb (heap_old h_b _)
  have k_c := heap_below hb (heap_old h_c _)
  have k_x := heap_below hb (heap_old h_x _)
  have k_z := heap_below hb (heap_old h_z _)
  have kB : Below w.heap.size w w9 := by
    have hsz := hB.size
    focus (repeat (first | (with_reducible exact Below.refl _ _) | (with_reducible assumption) | ((with_reducible refine Below.setCell ?_ ?_ _); rotate_left; (focus (first | omega | (simp; done) | (simp; omega)))) | ((with_reducible refine Below.alloc ?_ ?_ _); rotate_left; (focus (first | omega | (simp; done) | (simp; omega)))) | (with_reducible refine Below.drew ?_) | (refine below_on ?_ (by assumption))))
  have sz_w9 := kB.size
  have sl_w9 := lt_of_block k_z
  clear hB hb h_a h_b h_c h_x h_z
  have h_a := k_a
  have h_b := k_b
  have h_c := k_c
  have h_x := k_x
  have h_z := k_z
  have hB := kB
  clear kB k_a k_b k_c k_x k_z
  have hsz := hB.size
  go_upto_region 7 with (fail)
  refine abs_wp (fun W => W.heap[w.heap.size]? = some (.cells #[.bool (ng (M)), .int .u64 (dg (ab (M)) 0), .int .u64 (dg (ab (M)) 1), .int .u64 (dg (ab (M)) 2), .int .u64 (dg (ab (M)) 3)] 25 (0, 0)) ∧ W.heap[w.heap.size + 1]? = some (.cells #[.bool (q.1), .int .u64 (dg (q.2) 0), .int .u64 (dg (q.2) 1), .int .u64 (dg (q.2) 2), .int .u64 (dg (q.2) 3)] 25 (0, 0)) ∧ W.heap[w.heap.size + 2]? = some (.cells #[.bool (r.1), .int .u64 (dg (r.2) 0), .int .u64 (dg (r.2) 1), .int .u64 (dg (r.2) 2), .int .u64 (dg (r.2) 3)] 25 (0, 0)) ∧ W.heap[w2.heap.size]? = some (.cells #[.bool (ng (X)), .int .u64 (dg (ab (X)) 0), .int .u64 (dg (ab (X)) 1), .int .u64 (dg (ab (X)) 2), .int .u64 (dg (ab (X)) 3)] 25 (0, 0)) ∧ W.heap[w7.heap.size]? = some (.cells #[.bool (ng (Z1)), .int .u64 (dg (ab (Z1)) 0), .int .u64 (dg (ab (Z1)) 1), .int .u64 (dg (ab (Z1)) 2), .int .u64 (dg (ab (Z1)) 3)] 25 (0, 0)) ∧ W.heap[w9.heap.size]? = some (.cells #[.bool (ng (Z2)), .int .u64 (dg (ab (Z2)) 0), .int .u64 (dg (ab (Z2)) 1), .int .u64 (dg (ab (Z2)) 2), .int .u64 (dg (ab (Z2)) 3)] 25 (0, 0)) ∧ Below w.heap.size w W) ⟨heap_old (h_a) _, heap_old (h_b) _, heap_old (h_c) _, heap_old (h_x) _, heap_old (h_z) _, heap_new _ _, (by focus (repeat (first | (with_reducible exact Below.refl _ _) | (with_reducible assumption) | ((with_reducible refine Below.setCell ?_ ?_ _); rotate_left; (focus (first | omega | (simp; done) | (simp; omega)))) | ((with_reducible refine Below.alloc ?_ ?_ _); rotate_left; (focus (first | omega | (simp; done) | (simp; omega)))) | (with_reducible refine Below.drew ?_) | (refine below_on ?_ (by assumption)))))⟩ fun W10 ⟨g_a, g_b, g_c, g_x, g_z, g_u, gB⟩ => ?_
  clear hB hsz h_a h_b h_c h_x h_z
  have h_a := g_a
  have h_b := g_b
  have h_c := g_c
  have h_x := g_x
  have h_z := g_z
  have h_u := g_u
  have hB := gB
  clear gB g_a g_b g_c g_x g_z g_u
  have c_z := cell_at h_z
  have c_u := cell_at h_u
  have ht := HT1.out
  have hg := HBG.out
  have hh := HBH.out
  go_upto_region 9 with ((go_at_call 14; refine (num_s _ _).mono ?_; rintro e w' ⟨rfl, rfl⟩))
  refine abs_wp (fun W => W.heap[w.heap.size]? = some (.cells #[.bool (ng (M)), .int .u64 (dg (ab (M)) 0), .int .u64 (dg (ab (M)) 1), .int .u64 (dg (ab (M)) 2), .int .u64 (dg (ab (M)) 3)] 25 (0, 0)) ∧ W.heap[w.heap.size + 1]? = some (.cells #[.bool (q.1), .int .u64 (dg (q.2) 0), .int .u64 (dg (q.2) 1), .int .u64 (dg (q.2) 2), .int .u64 (dg (q.2) 3)] 25 (0, 0)) ∧ W.heap[w.heap.size + 2]? = some (.cells #[.bool (r.1), .int .u64 (dg (r.2) 0), .int .u64 (dg (r.2) 1), .int .u64 (dg (r.2) 2), .int .u64 (dg (r.2) 3)] 25 (0, 0)) ∧ W.heap[w2.heap.size]? = some (.cells #[.bool (ng (X)), .int .u64 (dg (ab (X)) 0), .int .u64 (dg (ab (X)) 1), .int .u64 (dg (ab (X)) 2), .int .u64 (dg (ab (X)) 3)] 25 (0, 0)) ∧ Below w.heap.size w W) ⟨h_a, h_b, h_c, h_x, (by focus (repeat (first | (with_reducible exact Below.refl _ _) | (with_reducible assumption) | ((with_reducible refine Below.setCell ?_ ?_ _); rotate_left; (focus (first | omega | (simp; done) | (simp; omega)))) | ((with_reducible refine Below.alloc ?_ ?_ _); rotate_left; (focus (first | omega | (simp; done) | (simp; omega)))) | (with_reducible refine Below.drew ?_) | (refine below_on ?_ (by assumption)))))⟩ fun W11 ⟨g_a, g_b, g_c, g_x, gB⟩ => ?_
  clear hB h_a h_b h_c h_x h_z h_u
  have h_a := g_a
  have h_b := g_b
  have h_c := g_c
  have h_x := g_x
  have hB := gB
  clear gB g_a g_b g_c g_x
  clear ht hg hh
  have c_x := cell_at h_x
  have c_c := cell_at h_c
  go_wp2_with fail
  refine (mul_r _ _ [pr X, r] (VP) (0) _ (ints_two (b := W11.heap.size) (p := (pr X)) (q := (r)) HXB.out HR.out (by focus (repeat (first | (with_reducible exact heap_at (by first | rfl | (simp; done) | (simp; omega)) _) | (with_reducible refine heap_old ?_ _))))) H5.out.1 H5.out.2).mono ?_
  rintro e w12 ⟨rfl, hb⟩
  have k_a := heap_below hb (heap_old h_a _)
  have k_b := heap_below hb (heap_old h_b _)
  have k_c := heap_below hb (heap_old h_c _)
  have k_x := heap_below hb (heap_old h_x _)
  have kB : Below w.heap.size w w12 := by
    have hsz := hB.size
    focus (repeat (first | (with_reducible exact Below.refl _ _) | (with_reducible assumption) | ((with_reducible refine Below.setCell ?_ ?_ _); rotate_left; (focus (first | omega | (simp; done) | (simp; omega)))) | ((with_reducible refine Below.alloc ?_ ?_ _); rotate_left; (focus (first | omega | (simp; done) | (simp; omega)))) | (with_reducible refine Below.drew ?_) | (refine below_on ?_ (by assumption))))
  have sz_w12 := kB.size
  have sl_w12 := lt_of_block k_x
  clear hB hb h_a h_b h_c h_x
  have h_a := k_a
  have h_b := k_b
  have h_c := k_c
  have h_x := k_x
  have hB := kB
  clear kB k_a k_b k_c k_x
  have hsz := hB.size
  go_upto_region 10 with (fail)
  refine abs_wp (fun W => W.heap[w.heap.size]? = some (.cells #[.bool (ng (M)), .int .u64 (dg (ab (M)) 0), .int .u64 (dg (ab (M)) 1), .int .u64 (dg (ab (M)) 2), .int .u64 (dg (ab (M)) 3)] 25 (0, 0)) ∧ W.heap[w.heap.size + 1]? = some (.cells #[.bool (q.1), .int .u64 (dg (q.2) 0), .int .u64 (dg (q.2) 1), .int .u64 (dg (q.2) 2), .int .u64 (dg (q.2) 3)] 25 (0, 0)) ∧ W.heap[w.heap.size + 2]? = some (.cells #[.bool (r.1), .int .u64 (dg (r.2) 0), .int .u64 (dg (r.2) 1), .int .u64 (dg (r.2) 2), .int .u64 (dg (r.2) 3)] 25 (0, 0)) ∧ W.heap[w2.heap.size]? = some (.cells #[.bool (ng (X)), .int .u64 (dg (ab (X)) 0), .int .u64 (dg (ab (X)) 1), .int .u64 (dg (ab (X)) 2), .int .u64 (dg (ab (X)) 3)] 25 (0, 0)) ∧ W.heap[w12.heap.size]? = some (.cells #[.bool (ng (VP)), .int .u64 (dg (ab (VP)) 0), .int .u64 (dg (ab (VP)) 1), .int .u64 (dg (ab (VP)) 2), .int .u64 (dg (ab (VP)) 3)] 25 (0, 0)) ∧ Below w.heap.size w W) ⟨heap_old (h_a) _, heap_old (h_b) _, heap_old (h_c) _, heap_old (h_x) _, heap_new _ _, (by focus (repeat (first | (with_reducible exact Below.refl _ _) | (with_reducible assumption) | ((with_reducible refine Below.setCell ?_ ?_ _); rotate_left; (focus (first | omega | (simp; done) | (simp; omega)))) | ((with_reducible refine Below.alloc ?_ ?_ _); rotate_left; (focus (first | omega | (simp; done) | (simp; omega)))) | (with_reducible refine Below.drew ?_) | (refine below_on ?_ (by assumption)))))⟩ fun W13 ⟨g_a, g_b, g_c, g_x, g_p, gB⟩ => ?_
  clear hB hsz h_a h_b h_c h_x
  have h_a := g_a
  have h_b := g_b
  have h_c := g_c
  have h_x := g_x
  have h_p := g_p
  have hB := gB
  clear gB g_a g_b g_c g_x g_p
  have c_a := cell_at h_a
  have c_c := cell_at h_c
  go_wp2_with fail
  refine (mul_r _ _ [pr M, r] (VQ) (0) _ (ints_two (b := W13.heap.size) (p := (pr M)) (q := (r)) HP.out HR.out (by focus (repeat (first | (with_reducible exact heap_at (by first | rfl | (simp; done) | (simp; omega)) _) | (with_reducible refine heap_old ?_ _))))) H6.out.1 H6.out.2).mono ?_
  rintro e w14 ⟨rfl, hb⟩
  have k_a := heap_below hb (heap_old h_a _)
  have k_b := heap_below hb (heap_old h_b _)
  have k_c := heap_below hb (heap_old h_c _)
  have k_x := heap_below hb (heap_old h_x _)
  have k_p := heap_below hb (heap_old h_p _)
  have kB : Below w.heap.size w w14 := by
    have hsz := hB.size
    focus (repeat (first | (with_reducible exact Below.refl _ _) | (with_reducible assumption) | ((with_reducible refine Below.setCell ?_ ?_ _); rotate_left; (focus (first | omega | (simp; done) | (simp; omega)))) | ((with_reducible refine Below.alloc ?_ ?_ _); rotate_left; (focus (first | omega | (simp; done) | (simp; omega)))) | (with_reducible refine Below.drew ?_) | (refine below_on ?_ (by assumption))))
  have sz_w14 := kB.size
  have sl_w14 := lt_of_block k_p
  clear hB hb h_a h_b h_c h_x h_p
  have h_a := k_a
  have h_b := k_b
  have h_c := k_c
  have h_x := k_x
  have h_p := k_p
  have hB := kB
  clear kB k_a k_b k_c k_x k_p
  have hsz := hB.size
  go_upto_region 11 with (fail)
  refine abs_wp (fun W => W.heap[w.heap.size]? = some (.cells #[.bool (ng (M)), .int .u64 (dg (ab (M)) 0), .int .u64 (dg (ab (M)) 1), .int .u64 (dg (ab (M)) 2), .int .u64 (dg (ab (M)) 3)] 25 (0, 0)) ∧ W.heap[w.heap.size + 1]? = some (.cells #[.bool (q.1), .int .u64 (dg (q.2) 0), .int .u64 (dg (q.2) 1), .int .u64 (dg (q.2) 2), .int .u64 (dg (q.2) 3)] 25 (0, 0)) ∧ W.heap[w.heap.size + 2]? = some (.cells #[.bool (r.1), .int .u64 (dg (r.2) 0), .int .u64 (dg (r.2) 1), .int .u64 (dg (r.2) 2), .int .u64 (dg (r.2) 3)] 25 (0, 0)) ∧ W.heap[w2.heap.size]? = some (.cells #[.bool (ng (X)), .int .u64 (dg (ab (X)) 0), .int .u64 (dg (ab (X)) 1), .int .u64 (dg (ab (X)) 2), .int .u64 (dg (ab (X)) 3)] 25 (0, 0)) ∧ W.heap[w12.heap.size]? = some (.cells #[.bool (ng (VP)), .int .u64 (dg (ab (VP)) 0), .int .u64 (dg (ab (VP)) 1), .int .u64 (dg (ab (VP)) 2), .int .u64 (dg (ab (VP)) 3)] 25 (0, 0)) ∧ W.heap[w14.heap.size]? = some (.cells #[.bool (ng (VQ)), .int .u64 (dg (ab (VQ)) 0), .int .u64 (dg (ab (VQ)) 1), .int .u64 (dg (ab (VQ)) 2), .int .u64 (dg (ab (VQ)) 3)] 25 (0, 0)) ∧ Below w.heap.size w W) ⟨heap_old (h_a) _, heap_old (h_b) _, heap_old (h_c) _, heap_old (h_x) _, heap_old (h_p) _, heap_new _ _, (by focus (repeat (first | (with_reducible exact Below.refl _ _) | (with_reducible assumption) | ((with_reducible refine Below.setCell ?_ ?_ _); rotate_left; (focus (first | omega | (simp; done) | (simp; omega)))) | ((with_reducible refine Below.alloc ?_ ?_ _); rotate_left; (focus (first | omega | (simp; done) | (simp; omega)))) | (with_reducible refine Below.drew ?_) | (refine below_on ?_ (by assumption)))))⟩ fun W15 ⟨g_a, g_b, g_c, g_x, g_p, g_q, gB⟩ => ?_
  clear hB hsz h_a h_b h_c h_x h_p
  have h_a := g_a
  have h_b := g_b
  have h_c := g_c
  have h_x := g_x
  have h_p := g_p
  have h_q := g_q
  have hB := gB
  clear gB g_a g_b g_c g_x g_p g_q
  have c_b := cell_at h_b
  have c_c := cell_at h_c
  go_wp2_with fail
  refine (mul_r _ _ [q, r] (VR) (0) _ (ints_two (b := W15.heap.size) (p := (q)) (q := (r)) HQ.out HR.out (by focus (repeat (first | (with_reducible exact heap_at (by first | rfl | (simp; done) | (simp; omega)) _) | (with_reducible refine heap_old ?_ _))))) H7.out.1 H7.out.2).mono ?_
  rintro e w16 ⟨rfl, hb⟩
  have k_a := heap_below hb (heap_old h_a _)
  have k_b := heap_below hb (heap_old h_b _)
  have k_c := heap_below hb (heap_old h_c _)
  have k_x := heap_below hb (heap_old h_x _)
  have k_p := heap_below hb (heap_old h_p _)
  have k_q := heap_below hb (heap_old h_q _)
  have kB : Below w.heap.size w w16 := by
    have hsz := hB.size
    focus (repeat (first | (with_reducible exact Below.refl _ _) | (with_reducible assumption) | ((with_reducible refine Below.setCell ?_ ?_ _); rotate_left; (focus (first | omega | (simp; done) | (simp; omega)))) | ((with_reducible refine Below.alloc ?_ ?_ _); rotate_left; (focus (first | omega | (simp; done) | (simp; omega)))) | (with_reducible refine Below.drew ?_) | (refine below_on ?_ (by assumption))))
  have sz_w16 := kB.size
  have sl_w16 := lt_of_block k_q
  clear hB hb h_a h_b h_c h_x h_p h_q
  have h_a := k_a
  have h_b := k_b
  have h_c := k_c
  have h_x := k_x
  have h_p := k_p
  have h_q := k_q
  have hB := kB
  clear kB k_a k_b k_c k_x k_p k_q
  have hsz := hB.size
  go_upto_region 12 with (fail)
  refine abs_wp (fun W => W.heap[w.heap.size]? = some (.cells #[.bool (ng (M)), .int .u64 (dg (ab (M)) 0), .int .u64 (dg (ab (M)) 1), .int .u64 (dg (ab (M)) 2), .int .u64 (dg (ab (M)) 3)] 25 (0, 0)) ∧ W.heap[w.heap.size + 1]? = some (.cells #[.bool (q.1), .int .u64 (dg (q.2) 0), .int .u64 (dg (q.2) 1), .int .u64 (dg (q.2) 2), .int .u64 (dg (q.2) 3)] 25 (0, 0)) ∧ W.heap[w.heap.size + 2]? = some (.cells #[.bool (r.1), .int .u64 (dg (r.2) 0), .int .u64 (dg (r.2) 1), .int .u64 (dg (r.2) 2), .int .u64 (dg (r.2) 3)] 25 (0, 0)) ∧ W.heap[w2.heap.size]? = some (.cells #[.bool (ng (X)), .int .u64 (dg (ab (X)) 0), .int .u64 (dg (ab (X)) 1), .int .u64 (dg (ab (X)) 2), .int .u64 (dg (ab (X)) 3)] 25 (0, 0)) ∧ W.heap[w12.heap.size]? = some (.cells #[.bool (ng (VP)), .int .u64 (dg (ab (VP)) 0), .int .u64 (dg (ab (VP)) 1), .int .u64 (dg (ab (VP)) 2), .int .u64 (dg (ab (VP)) 3)] 25 (0, 0)) ∧ W.heap[w14.heap.size]? = some (.cells #[.bool (ng (VQ)), .int .u64 (dg (ab (VQ)) 0), .int .u64 (dg (ab (VQ)) 1), .int .u64 (dg (ab (VQ)) 2), .int .u64 (dg (ab (VQ)) 3)] 25 (0, 0)) ∧ W.heap[w16.heap.size]? = some (.cells #[.bool (ng (VR)), .int .u64 (dg (ab (VR)) 0), .int .u64 (dg (ab (VR)) 1), .int .u64 (dg (ab (VR)) 2), .int .u64 (dg (ab (VR)) 3)] 25 (0, 0)) ∧ Below w.heap.size w W) ⟨heap_old (h_a) _, heap_old (h_b) _, heap_old (h_c) _, heap_old (h_x) _, heap_old (h_p) _, heap_old (h_q) _, heap_new _ _, (by focus (repeat (first | (with_reducible exact Below.refl _ _) | (with_reducible assumption) | ((with_reducible refine Below.setCell ?_ ?_ _); rotate_left; (focus (first | omega | (simp; done) | (simp; omega)))) | ((with_reducible refine Below.alloc ?_ ?_ _); rotate_left; (focus (first | omega | (simp; done) | (simp; omega)))) | (with_reducible refine Below.drew ?_) | (refine below_on ?_ (by assumption)))))⟩ fun W17 ⟨g_a, g_b, g_c, g_x, g_p, g_q, g_r, gB⟩ => ?_
  clear hB hsz h_a h_b h_c h_x h_p h_q
  have h_a := g_a
  have h_b := g_b
  have h_c := g_c
  have h_x := g_x
  have h_p := g_p
  have h_q := g_q
  have h_r := g_r
  have hB := gB
  clear gB g_a g_b g_c g_x g_p g_q g_r
  have c_q := cell_at h_q
  have c_r := cell_at h_r
  go_wp2_with fail
  refine (add_r _ _ [pr VQ, pr VR] (VP) (0) _ (ints_two (b := W17.heap.size) (p := (pr VQ)) (q := (pr VR)) HVQ.out HVR.out (by focus (repeat (first | (with_reducible exact heap_at (by first | rfl | (simp; done) | (simp; omega)) _) | (with_reducible refine heap_old ?_ _))))) H8.out.1 H8.out.2).mono ?_
  rintro e w18 ⟨rfl, hb⟩
  have k_a := heap_below hb (heap_old h_a _)
  have k_b := heap_below hb (heap_old h_b _)
  have k_c := heap_below hb (heap_old h_c _)
  have k_x := heap_below hb (heap_old h_x _)
  have k_p := heap_below hb (heap_old h_p _)
  have k_q := heap_below hb (heap_old h_q _)
  have k_r := heap_below hb (heap_old h_r _)
  have kB : Below w.heap.size w w18 := by
    have hsz := hB.size
    focus (repeat (first | (with_reducible exact Below.refl _ _) | (with_reducible assumption) | ((with_reducible refine Below.setCell ?_ ?_ _); rotate_left; (focus (first | omega | (simp; done) | (simp; omega)))) | ((with_reducible refine Below.alloc ?_ ?_ _); rotate_left; (focus (first | omega | (simp; done) | (simp; omega)))) | (with_reducible refine Below.drew ?_) | (refine below_on ?_ (by assumption))))
  have sz_w18 := kB.size
  have sl_w18 := lt_of_block k_r
  clear hB hb h_a h_b h_c h_x h_p h_q h_r
  have h_a := k_a
  have h_b := k_b
  have h_c := k_c
  have h_x := k_x
  have h_p := k_p
  have h_q := k_q
  have h_r := k_r
  have hB := kB
  clear kB k_a k_b k_c k_x k_p k_q k_r
  have hsz := hB.size
  go_upto_region 13 with (fail)
  refine abs_wp (fun W => W.heap[w.heap.size]? = some (.cells #[.bool (ng (M)), .int .u64 (dg (ab (M)) 0), .int .u64 (dg (ab (M)) 1), .int .u64 (dg (ab (M)) 2), .int .u64 (dg (ab (M)) 3)] 25 (0, 0)) ∧ W.heap[w.heap.size + 1]? = some (.cells #[.bool (q.1), .int .u64 (dg (q.2) 0), .int .u64 (dg (q.2) 1), .int .u64 (dg (q.2) 2), .int .u64 (dg (q.2) 3)] 25 (0, 0)) ∧ W.heap[w.heap.size + 2]? = some (.cells #[.bool (r.1), .int .u64 (dg (r.2) 0), .int .u64 (dg (r.2) 1), .int .u64 (dg (r.2) 2), .int .u64 (dg (r.2) 3)] 25 (0, 0)) ∧ W.heap[w2.heap.size]? = some (.cells #[.bool (ng (X)), .int .u64 (dg (ab (X)) 0), .int .u64 (dg (ab (X)) 1), .int .u64 (dg (ab (X)) 2), .int .u64 (dg (ab (X)) 3)] 25 (0, 0)) ∧ W.heap[w12.heap.size]? = some (.cells #[.bool (ng (VP)), .int .u64 (dg (ab (VP)) 0), .int .u64 (dg (ab (VP)) 1), .int .u64 (dg (ab (VP)) 2), .int .u64 (dg (ab (VP)) 3)] 25 (0, 0)) ∧ W.heap[w14.heap.size]? = some (.cells #[.bool (ng (VQ)), .int .u64 (dg (ab (VQ)) 0), .int .u64 (dg (ab (VQ)) 1), .int .u64 (dg (ab (VQ)) 2), .int .u64 (dg (ab (VQ)) 3)] 25 (0, 0)) ∧ W.heap[w16.heap.size]? = some (.cells #[.bool (ng (VR)), .int .u64 (dg (ab (VR)) 0), .int .u64 (dg (ab (VR)) 1), .int .u64 (dg (ab (VR)) 2), .int .u64 (dg (ab (VR)) 3)] 25 (0, 0)) ∧ W.heap[w18.heap.size]? = some (.cells #[.bool (ng (VP)), .int .u64 (dg (ab (VP)) 0), .int .u64 (dg (ab (VP)) 1), .int .u64 (dg (ab (VP)) 2), .int .u64 (dg (ab (VP)) 3)] 25 (0, 0)) ∧ Below w.heap.size w W) ⟨heap_old (h_a) _, heap_old (h_b) _, heap_old (h_c) _, heap_old (h_x) _, heap_old (h_p) _, heap_old (h_q) _, heap_old (h_r) _, heap_new _ _, (by focus (repeat (first | (with_reducible exact Below.refl _ _) | (with_reducible assumption) | ((with_reducible refine Below.setCell ?_ ?_ _); rotate_left; (focus (first | omega | (simp; done) | (simp; omega)))) | ((with_reducible refine Below.alloc ?_ ?_ _); rotate_left; (focus (first | omega | (simp; done) | (simp; omega)))) | (with_reducible refine Below.drew ?_) | (refine below_on ?_ (by assumption)))))⟩ fun W19 ⟨g_a, g_b, g_c, g_x, g_p, g_q, g_r, g_s, gB⟩ => ?_
  clear hB hsz h_a h_b h_c h_x h_p h_q h_r
  have h_a := g_a
  have h_b := g_b
  have h_c := g_c
  have h_x := g_x
  have h_p := g_p
  have h_q := g_q
  have h_r := g_r
  have h_s := g_s
  have hB := gB
  clear gB g_a g_b g_c g_x g_p g_q g_r g_s
  have c_p := cell_at h_p
  have c_s := cell_at h_s
  go_upto_region 15 with ((go_at_call 14; refine (num_s _ _).mono ?_; rintro e w' ⟨rfl, rfl⟩))
  refine abs_wp (fun W => W.heap[w.heap.size]? = some (.cells #[.bool (ng (M)), .int .u64 (dg (ab (M)) 0), .int .u64 (dg (ab (M)) 1), .int .u64 (dg (ab (M)) 2), .int .u64 (dg (ab (M)) 3)] 25 (0, 0)) ∧ W.heap[w.heap.size + 1]? = some (.cells #[.bool (q.1), .int .u64 (dg (q.2) 0), .int .u64 (dg (q.2) 1), .int .u64 (dg (q.2) 2), .int .u64 (dg (q.2) 3)] 25 (0, 0)) ∧ W.heap[w.heap.size + 2]? = some (.cells #[.bool (r.1), .int .u64 (dg (r.2) 0), .int .u64 (dg (r.2) 1), .int .u64 (dg (r.2) 2), .int .u64 (dg (r.2) 3)] 25 (0, 0)) ∧ Below w.heap.size w W) ⟨h_a, h_b, h_c, (by focus (repeat (first | (with_reducible exact Below.refl _ _) | (with_reducible assumption) | ((with_reducible refine Below.setCell ?_ ?_ _); rotate_left; (focus (first | omega | (simp; done) | (simp; omega)))) | ((with_reducible refine Below.alloc ?_ ?_ _); rotate_left; (focus (first | omega | (simp; done) | (simp; omega)))) | (with_reducible refine Below.drew ?_) | (refine below_on ?_ (by assumption)))))⟩ fun W20 ⟨g_a, g_b, g_c, gB⟩ => ?_
  clear hB h_a h_b h_c h_x h_p h_q h_r h_s
  have h_a := g_a
  have h_b := g_b
  have h_c := g_c
  have hB := gB
  clear gB g_a g_b g_c
  have c_a := cell_at h_a
  go_wp2_with fail
  refine (text_at M T HP.out HTX.out _).mono ?_
  rintro e w21 ⟨rfl, hb⟩
  have k_a := heap_below hb h_a
  have k_b := heap_below hb h_b
  have k_c := heap_below hb h_c
  have kB : Below w.heap.size w w21 := by
    have hsz := hB.size
    focus (repeat (first | (with_reducible exact Below.refl _ _) | (with_reducible assumption) | ((with_reducible refine Below.setCell ?_ ?_ _); rotate_left; (focus (first | omega | (simp; done) | (simp; omega)))) | ((with_reducible refine Below.alloc ?_ ?_ _); rotate_left; (focus (first | omega | (simp; done) | (simp; omega)))) | (with_reducible refine Below.drew ?_) | (refine below_on ?_ (by assumption))))
  have sz_w21 := kB.size
  have sl_w21 := lt_of_block k_c
  clear hB hb h_a h_b h_c
  have h_a := k_a
  have h_b := k_b
  have h_c := k_c
  have hB := kB
  clear kB k_a k_b k_c
  go_wp2_with fail
  refine (parse_at T M 0 HTS.out HPV.out HPE.out _).mono ?_
  rintro e w22 ⟨rfl, hb⟩
  have k_a := heap_below hb h_a
  have k_b := heap_below hb h_b
  have k_c := heap_below hb h_c
  have kB : Below w.heap.size w w22 := by
    have hsz := hB.size
    focus (repeat (first | (with_reducible exact Below.refl _ _) | (with_reducible assumption) | ((with_reducible refine Below.setCell ?_ ?_ _); rotate_left; (focus (first | omega | (simp; done) | (simp; omega)))) | ((with_reducible refine Below.alloc ?_ ?_ _); rotate_left; (focus (first | omega | (simp; done) | (simp; omega)))) | (with_reducible refine Below.drew ?_) | (refine below_on ?_ (by assumption))))
  have sz_w22 := kB.size
  have sl_w22 := lt_of_block k_c
  clear hB hb h_a h_b h_c
  have h_a := k_a
  have h_b := k_b
  have h_c := k_c
  have hB := kB
  clear kB k_a k_b k_c
  have hsz := hB.size
  go_upto_region 17 with (fail)
  refine abs_wp (fun W => W.heap[w.heap.size]? = some (.cells #[.bool (ng (M)), .int .u64 (dg (ab (M)) 0), .int .u64 (dg (ab (M)) 1), .int .u64 (dg (ab (M)) 2), .int .u64 (dg (ab (M)) 3)] 25 (0, 0)) ∧ W.heap[w.heap.size + 1]? = some (.cells #[.bool (q.1), .int .u64 (dg (q.2) 0), .int .u64 (dg (q.2) 1), .int .u64 (dg (q.2) 2), .int .u64 (dg (q.2) 3)] 25 (0, 0)) ∧ W.heap[w.heap.size + 2]? = some (.cells #[.bool (r.1), .int .u64 (dg (r.2) 0), .int .u64 (dg (r.2) 1), .int .u64 (dg (r.2) 2), .int .u64 (dg (r.2) 3)] 25 (0, 0)) ∧ W.heap[w22.heap.size]? = some (.cells #[.bool (ng (M)), .int .u64 (dg (ab (M)) 0), .int .u64 (dg (ab (M)) 1), .int .u64 (dg (ab (M)) 2), .int .u64 (dg (ab (M)) 3)] 25 (0, 0)) ∧ Below w.heap.size w W) ⟨heap_old (h_a) _, heap_old (h_b) _, heap_old (h_c) _, heap_new _ _, (by focus (repeat (first | (with_reducible exact Below.refl _ _) | (with_reducible assumption) | ((with_reducible refine Below.setCell ?_ ?_ _); rotate_left; (focus (first | omega | (simp; done) | (simp; omega)))) | ((with_reducible refine Below.alloc ?_ ?_ _); rotate_left; (focus (first | omega | (simp; done) | (simp; omega)))) | (with_reducible refine Below.drew ?_) | (refine below_on ?_ (by assumption)))))⟩ fun W23 ⟨g_a, g_b, g_c, g_k, gB⟩ => ?_
  clear hB hsz h_a h_b h_c
  have h_a := g_a
  have h_b := g_b
  have h_c := g_c
  have h_k := g_k
  have hB := gB
  clear gB g_a g_b g_c g_k
  have c_k := cell_at h_k
  have c_a := cell_at h_a
  go_upto_region 19 with ((go_at_call 14; refine (num_s _ _).mono ?_; rintro e w' ⟨rfl, rfl⟩))
  refine abs_wp (fun W => W.heap[w.heap.size]? = some (.cells #[.bool (ng (M)), .int .u64 (dg (ab (M)) 0), .int .u64 (dg (ab (M)) 1), .int .u64 (dg (ab (M)) 2), .int .u64 (dg (ab (M)) 3)] 25 (0, 0)) ∧ W.heap[w.heap.size + 1]? = some (.cells #[.bool (q.1), .int .u64 (dg (q.2) 0), .int .u64 (dg (q.2) 1), .int .u64 (dg (q.2) 2), .int .u64 (dg (q.2) 3)] 25 (0, 0)) ∧ Below w.heap.size w W) ⟨h_a, h_b, (by focus (repeat (first | (with_reducible exact Below.refl _ _) | (with_reducible assumption) | ((with_reducible refine Below.setCell ?_ ?_ _); rotate_left; (focus (first | omega | (simp; done) | (simp; omega)))) | ((with_reducible refine Below.alloc ?_ ?_ _); rotate_left; (focus (first | omega | (simp; done) | (simp; omega)))) | (with_reducible refine Below.drew ?_) | (refine below_on ?_ (by assumption)))))⟩ fun W24 ⟨g_a, g_b, gB⟩ => ?_
  clear hB h_a h_b h_c h_k
  have h_a := g_a
  have h_b := g_b
  have hB := gB
  clear gB g_a g_b
  have c_a := cell_at h_a
  have c_b := cell_at h_b
  go_wp2_with fail
  refine (divides_any (pr M) q HP.out HQ.out _).mono ?_
  rintro e w25 ⟨rfl, hb⟩
  have k_a := heap_below hb h_a
  have k_b := heap_below hb h_b
  have kB : Below w.heap.size w w25 := by
    have hsz := hB.size
    focus (repeat (first | (with_reducible exact Below.refl _ _) | (with_reducible assumption) | ((with_reducible refine Below.setCell ?_ ?_ _); rotate_left; (focus (first | omega | (simp; done) | (simp; omega)))) | ((with_reducible refine Below.alloc ?_ ?_ _); rotate_left; (focus (first | omega | (simp; done) | (simp; omega)))) | (with_reducible refine Below.drew ?_) | (refine below_on ?_ (by assumption))))
  have sz_w25 := kB.size
  have sl_w25 := lt_of_block k_b
  clear hB hb h_a h_b
  have h_a := k_a
  have h_b := k_b
  have hB := kB
  clear kB k_a k_b
  go_wp2_with fail
  refine (works_any _).mono ?_
  rintro e wz ⟨rfl, hb⟩
  have hF := below_on hB hb
  go_wp2
  go_ret
  exact ⟨rfl, hF⟩
set_option maxRecDepth 100000 in
set_option maxHeartbeats 4000000 in
theorem holds_001 (M : Int) (q r : Bool × Nat) (HP : Hd (ab M < 2 ^ 256)) (HQ : Hd (q.2 < 2 ^ 256)) (HR : Hd (r.2 < 2 ^ 256)) (X Z1 VP VQ VR VS EX EP EQ ER ES Z2 G H : Int) (HXB : Hd (ab X < 2 ^ 256)) (HVQ : Hd (ab VQ < 2 ^ 256)) (HVR : Hd (ab VR < 2 ^ 256)) (H1 : Hd (addRV [pr M, q] = X ∧ addRE [pr M, q] = EX)) (H2 : Hd (addRV [q, pr M] = X ∧ addRE [q, pr M] = EX)) (H3 : Hd (mulRV [pr M, q, r] = Z1 ∧ mulRE [pr M, q, r] = G)) (H4 : Hd (mulRV [r, q, pr M] = Z2 ∧ mulRE [r, q, pr M] = H)) (H5 : Hd (mulRV [pr X, r] = VP ∧ mulRE [pr X, r] = EP)) (H6 : Hd (mulRV [pr M, r] = VQ ∧ mulRE [pr M, r] = EQ)) (H7 : Hd (mulRV [q, r] = VR ∧ mulRE [q, r] = ER)) (H8 : Hd (addRV [pr VQ, pr VR] = VS ∧ addRE [pr VQ, pr VR] = ES)) (HT1 : Hd ((G + H == 0) = false)) (HBG : Hd (0 ≤ G ∧ G ≤ 110)) (HBH : Hd (0 ≤ H ∧ H ≤ 110)) (HT2 : Hd ((EX + EP + EQ + ER + ES == 0) = false)) (HBX : Hd (0 ≤ EX ∧ EX ≤ 110)) (HBP : Hd (0 ≤ EP ∧ EP ≤ 110)) (HBQ : Hd (0 ≤ EQ ∧ EQ ≤ 110)) (HBR : Hd (0 ≤ ER ∧ ER ≤ 110)) (HBS : Hd (0 ≤ ES ∧ ES ≤ 110)) (T : ByteArray) (HTX : Hd (textZ M = T)) (HTS : Hd (T.size ≤ 1000000)) (HPV : Hd (parseV (strB T) = M)) (HPE : Hd (parseE (strB T) = 0)) (w : World) :
    Calls Try.prog 10 #[.agg #[.bool (ng (M)), .int .u64 (dg (ab (M)) 0), .int .u64 (dg (ab (M)) 1), .int .u64 (dg (ab (M)) 2), .int .u64 (dg (ab (M)) 3)], .agg #[.bool (q.1), .int .u64 (dg (q.2) 0), .int .u64 (dg (q.2) 1), .int .u64 (dg (q.2) 2), .int .u64 (dg (q.2) 3)], .agg #[.bool (r.1), .int .u64 (dg (r.2) 0), .int .u64 (dg (r.2) 1), .int .u64 (dg (r.2) 2), .int .u64 (dg (r.2) 3)]] w fun e w' => e = .returned (.bool true) ∧ Below w.heap.size w w' := by
  go_enter Try.func10, Try.ntmps10
  have hB := Below.refl w.heap.size w
  have hsz := hB.size
  go_upto_region 1 with (fail)
  refine abs_wp (fun W => W.heap[w.heap.size]? = some (.cells #[.bool (ng (M)), .int .u64 (dg (ab (M)) 0), .int .u64 (dg (ab (M)) 1), .int .u64 (dg (ab (M)) 2), .int .u64 (dg (ab (M)) 3)] 25 (0, 0)) ∧ W.heap[w.heap.size + 1]? = some (.cells #[.bool (q.1), .int .u64 (dg (q.2) 0), .int .u64 (dg (q.2) 1), .int .u64 (dg (q.2) 2), .int .u64 (dg (q.2) 3)] 25 (0, 0)) ∧ W.heap[w.heap.size + 2]? = some (.cells #[.bool (r.1), .int .u64 (dg (r.2) 0), .int .u64 (dg (r.2) 1), .int .u64 (dg (r.2) 2), .int .u64 (dg (r.2) 3)] 25 (0, 0)) ∧ Below w.heap.size w W) ⟨heap_old (heap_old (heap_new _ _) _) _, heap_old (heap_at (by simp) _) _, heap_at (by simp) _, (by focus (repeat (first | (with_reducible exact Below.refl _ _) | (with_reducible assumption) | ((with_reducible refine Below.setCell ?_ ?_ _); rotate_left; (focus (first | omega | (simp; done) | (simp; omega)))) | ((with_reducible refine Below.alloc ?_ ?_ _); rotate_left; (focus (first | omega | (simp; done) | (simp; omega)))) | (with_reducible refine Below.drew ?_) | (refine below_on ?_ (by assumption)))))⟩ fun W1 ⟨g_a, g_b, g_c, gB⟩ => ?_
  clear hB hsz 
  have h_a := g_a
  have h_b := g_b
  have h_c := g_c
  have hB := gB
  clear gB g_a g_b g_c
  have c_a := cell_at h_a
  have c_b := cell_at h_b
  go_wp2_with fail
  refine (add_r _ _ [pr M, q] (X) (EX) _ (ints_two (b := W1.heap.size) (p := (pr M)) (q := (q)) HP.out HQ.out (by focus (repeat (first | (with_reducible exact heap_at (by first | rfl | (simp; done) | (simp; omega)) _) | (with_reducible refine heap_old ?_ _))))) H1.out.1 H1.out.2).mono ?_
  rintro e w2 ⟨rfl, hb⟩
  have k_a := heap_below hb (heap_old h_a _)
  have k_b := heap_below hb (heap_old h_b _)
  have k_c := heap_below hb (heap_old h_c _)
  have kB : Below w.heap.size w w2 := by
    have hsz := hB.size
    focus (repeat (first | (with_reducible exact Below.refl _ _) | (with_reducible assumption) | ((with_reducible refine Below.setCell ?_ ?_ _); rotate_left; (focus (first | omega | (simp; done) | (simp; omega)))) | ((with_reducible refine Below.alloc ?_ ?_ _); rotate_left; (focus (first | omega | (simp; done) | (simp; omega)))) | (with_reducible refine Below.drew ?_) | (refine below_on ?_ (by assumption))))
  have sz_w2 := kB.size
  have sl_w2 := lt_of_block k_c
  clear hB hb h_a h_b h_c
  have h_a := k_a
  have h_b := k_b
  have h_c := k_c
  have hB := kB
  clear kB k_a k_b k_c
  have hsz := hB.size
  go_upto_region 2 with (fail)
  refine abs_wp (fun W => W.heap[w.heap.size]? = some (.cells #[.bool (ng (M)), .int .u64 (dg (ab (M)) 0), .int .u64 (dg (ab (M)) 1), .int .u64 (dg (ab (M)) 2), .int .u64 (dg (ab (M)) 3)] 25 (0, 0)) ∧ W.heap[w.heap.size + 1]? = some (.cells #[.bool (q.1), .int .u64 (dg (q.2) 0), .int .u64 (dg (q.2) 1), .int .u64 (dg (q.2) 2), .int .u64 (dg (q.2) 3)] 25 (0, 0)) ∧ W.heap[w.heap.size + 2]? = some (.cells #[.bool (r.1), .int .u64 (dg (r.2) 0), .int .u64 (dg (r.2) 1), .int .u64 (dg (r.2) 2), .int .u64 (dg (r.2) 3)] 25 (0, 0)) ∧ W.heap[w2.heap.size]? = some (.cells #[.bool (ng (X)), .int .u64 (dg (ab (X)) 0), .int .u64 (dg (ab (X)) 1), .int .u64 (dg (ab (X)) 2), .int .u64 (dg (ab (X)) 3)] 25 (0, 0)) ∧ Below w.heap.size w W) ⟨heap_old (h_a) _, heap_old (h_b) _, heap_old (h_c) _, heap_new _ _, (by focus (repeat (first | (with_reducible exact Below.refl _ _) | (with_reducible assumption) | ((with_reducible refine Below.setCell ?_ ?_ _); rotate_left; (focus (first | omega | (simp; done) | (simp; omega)))) | ((with_reducible refine Below.alloc ?_ ?_ _); rotate_left; (focus (first | omega | (simp; done) | (simp; omega)))) | (with_reducible refine Below.drew ?_) | (refine below_on ?_ (by assumption)))))⟩ fun W3 ⟨g_a, g_b, g_c, g_x, gB⟩ => ?_
  clear hB hsz h_a h_b h_c
  have h_a := g_a
  have h_b := g_b
  have h_c := g_c
  have h_x := g_x
  have hB := gB
  clear gB g_a g_b g_c g_x
  have c_b := cell_at h_b
  have c_a := cell_at h_a
  go_wp2_with fail
  refine (add_r _ _ [q, pr M] (X) (EX) _ (ints_two (b := W3.heap.size) (p := (q)) (q := (pr M)) HQ.out HP.out (by focus (repeat (first | (with_reducible exact heap_at (by first | rfl | (simp; done) | (simp; omega)) _) | (with_reducible refine heap_old ?_ _))))) H2.out.1 H2.out.2).mono ?_
  rintro e w4 ⟨rfl, hb⟩
  have k_a := heap_below hb (heap_old h_a _)
  have k_b := heap_below hb (heap_old h_b _)
  have k_c := heap_below hb (heap_old h_c _)
  have k_x := heap_below hb (heap_old h_x _)
  have kB : Below w.heap.size w w4 := by
    have hsz := hB.size
    focus (repeat (first | (with_reducible exact Below.refl _ _) | (with_reducible assumption) | ((with_reducible refine Below.setCell ?_ ?_ _); rotate_left; (focus (first | omega | (simp; done) | (simp; omega)))) | ((with_reducible refine Below.alloc ?_ ?_ _); rotate_left; (focus (first | omega | (simp; done) | (simp; omega)))) | (with_reducible refine Below.drew ?_) | (refine below_on ?_ (by assumption))))
  have sz_w4 := kB.size
  have sl_w4 := lt_of_block k_x
  clear hB hb h_a h_b h_c h_x
  have h_a := k_a
  have h_b := k_b
  have h_c := k_c
  have h_x := k_x
  have hB := kB
  clear kB k_a k_b k_c k_x
  have hsz := hB.size
  go_upto_region 3 with (fail)
  refine abs_wp (fun W => W.heap[w.heap.size]? = some (.cells #[.bool (ng (M)), .int .u64 (dg (ab (M)) 0), .int .u64 (dg (ab (M)) 1), .int .u64 (dg (ab (M)) 2), .int .u64 (dg (ab (M)) 3)] 25 (0, 0)) ∧ W.heap[w.heap.size + 1]? = some (.cells #[.bool (q.1), .int .u64 (dg (q.2) 0), .int .u64 (dg (q.2) 1), .int .u64 (dg (q.2) 2), .int .u64 (dg (q.2) 3)] 25 (0, 0)) ∧ W.heap[w.heap.size + 2]? = some (.cells #[.bool (r.1), .int .u64 (dg (r.2) 0), .int .u64 (dg (r.2) 1), .int .u64 (dg (r.2) 2), .int .u64 (dg (r.2) 3)] 25 (0, 0)) ∧ W.heap[w2.heap.size]? = some (.cells #[.bool (ng (X)), .int .u64 (dg (ab (X)) 0), .int .u64 (dg (ab (X)) 1), .int .u64 (dg (ab (X)) 2), .int .u64 (dg (ab (X)) 3)] 25 (0, 0)) ∧ W.heap[w4.heap.size]? = some (.cells #[.bool (ng (X)), .int .u64 (dg (ab (X)) 0), .int .u64 (dg (ab (X)) 1), .int .u64 (dg (ab (X)) 2), .int .u64 (dg (ab (X)) 3)] 25 (0, 0)) ∧ Below w.heap.size w W) ⟨heap_old (h_a) _, heap_old (h_b) _, heap_old (h_c) _, heap_old (h_x) _, heap_new _ _, (by focus (repeat (first | (with_reducible exact Below.refl _ _) | (with_reducible assumption) | ((with_reducible refine Below.setCell ?_ ?_ _); rotate_left; (focus (first | omega | (simp; done) | (simp; omega)))) | ((with_reducible refine Below.alloc ?_ ?_ _); rotate_left; (focus (first | omega | (simp; done) | (simp; omega)))) | (with_reducible refine Below.drew ?_) | (refine below_on ?_ (by assumption)))))⟩ fun W5 ⟨g_a, g_b, g_c, g_x, g_y, gB⟩ => ?_
  clear hB hsz h_a h_b h_c h_x
  have h_a := g_a
  have h_b := g_b
  have h_c := g_c
  have h_x := g_x
  have h_y := g_y
  have hB := gB
  clear gB g_a g_b g_c g_x g_y
  have c_x := cell_at h_x
  have c_y := cell_at h_y
  go_upto_region 5 with (fail)
  refine abs_wp (fun W => W.heap[w.heap.size]? = some (.cells #[.bool (ng (M)), .int .u64 (dg (ab (M)) 0), .int .u64 (dg (ab (M)) 1), .int .u64 (dg (ab (M)) 2), .int .u64 (dg (ab (M)) 3)] 25 (0, 0)) ∧ W.heap[w.heap.size + 1]? = some (.cells #[.bool (q.1), .int .u64 (dg (q.2) 0), .int .u64 (dg (q.2) 1), .int .u64 (dg (q.2) 2), .int .u64 (dg (q.2) 3)] 25 (0, 0)) ∧ W.heap[w.heap.size + 2]? = some (.cells #[.bool (r.1), .int .u64 (dg (r.2) 0), .int .u64 (dg (r.2) 1), .int .u64 (dg (r.2) 2), .int .u64 (dg (r.2) 3)] 25 (0, 0)) ∧ W.heap[w2.heap.size]? = some (.cells #[.bool (ng (X)), .int .u64 (dg (ab (X)) 0), .int .u64 (dg (ab (X)) 1), .int .u64 (dg (ab (X)) 2), .int .u64 (dg (ab (X)) 3)] 25 (0, 0)) ∧ Below w.heap.size w W) ⟨h_a, h_b, h_c, h_x, (by focus (repeat (first | (with_reducible exact Below.refl _ _) | (with_reducible assumption) | ((with_reducible refine Below.setCell ?_ ?_ _); rotate_left; (focus (first | omega | (simp; done) | (simp; omega)))) | ((with_reducible refine Below.alloc ?_ ?_ _); rotate_left; (focus (first | omega | (simp; done) | (simp; omega)))) | (with_reducible refine Below.drew ?_) | (refine below_on ?_ (by assumption)))))⟩ fun W6 ⟨g_a, g_b, g_c, g_x, gB⟩ => ?_
  clear hB h_a h_b h_c h_x h_y
  have h_a := g_a
  have h_b := g_b
  have h_c := g_c
  have h_x := g_x
  have hB := gB
  clear gB g_a g_b g_c g_x
  have c_a := cell_at h_a
  have c_b := cell_at h_b
  have c_c := cell_at h_c
  go_wp2_with fail
  refine (mul_r _ _ [pr M, q, r] (Z1) (G) _ (ints_three (b := W6.heap.size) (p := (pr M)) (q := (q)) (r := (r)) HP.out HQ.out HR.out (by focus (repeat (first | (with_reducible exact heap_at (by first | rfl | (simp; done) | (simp; omega)) _) | (with_reducible refine heap_old ?_ _))))) H3.out.1 H3.out.2).mono ?_
  rintro e w7 ⟨rfl, hb⟩
  have k_a := heap_below hb (heap_old h_a _)
  have k_b := heap_below hb (heap_old h_b _)
  have k_c := heap_below hb (heap_old h_c _)
  have k_x := heap_below hb (heap_old h_x _)
  have kB : Below w.heap.size w w7 := by
    have hsz := hB.size
    focus (repeat (first | (with_reducible exact Below.refl _ _) | (with_reducible assumption) | ((with_reducible refine Below.setCell ?_ ?_ _); rotate_left; (focus (first | omega | (simp; done) | (simp; omega)))) | ((with_reducible refine Below.alloc ?_ ?_ _); rotate_left; (focus (first | omega | (simp; done) | (simp; omega)))) | (with_reducible refine Below.drew ?_) | (refine below_on ?_ (by assumption))))
  have sz_w7 := kB.size
  have sl_w7 := lt_of_block k_x
  clear hB hb h_a h_b h_c h_x
  have h_a := k_a
  have h_b := k_b
  have h_c := k_c
  have h_x := k_x
  have hB := kB
  clear kB k_a k_b k_c k_x
  have hsz := hB.size
  go_upto_region 6 with (fail)
  refine abs_wp (fun W => W.heap[w.heap.size]? = some (.cells #[.bool (ng (M)), .int .u64 (dg (ab (M)) 0), .int .u64 (dg (ab (M)) 1), .int .u64 (dg (ab (M)) 2), .int .u64 (dg (ab (M)) 3)] 25 (0, 0)) ∧ W.heap[w.heap.size + 1]? = some (.cells #[.bool (q.1), .int .u64 (dg (q.2) 0), .int .u64 (dg (q.2) 1), .int .u64 (dg (q.2) 2), .int .u64 (dg (q.2) 3)] 25 (0, 0)) ∧ W.heap[w.heap.size + 2]? = some (.cells #[.bool (r.1), .int .u64 (dg (r.2) 0), .int .u64 (dg (r.2) 1), .int .u64 (dg (r.2) 2), .int .u64 (dg (r.2) 3)] 25 (0, 0)) ∧ W.heap[w2.heap.size]? = some (.cells #[.bool (ng (X)), .int .u64 (dg (ab (X)) 0), .int .u64 (dg (ab (X)) 1), .int .u64 (dg (ab (X)) 2), .int .u64 (dg (ab (X)) 3)] 25 (0, 0)) ∧ W.heap[w7.heap.size]? = some (.cells #[.bool (ng (Z1)), .int .u64 (dg (ab (Z1)) 0), .int .u64 (dg (ab (Z1)) 1), .int .u64 (dg (ab (Z1)) 2), .int .u64 (dg (ab (Z1)) 3)] 25 (0, 0)) ∧ Below w.heap.size w W) ⟨heap_old (h_a) _, heap_old (h_b) _, heap_old (h_c) _, heap_old (h_x) _, heap_new _ _, (by focus (repeat (first | (with_reducible exact Below.refl _ _) | (with_reducible assumption) | ((with_reducible refine Below.setCell ?_ ?_ _); rotate_left; (focus (first | omega | (simp; done) | (simp; omega)))) | ((with_reducible refine Below.alloc ?_ ?_ _); rotate_left; (focus (first | omega | (simp; done) | (simp; omega)))) | (with_reducible refine Below.drew ?_) | (refine below_on ?_ (by assumption)))))⟩ fun W8 ⟨g_a, g_b, g_c, g_x, g_z, gB⟩ => ?_
  clear hB hsz h_a h_b h_c h_x
  have h_a := g_a
  have h_b := g_b
  have h_c := g_c
  have h_x := g_x
  have h_z := g_z
  have hB := gB
  clear gB g_a g_b g_c g_x g_z
  have c_c := cell_at h_c
  have c_b := cell_at h_b
  have c_a := cell_at h_a
  go_wp2_with fail
  refine (mul_r _ _ [r, q, pr M] (Z2) (H) _ (ints_three (b := W8.heap.size) (p := (r)) (q := (q)) (r := (pr M)) HR.out HQ.out HP.out (by focus (repeat (first | (with_reducible exact heap_at (by first | rfl | (simp; done) | (simp; omega)) _) | (with_reducible refine heap_old ?_ _))))) H4.out.1 H4.out.2).mono ?_
  rintro e w9 ⟨rfl, hb⟩
  have k_a := heap_below hb (heap_old h_a _)
  have k_b := heap_below hb (heap_old h_b _)
  have k_c := heap_below hb (heap_old h_c _)
  have k_x := heap_below hb (heap_old h_x _)
  have k_z := heap_below hb (heap_old h_z _)
  have kB : Below w.heap.size w w9 := by
    have hsz := hB.size
    focus (repeat (first | (with_reducible exact Below.refl _ _) | (with_reducible assumption) | ((with_reducible refine Below.setCell ?_ ?_ _); rotate_left; (focus (first | omega | (simp; done) | (simp; omega)))) | ((with_reducible refine Below.alloc ?_ ?_ _); rotate_left; (focus (first | omega | (simp; done) | (simp; omega)))) | (with_reducible refine Below.drew ?_) | (refine below_on ?_ (by assumption))))
  have sz_w9 := kB.size
  have sl_w9 := lt_of_block k_z
  clear hB hb h_a h_b h_c h_x h_z
  have h_a := k_a
  have h_b := k_b
  have h_c := k_c
  have h_x := k_x
  have h_z := k_z
  have hB := kB
  clear kB k_a k_b k_c k_x k_z
  have hsz := hB.size
  go_upto_region 7 with (fail)
  refine abs_wp (fun W => W.heap[w.heap.size]? = some (.cells #[.bool (ng (M)), .int .u64 (dg (ab (M)) 0), .int .u64 (dg (ab (M)) 1), .int .u64 (dg (ab (M)) 2), .int .u64 (dg (ab (M)) 3)] 25 (0, 0)) ∧ W.heap[w.heap.size + 1]? = some (.cells #[.bool (q.1), .int .u64 (dg (q.2) 0), .int .u64 (dg (q.2) 1), .int .u64 (dg (q.2) 2), .int .u64 (dg (q.2) 3)] 25 (0, 0)) ∧ W.heap[w.heap.size + 2]? = some (.cells #[.bool (r.1), .int .u64 (dg (r.2) 0), .int .u64 (dg (r.2) 1), .int .u64 (dg (r.2) 2), .int .u64 (dg (r.2) 3)] 25 (0, 0)) ∧ W.heap[w2.heap.size]? = some (.cells #[.bool (ng (X)), .int .u64 (dg (ab (X)) 0), .int .u64 (dg (ab (X)) 1), .int .u64 (dg (ab (X)) 2), .int .u64 (dg (ab (X)) 3)] 25 (0, 0)) ∧ W.heap[w7.heap.size]? = some (.cells #[.bool (ng (Z1)), .int .u64 (dg (ab (Z1)) 0), .int .u64 (dg (ab (Z1)) 1), .int .u64 (dg (ab (Z1)) 2), .int .u64 (dg (ab (Z1)) 3)] 25 (0, 0)) ∧ W.heap[w9.heap.size]? = some (.cells #[.bool (ng (Z2)), .int .u64 (dg (ab (Z2)) 0), .int .u64 (dg (ab (Z2)) 1), .int .u64 (dg (ab (Z2)) 2), .int .u64 (dg (ab (Z2)) 3)] 25 (0, 0)) ∧ Below w.heap.size w W) ⟨heap_old (h_a) _, heap_old (h_b) _, heap_old (h_c) _, heap_old (h_x) _, heap_old (h_z) _, heap_new _ _, (by focus (repeat (first | (with_reducible exact Below.refl _ _) | (with_reducible assumption) | ((with_reducible refine Below.setCell ?_ ?_ _); rotate_left; (focus (first | omega | (simp; done) | (simp; omega)))) | ((with_reducible refine Below.alloc ?_ ?_ _); rotate_left; (focus (first | omega | (simp; done) | (simp; omega)))) | (with_reducible refine Below.drew ?_) | (refine below_on ?_ (by assumption)))))⟩ fun W10 ⟨g_a, g_b, g_c, g_x, g_z, g_u, gB⟩ => ?_
  clear hB hsz h_a h_b h_c h_x h_z
  have h_a := g_a
  have h_b := g_b
  have h_c := g_c
  have h_x := g_x
  have h_z := g_z
  have h_u := g_u
  have hB := gB
  clear gB g_a g_b g_c g_x g_z g_u
  have c_z := cell_at h_z
  have c_u := cell_at h_u
  have ht := HT1.out
  have hg := HBG.out
  have hh := HBH.out
  go_upto_region 9 with ((go_at_call 14; refine (num_s _ _).mono ?_; rintro e w' ⟨rfl, rfl⟩))
  refine abs_wp (fun W => W.heap[w.heap.size]? = some (.cells #[.bool (ng (M)), .int .u64 (dg (ab (M)) 0), .int .u64 (dg (ab (M)) 1), .int .u64 (dg (ab (M)) 2), .int .u64 (dg (ab (M)) 3)] 25 (0, 0)) ∧ W.heap[w.heap.size + 1]? = some (.cells #[.bool (q.1), .int .u64 (dg (q.2) 0), .int .u64 (dg (q.2) 1), .int .u64 (dg (q.2) 2), .int .u64 (dg (q.2) 3)] 25 (0, 0)) ∧ W.heap[w.heap.size + 2]? = some (.cells #[.bool (r.1), .int .u64 (dg (r.2) 0), .int .u64 (dg (r.2) 1), .int .u64 (dg (r.2) 2), .int .u64 (dg (r.2) 3)] 25 (0, 0)) ∧ W.heap[w2.heap.size]? = some (.cells #[.bool (ng (X)), .int .u64 (dg (ab (X)) 0), .int .u64 (dg (ab (X)) 1), .int .u64 (dg (ab (X)) 2), .int .u64 (dg (ab (X)) 3)] 25 (0, 0)) ∧ Below w.heap.size w W) ⟨h_a, h_b, h_c, h_x, (by focus (repeat (first | (with_reducible exact Below.refl _ _) | (with_reducible assumption) | ((with_reducible refine Below.setCell ?_ ?_ _); rotate_left; (focus (first | omega | (simp; done) | (simp; omega)))) | ((with_reducible refine Below.alloc ?_ ?_ _); rotate_left; (focus (first | omega | (simp; done) | (simp; omega)))) | (with_reducible refine Below.drew ?_) | (refine below_on ?_ (by assumption)))))⟩ fun W11 ⟨g_a, g_b, g_c, g_x, gB⟩ => ?_
  clear hB h_a h_b h_c h_x h_z h_u
  have h_a := g_a
  have h_b := g_b
  have h_c := g_c
  have h_x := g_x
  have hB := gB
  clear gB g_a g_b g_c g_x
  clear ht hg hh
  have c_x := cell_at h_x
  have c_c := cell_at h_c
  go_wp2_with fail
  refine (mul_r _ _ [pr X, r] (VP) (EP) _ (ints_two (b := W11.heap.size) (p := (pr X)) (q := (r)) HXB.out HR.out (by focus (repeat (first | (with_reducible exact heap_at (by first | rfl | (simp; done) | (simp; omega)) _) | (with_reducible refine heap_old ?_ _))))) H5.out.1 H5.out.2).mono ?_
  rintro e w12 ⟨rfl, hb⟩
  have k_a := heap_below hb (heap_old h_a _)
  have k_b := heap_below hb (heap_old h_b _)
  have k_c := heap_below hb (heap_old h_c _)
  have k_x := heap_below hb (heap_old h_x _)
  have kB : Below w.heap.size w w12 := by
    have hsz := hB.size
    focus (repeat (first | (with_reducible exact Below.refl _ _) | (with_reducible assumption) | ((with_reducible refine Below.setCell ?_ ?_ _); rotate_left; (focus (first | omega | (simp; done) | (simp; omega)))) | ((with_reducible refine Below.alloc ?_ ?_ _); rotate_left; (focus (first | omega | (simp; done) | (simp; omega)))) | (with_reducible refine Below.drew ?_) | (refine below_on ?_ (by assumption))))
  have sz_w12 := kB.size
  have sl_w12 := lt_of_block k_x
  clear hB hb h_a h_b h_c h_x
  have h_a := k_a
  have h_b := k_b
  have h_c := k_c
  have h_x := k_x
  have hB := kB
  clear kB k_a k_b k_c k_x
  have hsz := hB.size
  go_upto_region 10 with (fail)
  refine abs_wp (fun W => W.heap[w.heap.size]? = some (.cells #[.bool (ng (M)), .int .u64 (dg (ab (M)) 0), .int .u64 (dg (ab (M)) 1), .int .u64 (dg (ab (M)) 2), .int .u64 (dg (ab (M)) 3)] 25 (0, 0)) ∧ W.heap[w.heap.size + 1]? = some (.cells #[.bool (q.1), .int .u64 (dg (q.2) 0), .int .u64 (dg (q.2) 1), .int .u64 (dg (q.2) 2), .int .u64 (dg (q.2) 3)] 25 (0, 0)) ∧ W.heap[w.heap.size + 2]? = some (.cells #[.bool (r.1), .int .u64 (dg (r.2) 0), .int .u64 (dg (r.2) 1), .int .u64 (dg (r.2) 2), .int .u64 (dg (r.2) 3)] 25 (0, 0)) ∧ W.heap[w2.heap.size]? = some (.cells #[.bool (ng (X)), .int .u64 (dg (ab (X)) 0), .int .u64 (dg (ab (X)) 1), .int .u64 (dg (ab (X)) 2), .int .u64 (dg (ab (X)) 3)] 25 (0, 0)) ∧ W.heap[w12.heap.size]? = some (.cells #[.bool (ng (VP)), .int .u64 (dg (ab (VP)) 0), .int .u64 (dg (ab (VP)) 1), .int .u64 (dg (ab (VP)) 2), .int .u64 (dg (ab (VP)) 3)] 25 (0, 0)) ∧ Below w.heap.size w W) ⟨heap_old (h_a) _, heap_old (h_b) _, heap_old (h_c) _, heap_old (h_x) _, heap_new _ _, (by focus (repeat (first | (with_reducible exact Below.refl _ _) | (with_reducible assumption) | ((with_reducible refine Below.setCell ?_ ?_ _); rotate_left; (focus (first | omega | (simp; done) | (simp; omega)))) | ((with_reducible refine Below.alloc ?_ ?_ _); rotate_left; (focus (first | omega | (simp; done) | (simp; omega)))) | (with_reducible refine Below.drew ?_) | (refine below_on ?_ (by assumption)))))⟩ fun W13 ⟨g_a, g_b, g_c, g_x, g_p, gB⟩ => ?_
  clear hB hsz h_a h_b h_c h_x
  have h_a := g_a
  have h_b := g_b
  have h_c := g_c
  have h_x := g_x
  have h_p := g_p
  have hB := gB
  clear gB g_a g_b g_c g_x g_p
  have c_a := cell_at h_a
  have c_c := cell_at h_c
  go_wp2_with fail
  refine (mul_r _ _ [pr M, r] (VQ) (EQ) _ (ints_two (b := W13.heap.size) (p := (pr M)) (q := (r)) HP.out HR.out (by focus (repeat (first | (with_reducible exact heap_at (by first | rfl | (simp; done) | (simp; omega)) _) | (with_reducible refine heap_old ?_ _))))) H6.out.1 H6.out.2).mono ?_
  rintro e w14 ⟨rfl, hb⟩
  have k_a := heap_below hb (heap_old h_a _)
  have k_b := heap_below hb (heap_old h_b _)
  have k_c := heap_below hb (heap_old h_c _)
  have k_x := heap_below hb (heap_old h_x _)
  have k_p := heap_below hb (heap_old h_p _)
  have kB : Below w.heap.size w w14 := by
    have hsz := hB.size
    focus (repeat (first | (with_reducible exact Below.refl _ _) | (with_reducible assumption) | ((with_reducible refine Below.setCell ?_ ?_ _); rotate_left; (focus (first | omega | (simp; done) | (simp; omega)))) | ((with_reducible refine Below.alloc ?_ ?_ _); rotate_left; (focus (first | omega | (simp; done) | (simp; omega)))) | (with_reducible refine Below.drew ?_) | (refine below_on ?_ (by assumption))))
  have sz_w14 := kB.size
  have sl_w14 := lt_of_block k_p
  clear hB hb h_a h_b h_c h_x h_p
  have h_a := k_a
  have h_b := k_b
  have h_c := k_c
  have h_x := k_x
  have h_p := k_p
  have hB := kB
  clear kB k_a k_b k_c k_x k_p
  have hsz := hB.size
  go_upto_region 11 with (fail)
  refine abs_wp (fun W => W.heap[w.heap.size]? = some (.cells #[.bool (ng (M)), .int .u64 (dg (ab (M)) 0), .int .u64 (dg (ab (M)) 1), .int .u64 (dg (ab (M)) 2), .int .u64 (dg (ab (M)) 3)] 25 (0, 0)) ∧ W.heap[w.heap.size + 1]? = some (.cells #[.bool (q.1), .int .u64 (dg (q.2) 0), .int .u64 (dg (q.2) 1), .int .u64 (dg (q.2) 2), .int .u64 (dg (q.2) 3)] 25 (0, 0)) ∧ W.heap[w.heap.size + 2]? = some (.cells #[.bool (r.1), .int .u64 (dg (r.2) 0), .int .u64 (dg (r.2) 1), .int .u64 (dg (r.2) 2), .int .u64 (dg (r.2) 3)] 25 (0, 0)) ∧ W.heap[w2.heap.size]? = some (.cells #[.bool (ng (X)), .int .u64 (dg (ab (X)) 0), .int .u64 (dg (ab (X)) 1), .int .u64 (dg (ab (X)) 2), .int .u64 (dg (ab (X)) 3)] 25 (0, 0)) ∧ W.heap[w12.heap.size]? = some (.cells #[.bool (ng (VP)), .int .u64 (dg (ab (VP)) 0), .int .u64 (dg (ab (VP)) 1), .int .u64 (dg (ab (VP)) 2), .int .u64 (dg (ab (VP)) 3)] 25 (0, 0)) ∧ W.heap[w14.heap.size]? = some (.cells #[.bool (ng (VQ)), .int .u64 (dg (ab (VQ)) 0), .int .u64 (dg (ab (VQ)) 1), .int .u64 (dg (ab (VQ)) 2), .int .u64 (dg (ab (VQ)) 3)] 25 (0, 0)) ∧ Below w.heap.size w W) ⟨heap_old (h_a) _, heap_old (h_b) _, heap_old (h_c) _, heap_old (h_x) _, heap_old (h_p) _, heap_new _ _, (by focus (repeat (first | (with_reducible exact Below.refl _ _) | (with_reducible assumption) | ((with_reducible refine Below.setCell ?_ ?_ _); rotate_left; (focus (first | omega | (simp; done) | (simp; omega)))) | ((with_reducible refine Below.alloc ?_ ?_ _); rotate_left; (focus (first | omega | (simp; done) | (simp; omega)))) | (with_reducible refine Below.drew ?_) | (refine below_on ?_ (by assumption)))))⟩ fun W15 ⟨g_a, g_b, g_c, g_x, g_p, g_q, gB⟩ => ?_
  clear hB hsz h_a h_b h_c h_x h_p
  have h_a := g_a
  have h_b := g_b
  have h_c := g_c
  have h_x := g_x
  have h_p := g_p
  have h_q := g_q
  have hB := gB
  clear gB g_a g_b g_c g_x g_p g_q
  have c_b := cell_at h_b
  have c_c := cell_at h_c
  go_wp2_with fail
  refine (mul_r _ _ [q, r] (VR) (ER) _ (ints_two (b := W15.heap.size) (p := (q)) (q := (r)) HQ.out HR.out (by focus (repeat (first | (with_reducible exact heap_at (by first | rfl | (simp; done) | (simp; omega)) _) | (with_reducible refine heap_old ?_ _))))) H7.out.1 H7.out.2).mono ?_
  rintro e w16 ⟨rfl, hb⟩
  have k_a := heap_below hb (heap_old h_a _)
  have k_b := heap_below hb (heap_old h_b _)
  have k_c := heap_below hb (heap_old h_c _)
  have k_x := heap_below hb (heap_old h_x _)
  have k_p := heap_below hb (heap_old h_p _)
  have k_q := heap_below hb (heap_old h_q _)
  have kB : Below w.heap.size w w16 := by
    have hsz := hB.size
    focus (repeat (first | (with_reducible exact Below.refl _ _) | (with_reducible assumption) | ((with_reducible refine Below.setCell ?_ ?_ _); rotate_left; (focus (first | omega | (simp; done) | (simp; omega)))) | ((with_reducible refine Below.alloc ?_ ?_ _); rotate_left; (focus (first | omega | (simp; done) | (simp; omega)))) | (with_reducible refine Below.drew ?_) | (refine below_on ?_ (by assumption))))
  have sz_w16 := kB.size
  have sl_w16 := lt_of_block k_q
  clear hB hb h_a h_b h_c h_x h_p h_q
  have h_a := k_a
  have h_b := k_b
  have h_c := k_c
  have h_x := k_x
  have h_p := k_p
  have h_q := k_q
  have hB := kB
  clear kB k_a k_b k_c k_x k_p k_q
  have hsz := hB.size
  go_upto_region 12 with (fail)
  refine abs_wp (fun W => W.heap[w.heap.size]? = some (.cells #[.bool (ng (M)), .int .u64 (dg (ab (M)) 0), .int .u64 (dg (ab (M)) 1), .int .u64 (dg (ab (M)) 2), .int .u64 (dg (ab (M)) 3)] 25 (0, 0)) ∧ W.heap[w.heap.size + 1]? = some (.cells #[.bool (q.1), .int .u64 (dg (q.2) 0), .int .u64 (dg (q.2) 1), .int .u64 (dg (q.2) 2), .int .u64 (dg (q.2) 3)] 25 (0, 0)) ∧ W.heap[w.heap.size + 2]? = some (.cells #[.bool (r.1), .int .u64 (dg (r.2) 0), .int .u64 (dg (r.2) 1), .int .u64 (dg (r.2) 2), .int .u64 (dg (r.2) 3)] 25 (0, 0)) ∧ W.heap[w2.heap.size]? = some (.cells #[.bool (ng (X)), .int .u64 (dg (ab (X)) 0), .int .u64 (dg (ab (X)) 1), .int .u64 (dg (ab (X)) 2), .int .u64 (dg (ab (X)) 3)] 25 (0, 0)) ∧ W.heap[w12.heap.size]? = some (.cells #[.bool (ng (VP)), .int .u64 (dg (ab (VP)) 0), .int .u64 (dg (ab (VP)) 1), .int .u64 (dg (ab (VP)) 2), .int .u64 (dg (ab (VP)) 3)] 25 (0, 0)) ∧ W.heap[w14.heap.size]? = some (.cells #[.bool (ng (VQ)), .int .u64 (dg (ab (VQ)) 0), .int .u64 (dg (ab (VQ)) 1), .int .u64 (dg (ab (VQ)) 2), .int .u64 (dg (ab (VQ)) 3)] 25 (0, 0)) ∧ W.heap[w16.heap.size]? = some (.cells #[.bool (ng (VR)), .int .u64 (dg (ab (VR)) 0), .int .u64 (dg (ab (VR)) 1), .int .u64 (dg (ab (VR)) 2), .int .u64 (dg (ab (VR)) 3)] 25 (0, 0)) ∧ Below w.heap.size w W) ⟨heap_old (h_a) _, heap_old (h_b) _, heap_old (h_c) _, heap_old (h_x) _, heap_old (h_p) _, heap_old (h_q) _, heap_new _ _, (by focus (repeat (first | (with_reducible exact Below.refl _ _) | (with_reducible assumption) | ((with_reducible refine Below.setCell ?_ ?_ _); rotate_left; (focus (first | omega | (simp; done) | (simp; omega)))) | ((with_reducible refine Below.alloc ?_ ?_ _); rotate_left; (focus (first | omega | (simp; done) | (simp; omega)))) | (with_reducible refine Below.drew ?_) | (refine below_on ?_ (by assumption)))))⟩ fun W17 ⟨g_a, g_b, g_c, g_x, g_p, g_q, g_r, gB⟩ => ?_
  clear hB hsz h_a h_b h_c h_x h_p h_q
  have h_a := g_a
  have h_b := g_b
  have h_c := g_c
  have h_x := g_x
  have h_p := g_p
  have h_q := g_q
  have h_r := g_r
  have hB := gB
  clear gB g_a g_b g_c g_x g_p g_q g_r
  have c_q := cell_at h_q
  have c_r := cell_at h_r
  go_wp2_with fail
  refine (add_r _ _ [pr VQ, pr VR] (VS) (ES) _ (ints_two (b := W17.heap.size) (p := (pr VQ)) (q := (pr VR)) HVQ.out HVR.out (by focus (repeat (first | (with_reducible exact heap_at (by first | rfl | (simp; done) | (simp; omega)) _) | (with_reducible refine heap_old ?_ _))))) H8.out.1 H8.out.2).mono ?_
  rintro e w18 ⟨rfl, hb⟩
  have k_a := heap_below hb (heap_old h_a _)
  have k_b := heap_below hb (heap_old h_b _)
  have k_c := heap_below hb (heap_old h_c _)
  have k_x := heap_below hb (heap_old h_x _)
  have k_p := heap_below hb (heap_old h_p _)
  have k_q := heap_below hb (heap_old h_q _)
  have k_r := heap_below hb (heap_old h_r _)
  have kB : Below w.heap.size w w18 := by
    have hsz := hB.size
    focus (repeat (first | (with_reducible exact Below.refl _ _) | (with_reducible assumption) | ((with_reducible refine Below.setCell ?_ ?_ _); rotate_left; (focus (first | omega | (simp; done) | (simp; omega)))) | ((with_reducible refine Below.alloc ?_ ?_ _); rotate_left; (focus (first | omega | (simp; done) | (simp; omega)))) | (with_reducible refine Below.drew ?_) | (refine below_on ?_ (by assumption))))
  have sz_w18 := kB.size
  have sl_w18 := lt_of_block k_r
  clear hB hb h_a h_b h_c h_x h_p h_q h_r
  have h_a := k_a
  have h_b := k_b
  have h_c := k_c
  have h_x := k_x
  have h_p := k_p
  have h_q := k_q
  have h_r := k_r
  have hB := kB
  clear kB k_a k_b k_c k_x k_p k_q k_r
  have hsz := hB.size
  go_upto_region 13 with (fail)
  refine abs_wp (fun W => W.heap[w.heap.size]? = some (.cells #[.bool (ng (M)), .int .u64 (dg (ab (M)) 0), .int .u64 (dg (ab (M)) 1), .int .u64 (dg (ab (M)) 2), .int .u64 (dg (ab (M)) 3)] 25 (0, 0)) ∧ W.heap[w.heap.size + 1]? = some (.cells #[.bool (q.1), .int .u64 (dg (q.2) 0), .int .u64 (dg (q.2) 1), .int .u64 (dg (q.2) 2), .int .u64 (dg (q.2) 3)] 25 (0, 0)) ∧ W.heap[w.heap.size + 2]? = some (.cells #[.bool (r.1), .int .u64 (dg (r.2) 0), .int .u64 (dg (r.2) 1), .int .u64 (dg (r.2) 2), .int .u64 (dg (r.2) 3)] 25 (0, 0)) ∧ W.heap[w2.heap.size]? = some (.cells #[.bool (ng (X)), .int .u64 (dg (ab (X)) 0), .int .u64 (dg (ab (X)) 1), .int .u64 (dg (ab (X)) 2), .int .u64 (dg (ab (X)) 3)] 25 (0, 0)) ∧ W.heap[w12.heap.size]? = some (.cells #[.bool (ng (VP)), .int .u64 (dg (ab (VP)) 0), .int .u64 (dg (ab (VP)) 1), .int .u64 (dg (ab (VP)) 2), .int .u64 (dg (ab (VP)) 3)] 25 (0, 0)) ∧ W.heap[w14.heap.size]? = some (.cells #[.bool (ng (VQ)), .int .u64 (dg (ab (VQ)) 0), .int .u64 (dg (ab (VQ)) 1), .int .u64 (dg (ab (VQ)) 2), .int .u64 (dg (ab (VQ)) 3)] 25 (0, 0)) ∧ W.heap[w16.heap.size]? = some (.cells #[.bool (ng (VR)), .int .u64 (dg (ab (VR)) 0), .int .u64 (dg (ab (VR)) 1), .int .u64 (dg (ab (VR)) 2), .int .u64 (dg (ab (VR)) 3)] 25 (0, 0)) ∧ W.heap[w18.heap.size]? = some (.cells #[.bool (ng (VS)), .int .u64 (dg (ab (VS)) 0), .int .u64 (dg (ab (VS)) 1), .int .u64 (dg (ab (VS)) 2), .int .u64 (dg (ab (VS)) 3)] 25 (0, 0)) ∧ Below w.heap.size w W) ⟨heap_old (h_a) _, heap_old (h_b) _, heap_old (h_c) _, heap_old (h_x) _, heap_old (h_p) _, heap_old (h_q) _, heap_old (h_r) _, heap_new _ _, (by focus (repeat (first | (with_reducible exact Below.refl _ _) | (with_reducible assumption) | ((with_reducible refine Below.setCell ?_ ?_ _); rotate_left; (focus (first | omega | (simp; done) | (simp; omega)))) | ((with_reducible refine Below.alloc ?_ ?_ _); rotate_left; (focus (first | omega | (simp; done) | (simp; omega)))) | (with_reducible refine Below.drew ?_) | (refine below_on ?_ (by assumption)))))⟩ fun W19 ⟨g_a, g_b, g_c, g_x, g_p, g_q, g_r, g_s, gB⟩ => ?_
  clear hB hsz h_a h_b h_c h_x h_p h_q h_r
  have h_a := g_a
  have h_b := g_b
  have h_c := g_c
  have h_x := g_x
  have h_p := g_p
  have h_q := g_q
  have h_r := g_r
  have h_s := g_s
  have hB := gB
  clear gB g_a g_b g_c g_x g_p g_q g_r g_s
  have c_p := cell_at h_p
  have c_s := cell_at h_s
  have ht := HT2.out
  have b1 := HBX.out
  have b2 := HBP.out
  have b3 := HBQ.out
  have b4 := HBR.out
  have b5 := HBS.out
  go_upto_region 15 with ((go_at_call 14; refine (num_s _ _).mono ?_; rintro e w' ⟨rfl, rfl⟩))
  refine abs_wp (fun W => W.heap[w.heap.size]? = some (.cells #[.bool (ng (M)), .int .u64 (dg (ab (M)) 0), .int .u64 (dg (ab (M)) 1), .int .u64 (dg (ab (M)) 2), .int .u64 (dg (ab (M)) 3)] 25 (0, 0)) ∧ W.heap[w.heap.size + 1]? = some (.cells #[.bool (q.1), .int .u64 (dg (q.2) 0), .int .u64 (dg (q.2) 1), .int .u64 (dg (q.2) 2), .int .u64 (dg (q.2) 3)] 25 (0, 0)) ∧ W.heap[w.heap.size + 2]? = some (.cells #[.bool (r.1), .int .u64 (dg (r.2) 0), .int .u64 (dg (r.2) 1), .int .u64 (dg (r.2) 2), .int .u64 (dg (r.2) 3)] 25 (0, 0)) ∧ Below w.heap.size w W) ⟨h_a, h_b, h_c, (by focus (repeat (first | (with_reducible exact Below.refl _ _) | (with_reducible assumption) | ((with_reducible refine Below.setCell ?_ ?_ _); rotate_left; (focus (first | omega | (simp; done) | (simp; omega)))) | ((with_reducible refine Below.alloc ?_ ?_ _); rotate_left; (focus (first | omega | (simp; done) | (simp; omega)))) | (with_reducible refine Below.drew ?_) | (refine below_on ?_ (by assumption)))))⟩ fun W20 ⟨g_a, g_b, g_c, gB⟩ => ?_
  clear hB h_a h_b h_c h_x h_p h_q h_r h_s
  have h_a := g_a
  have h_b := g_b
  have h_c := g_c
  have hB := gB
  clear gB g_a g_b g_c
  clear ht b1 b2 b3 b4 b5
  have c_a := cell_at h_a
  go_wp2_with fail
  refine (text_at M T HP.out HTX.out _).mono ?_
  rintro e w21 ⟨rfl, hb⟩
  have k_a := heap_below hb h_a
  have k_b := heap_below hb h_b
  have k_c := heap_below hb h_c
  have kB : Below w.heap.size w w21 := by
    have hsz := hB.size
    focus (repeat (first | (with_reducible exact Below.refl _ _) | (with_reducible assumption) | ((with_reducible refine Below.setCell ?_ ?_ _); rotate_left; (focus (first | omega | (simp; done) | (simp; omega)))) | ((with_reducible refine Below.alloc ?_ ?_ _); rotate_left; (focus (first | omega | (simp; done) | (simp; omega)))) | (with_reducible refine Below.drew ?_) | (refine below_on ?_ (by assumption))))
  have sz_w21 := kB.size
  have sl_w21 := lt_of_block k_c
  clear hB hb h_a h_b h_c
  have h_a := k_a
  have h_b := k_b
  have h_c := k_c
  have hB := kB
  clear kB k_a k_b k_c
  go_wp2_with fail
  refine (parse_at T M 0 HTS.out HPV.out HPE.out _).mono ?_
  rintro e w22 ⟨rfl, hb⟩
  have k_a := heap_below hb h_a
  have k_b := heap_below hb h_b
  have k_c := heap_below hb h_c
  have kB : Below w.heap.size w w22 := by
    have hsz := hB.size
    focus (repeat (first | (with_reducible exact Below.refl _ _) | (with_reducible assumption) | ((with_reducible refine Below.setCell ?_ ?_ _); rotate_left; (focus (first | omega | (simp; done) | (simp; omega)))) | ((with_reducible refine Below.alloc ?_ ?_ _); rotate_left; (focus (first | omega | (simp; done) | (simp; omega)))) | (with_reducible refine Below.drew ?_) | (refine below_on ?_ (by assumption))))
  have sz_w22 := kB.size
  have sl_w22 := lt_of_block k_c
  clear hB hb h_a h_b h_c
  have h_a := k_a
  have h_b := k_b
  have h_c := k_c
  have hB := kB
  clear kB k_a k_b k_c
  have hsz := hB.size
  go_upto_region 17 with (fail)
  refine abs_wp (fun W => W.heap[w.heap.size]? = some (.cells #[.bool (ng (M)), .int .u64 (dg (ab (M)) 0), .int .u64 (dg (ab (M)) 1), .int .u64 (dg (ab (M)) 2), .int .u64 (dg (ab (M)) 3)] 25 (0, 0)) ∧ W.heap[w.heap.size + 1]? = some (.cells #[.bool (q.1), .int .u64 (dg (q.2) 0), .int .u64 (dg (q.2) 1), .int .u64 (dg (q.2) 2), .int .u64 (dg (q.2) 3)] 25 (0, 0)) ∧ W.heap[w.heap.size + 2]? = some (.cells #[.bool (r.1), .int .u64 (dg (r.2) 0), .int .u64 (dg (r.2) 1), .int .u64 (dg (r.2) 2), .int .u64 (dg (r.2) 3)] 25 (0, 0)) ∧ W.heap[w22.heap.size]? = some (.cells #[.bool (ng (M)), .int .u64 (dg (ab (M)) 0), .int .u64 (dg (ab (M)) 1), .int .u64 (dg (ab (M)) 2), .int .u64 (dg (ab (M)) 3)] 25 (0, 0)) ∧ Below w.heap.size w W) ⟨heap_old (h_a) _, heap_old (h_b) _, heap_old (h_c) _, heap_new _ _, (by focus (repeat (first | (with_reducible exact Below.refl _ _) | (with_reducible assumption) | ((with_reducible refine Below.setCell ?_ ?_ _); rotate_left; (focus (first | omega | (simp; done) | (simp; omega)))) | ((with_reducible refine Below.alloc ?_ ?_ _); rotate_left; (focus (first | omega | (simp; done) | (simp; omega)))) | (with_reducible refine Below.drew ?_) | (refine below_on ?_ (by assumption)))))⟩ fun W23 ⟨g_a, g_b, g_c, g_k, gB⟩ => ?_
  clear hB hsz h_a h_b h_c
  have h_a := g_a
  have h_b := g_b
  have h_c := g_c
  have h_k := g_k
  have hB := gB
  clear gB g_a g_b g_c g_k
  have c_k := cell_at h_k
  have c_a := cell_at h_a
  go_upto_region 19 with ((go_at_call 14; refine (num_s _ _).mono ?_; rintro e w' ⟨rfl, rfl⟩))
  refine abs_wp (fun W => W.heap[w.heap.size]? = some (.cells #[.bool (ng (M)), .int .u64 (dg (ab (M)) 0), .int .u64 (dg (ab (M)) 1), .int .u64 (dg (ab (M)) 2), .int .u64 (dg (ab (M)) 3)] 25 (0, 0)) ∧ W.heap[w.heap.size + 1]? = some (.cells #[.bool (q.1), .int .u64 (dg (q.2) 0), .int .u64 (dg (q.2) 1), .int .u64 (dg (q.2) 2), .int .u64 (dg (q.2) 3)] 25 (0, 0)) ∧ Below w.heap.size w W) ⟨h_a, h_b, (by focus (repeat (first | (with_reducible exact Below.refl _ _) | (with_reducible assumption) | ((with_reducible refine Below.setCell ?_ ?_ _); rotate_left; (focus (first | omega | (simp; done) | (simp; omega)))) | ((with_reducible refine Below.alloc ?_ ?_ _); rotate_left; (focus (first | omega | (simp; done) | (simp; omega)))) | (with_reducible refine Below.drew ?_) | (refine below_on ?_ (by assumption)))))⟩ fun W24 ⟨g_a, g_b, gB⟩ => ?_
  clear hB h_a h_b h_c h_k
  have h_a := g_a
  have h_b := g_b
  have hB := gB
  clear gB g_a g_b
  have c_a := cell_at h_a
  have c_b := cell_at h_b
  go_wp2_with fail
  refine (divides_any (pr M) q HP.out HQ.out _).mono ?_
  rintro e w25 ⟨rfl, hb⟩
  have k_a := heap_below hb h_a
  have k_b := heap_below hb h_b
  have kB : Below w.heap.size w w25 := by
    have hsz := hB.size
    focus (repeat (first | (with_reducible exact Below.refl _ _) | (with_reducible assumption) | ((with_reducible refine Below.setCell ?_ ?_ _); rotate_left; (focus (first | omega | (simp; done) | (simp; omega)))) | ((with_reducible refine Below.alloc ?_ ?_ _); rotate_left; (focus (first | omega | (simp; done) | (simp; omega)))) | (with_reducible refine Below.drew ?_) | (refine below_on ?_ (by assumption))))
  have sz_w25 := kB.size
  have sl_w25 := lt_of_block k_b
  clear hB hb h_a h_b
  have h_a := k_a
  have h_b := k_b
  have hB := kB
  clear kB k_a k_b
  go_wp2_with fail
  refine (works_any _).mono ?_
  rintro e wz ⟨rfl, hb⟩
  have hF := below_on hB hb
  go_wp2
  go_ret
  exact ⟨rfl, hF⟩
end Go.Proofs.Yteibcklcegkbcaa
