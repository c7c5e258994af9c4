/-
  The walk of LimbOfs, path by path (printed by gen/ofs.py of this project). Conditions stand in each theorem.
-/
import Derived.Test.YteibcklcegkbcaaSm
import Derived.Test.YteibcklcegkbcaaRf8
namespace Go.Proofs.Yteibcklcegkbcaa
open Go.RowKit Go.BigFrame

theorem rright_bad0 (w : World) : Calls Try.prog 13 #[.agg #[.bool true, .int .u64 0, .int .u64 0, .int .u64 0, .int .u64 0]] w fun e w' => e = .returned (.bool false) ∧ Below w.heap.size w w' := by
  have h := rright_bad w
  simp only [dg_zero] at h
  exact h
theorem sign_bad0 (w : World) : Calls Try.prog 34 #[.agg #[.bool true, .int .u64 0, .int .u64 0, .int .u64 0, .int .u64 0]] w fun e w' => e = .returned (.int .i64 0) ∧ Below w.heap.size w w' := by
  have h := sign_bad w
  simp only [dg_zero] at h
  exact h
theorem small_bad0 (w : World) : Calls Try.prog 32 #[.agg #[.bool true, .int .u64 0, .int .u64 0, .int .u64 0, .int .u64 0]] w fun e w' => e = .returned (.tuple #[.int .i64 0, .bool false]) ∧ Below w.heap.size w w' := by
  have h := small_bad w
  simp only [dg_zero] at h
  exact h
set_option maxRecDepth 100000 in
set_option maxHeartbeats 2000000 in
theorem ofs_in1 (n z : Int) (HN : Hd (-9223372036854775808 ≤ n ∧ n ≤ 9223372036854775807)) (HNB : Hd (ab n < 2 ^ 256)) (HZ : Hd (ab z < 2 ^ 256)) (HW : Hd (-9223372036854775808 ≤ z ∧ z < 9223372036854775808)) (HF : Hd ((bits .or .u64 (bits .or .u64 (dg (ab z) 1) (dg (ab z) 2)) (dg (ab z) 3) == 0) = true ∧ decide (dg (ab z) 0 < 9223372036854775808) = true)) (w : World) :
    Calls Try.prog 7 #[.int .i64 n, .agg #[.bool (ng (z)), .int .u64 (dg (ab (z)) 0), .int .u64 (dg (ab (z)) 1), .int .u64 (dg (ab (z)) 2), .int .u64 (dg (ab (z)) 3)]] w fun e w' => e = .returned (.bool true) ∧ Below w.heap.size w w' := by
  go_enter Try.func7, Try.ntmps7
  have hB := Below.refl w.heap.size w
  have hsz := hB.size
  go_upto_region 1 with (fail)
  refine abs_wp (fun W => W.heap[w.heap.size]? = some (.cells #[.bool (ng (z)), .int .u64 (dg (ab (z)) 0), .int .u64 (dg (ab (z)) 1), .int .u64 (dg (ab (z)) 2), .int .u64 (dg (ab (z)) 3)] 25 (0, 0)) ∧ Below w.heap.size w W) ⟨heap_new _ _, (by focus (repeat (first | (with_reducible exact Below.refl _ _) | (with_reducible assumption) | ((with_reducible refine Below.setCell ?_ ?_ _); rotate_left; (focus (first | omega | (simp; done) | (simp; omega)))) | ((with_reducible refine Below.alloc ?_ ?_ _); rotate_left; (focus (first | omega | (simp; done) | (simp; omega)))) | (with_reducible refine Below.drew ?_) | (refine below_on ?_ (by assumption)))))⟩ fun W1 ⟨g_a, gB⟩ => ?_
  clear hB hsz 
  have h_a := g_a
  have hB := gB
  clear gB g_a
  go_wp2_with fail
  refine (rnum_any n HN.out.1 HN.out.2 _).mono ?_
  rintro e w2 ⟨v, rfl, hV, hb⟩
  have k_a := heap_below hb h_a
  have kB : Below w.heap.size w w2 := by
    have hsz := hB.size
    focus (repeat (first | (with_reducible exact Below.refl _ _) | (with_reducible assumption) | ((with_reducible refine Below.setCell ?_ ?_ _); rotate_left; (focus (first | omega | (simp; done) | (simp; omega)))) | ((with_reducible refine Below.alloc ?_ ?_ _); rotate_left; (focus (first | omega | (simp; done) | (simp; omega)))) | (with_reducible refine Below.drew ?_) | (refine below_on ?_ (by assumption))))
  have sz_w2 := kB.size
  have sl_w2 := lt_of_block k_a
  clear hB hb h_a
  have h_a := k_a
  have hB := kB
  clear kB k_a
  go_wp2_with fail
  refine (rto_ok n HNB.out _ _ hV).mono ?_
  rintro e w3 ⟨rfl, hb⟩
  have k_a := heap_below hb h_a
  have kB : Below w.heap.size w w3 := by
    have hsz := hB.size
    focus (repeat (first | (with_reducible exact Below.refl _ _) | (with_reducible assumption) | ((with_reducible refine Below.setCell ?_ ?_ _); rotate_left; (focus (first | omega | (simp; done) | (simp; omega)))) | ((with_reducible refine Below.alloc ?_ ?_ _); rotate_left; (focus (first | omega | (simp; done) | (simp; omega)))) | (with_reducible refine Below.drew ?_) | (refine below_on ?_ (by assumption))))
  have sz_w3 := kB.size
  have sl_w3 := lt_of_block k_a
  clear hB hb h_a
  have h_a := k_a
  have hB := kB
  clear kB k_a
  clear hV
  have hsz := hB.size
  go_upto_region 2 with (fail)
  refine abs_wp (fun W => W.heap[w.heap.size]? = some (.cells #[.bool (ng (z)), .int .u64 (dg (ab (z)) 0), .int .u64 (dg (ab (z)) 1), .int .u64 (dg (ab (z)) 2), .int .u64 (dg (ab (z)) 3)] 25 (0, 0)) ∧ W.heap[w3.heap.size]? = some (.cells #[.bool (ng (n)), .int .u64 (dg (ab (n)) 0), .int .u64 (dg (ab (n)) 1), .int .u64 (dg (ab (n)) 2), .int .u64 (dg (ab (n)) 3)] 25 (0, 0)) ∧ Below w.heap.size w W) ⟨heap_old (h_a) _, heap_new _ _, (by focus (repeat (first | (with_reducible exact Below.refl _ _) | (with_reducible assumption) | ((with_reducible refine Below.setCell ?_ ?_ _); rotate_left; (focus (first | omega | (simp; done) | (simp; omega)))) | ((with_reducible refine Below.alloc ?_ ?_ _); rotate_left; (focus (first | omega | (simp; done) | (simp; omega)))) | (with_reducible refine Below.drew ?_) | (refine below_on ?_ (by assumption)))))⟩ fun W4 ⟨g_a, g_want, gB⟩ => ?_
  clear hB hsz h_a
  have h_a := g_a
  have h_want := g_want
  have hB := gB
  clear gB g_a g_want
  go_wp2_with fail
  refine (of_word n HN.out.1 (Int.lt_of_le_of_lt HN.out.2 (by decide)) _).mono ?_
  rintro e w5 ⟨rfl, hb⟩
  have k_a := heap_below hb h_a
  have k_want := heap_below hb h_want
  have kB : Below w.heap.size w w5 := by
    have hsz := hB.size
    focus (repeat (first | (with_reducible exact Below.refl _ _) | (with_reducible assumption) | ((with_reducible refine Below.setCell ?_ ?_ _); rotate_left; (focus (first | omega | (simp; done) | (simp; omega)))) | ((with_reducible refine Below.alloc ?_ ?_ _); rotate_left; (focus (first | omega | (simp; done) | (simp; omega)))) | (with_reducible refine Below.drew ?_) | (refine below_on ?_ (by assumption))))
  have sz_w5 := kB.size
  have sl_w5 := lt_of_block k_want
  clear hB hb h_a h_want
  have h_a := k_a
  have h_want := k_want
  have hB := kB
  clear kB k_a k_want
  have hsz := hB.size
  go_upto_region 3 with (fail)
  refine abs_wp (fun W => W.heap[w.heap.size]? = some (.cells #[.bool (ng (z)), .int .u64 (dg (ab (z)) 0), .int .u64 (dg (ab (z)) 1), .int .u64 (dg (ab (z)) 2), .int .u64 (dg (ab (z)) 3)] 25 (0, 0)) ∧ W.heap[w3.heap.size]? = some (.cells #[.bool (ng (n)), .int .u64 (dg (ab (n)) 0), .int .u64 (dg (ab (n)) 1), .int .u64 (dg (ab (n)) 2), .int .u64 (dg (ab (n)) 3)] 25 (0, 0)) ∧ W.heap[w5.heap.size]? = some (.cells #[.bool (ng (n)), .int .u64 (dg (ab (n)) 0), .int .u64 (dg (ab (n)) 1), .int .u64 (dg (ab (n)) 2), .int .u64 (dg (ab (n)) 3)] 25 (0, 0)) ∧ Below w.heap.size w W) ⟨heap_old (h_a) _, heap_old (h_want) _, heap_new _ _, (by focus (repeat (first | (with_reducible exact Below.refl _ _) | (with_reducible assumption) | ((with_reducible refine Below.setCell ?_ ?_ _); rotate_left; (focus (first | omega | (simp; done) | (simp; omega)))) | ((with_reducible refine Below.alloc ?_ ?_ _); rotate_left; (focus (first | omega | (simp; done) | (simp; omega)))) | (with_reducible refine Below.drew ?_) | (refine below_on ?_ (by assumption)))))⟩ fun W6 ⟨g_a, g_want, g_x, gB⟩ => ?_
  clear hB hsz h_a h_want
  have h_a := g_a
  have h_want := g_want
  have h_x := g_x
  have hB := gB
  clear gB g_a g_want g_x
  have c_x := cell_at h_x
  go_wp2_with fail
  refine (small_word n HNB.out ⟨HN.out.1, Int.lt_of_le_of_lt HN.out.2 (by decide)⟩ _).mono ?_
  rintro e w7 ⟨rfl, hb⟩
  have k_a := heap_below hb h_a
  have k_want := heap_below hb h_want
  have k_x := heap_below hb h_x
  have kB : Below w.heap.size w w7 := by
    have hsz := hB.size
    focus (repeat (first | (with_reducible exact Below.refl _ _) | (with_reducible assumption) | ((with_reducible refine Below.setCell ?_ ?_ _); rotate_left; (focus (first | omega | (simp; done) | (simp; omega)))) | ((with_reducible refine Below.alloc ?_ ?_ _); rotate_left; (focus (first | omega | (simp; done) | (simp; omega)))) | (with_reducible refine Below.drew ?_) | (refine below_on ?_ (by assumption))))
  have sz_w7 := kB.size
  have sl_w7 := lt_of_block k_x
  clear hB hb h_a h_want h_x
  have h_a := k_a
  have h_want := k_want
  have h_x := k_x
  have hB := kB
  clear kB k_a k_want k_x
  go_upto_region 4 with (fail)
  refine abs_wp (fun W => W.heap[w.heap.size]? = some (.cells #[.bool (ng (z)), .int .u64 (dg (ab (z)) 0), .int .u64 (dg (ab (z)) 1), .int .u64 (dg (ab (z)) 2), .int .u64 (dg (ab (z)) 3)] 25 (0, 0)) ∧ W.heap[w3.heap.size]? = some (.cells #[.bool (ng (n)), .int .u64 (dg (ab (n)) 0), .int .u64 (dg (ab (n)) 1), .int .u64 (dg (ab (n)) 2), .int .u64 (dg (ab (n)) 3)] 25 (0, 0)) ∧ W.heap[w5.heap.size]? = some (.cells #[.bool (ng (n)), .int .u64 (dg (ab (n)) 0), .int .u64 (dg (ab (n)) 1), .int .u64 (dg (ab (n)) 2), .int .u64 (dg (ab (n)) 3)] 25 (0, 0)) ∧ Below w.heap.size w W) ⟨h_a, h_want, h_x, (by focus (repeat (first | (with_reducible exact Below.refl _ _) | (with_reducible assumption) | ((with_reducible refine Below.setCell ?_ ?_ _); rotate_left; (focus (first | omega | (simp; done) | (simp; omega)))) | ((with_reducible refine Below.alloc ?_ ?_ _); rotate_left; (focus (first | omega | (simp; done) | (simp; omega)))) | (with_reducible refine Below.drew ?_) | (refine below_on ?_ (by assumption)))))⟩ fun W8 ⟨g_a, g_want, g_x, gB⟩ => ?_
  clear hB h_a h_want h_x
  have h_a := g_a
  have h_want := g_want
  have h_x := g_x
  have hB := gB
  clear gB g_a g_want g_x
  have c_a := cell_at h_a
  go_wp2_with fail
  refine (small_word z HZ.out HW.out _).mono ?_
  rintro e w9 ⟨rfl, hb⟩
  have k_a := heap_below hb h_a
  have k_want := heap_below hb h_want
  have k_x := heap_below hb h_x
  have kB : Below w.heap.size w w9 := by
    have hsz := hB.size
    focus (repeat (first | (with_reducible exact Below.refl _ _) | (with_reducible assumption) | ((with_reducible refine Below.setCell ?_ ?_ _); rotate_left; (focus (first | omega | (simp; done) | (simp; omega)))) | ((with_reducible refine Below.alloc ?_ ?_ _); rotate_left; (focus (first | omega | (simp; done) | (simp; omega)))) | (with_reducible refine Below.drew ?_) | (refine below_on ?_ (by assumption))))
  have sz_w9 := kB.size
  have sl_w9 := lt_of_block k_x
  clear hB hb h_a h_want h_x
  have h_a := k_a
  have h_want := k_want
  have h_x := k_x
  have hB := kB
  clear kB k_a k_want k_x
  go_upto_region 5 with (fail)
  refine abs_wp (fun W => W.heap[w.heap.size]? = some (.cells #[.bool (ng (z)), .int .u64 (dg (ab (z)) 0), .int .u64 (dg (ab (z)) 1), .int .u64 (dg (ab (z)) 2), .int .u64 (dg (ab (z)) 3)] 25 (0, 0)) ∧ W.heap[w3.heap.size]? = some (.cells #[.bool (ng (n)), .int .u64 (dg (ab (n)) 0), .int .u64 (dg (ab (n)) 1), .int .u64 (dg (ab (n)) 2), .int .u64 (dg (ab (n)) 3)] 25 (0, 0)) ∧ W.heap[w5.heap.size]? = some (.cells #[.bool (ng (n)), .int .u64 (dg (ab (n)) 0), .int .u64 (dg (ab (n)) 1), .int .u64 (dg (ab (n)) 2), .int .u64 (dg (ab (n)) 3)] 25 (0, 0)) ∧ Below w.heap.size w W) ⟨h_a, h_want, h_x, (by focus (repeat (first | (with_reducible exact Below.refl _ _) | (with_reducible assumption) | ((with_reducible refine Below.setCell ?_ ?_ _); rotate_left; (focus (first | omega | (simp; done) | (simp; omega)))) | ((with_reducible refine Below.alloc ?_ ?_ _); rotate_left; (focus (first | omega | (simp; done) | (simp; omega)))) | (with_reducible refine Below.drew ?_) | (refine below_on ?_ (by assumption)))))⟩ fun W10 ⟨g_a, g_want, g_x, gB⟩ => ?_
  clear hB h_a h_want h_x
  have h_a := g_a
  have h_want := g_want
  have h_x := g_x
  have hB := gB
  clear gB g_a g_want g_x
  have c_a := cell_at h_a
  go_wp2_with fail
  refine (rright_ok z HZ.out _).mono ?_
  rintro e w11 ⟨rfl, hb⟩
  have k_a := heap_below hb h_a
  have k_want := heap_below hb h_want
  have k_x := heap_below hb h_x
  have kB : Below w.heap.size w w11 := by
    have hsz := hB.size
    focus (repeat (first | (with_reducible exact Below.refl _ _) | (with_reducible assumption) | ((with_reducible refine Below.setCell ?_ ?_ _); rotate_left; (focus (first | omega | (simp; done) | (simp; omega)))) | ((with_reducible refine Below.alloc ?_ ?_ _); rotate_left; (focus (first | omega | (simp; done) | (simp; omega)))) | (with_reducible refine Below.drew ?_) | (refine below_on ?_ (by assumption))))
  have sz_w11 := kB.size
  have sl_w11 := lt_of_block k_x
  clear hB hb h_a h_want h_x
  have h_a := k_a
  have h_want := k_want
  have h_x := k_x
  have hB := kB
  clear kB k_a k_want k_x
  have c_a := cell_at h_a
  have hF := HF.out
  go_upto_region 6 with (fail)
  clear hF
  refine region_qt 19 (by kernel_rfl) (by kernel_rfl) fun X _ mk hmk hcl => ?_
  have c_a := mk_cell hmk h_a
  simp only [List.take_succ_cons, List.take_zero, List.drop_succ_cons, List.drop_zero]
  repeat (go_big_quiet_step ((go_at_call 31; exact (of_word z HW.out.1 HW.out.2 _).mono fun e w' ⟨he, hw⟩ => ⟨he, hcl _ _ hw⟩)))
  refine wpQuiet_nil ?_
  rintro _ ⟨x, rfl⟩
  have hb := hmk x
  clear hcl hmk c_a
  generalize mk x = w12 at hb
  have k_a := heap_below hb h_a
  have k_want := heap_below hb h_want
  have k_x := heap_below hb h_x
  have kB : Below w.heap.size w w12 := by
    have hsz := hB.size
    focus (repeat (first | (with_reducible exact Below.refl _ _) | (with_reducible assumption) | ((with_reducible refine Below.setCell ?_ ?_ _); rotate_left; (focus (first | omega | (simp; done) | (simp; omega)))) | ((with_reducible refine Below.alloc ?_ ?_ _); rotate_left; (focus (first | omega | (simp; done) | (simp; omega)))) | (with_reducible refine Below.drew ?_) | (refine below_on ?_ (by assumption))))
  have sz_w12 := kB.size
  have sl_w12 := lt_of_block k_x
  clear hB hb h_a h_want h_x
  have h_a := k_a
  have h_want := k_want
  have h_x := k_x
  have hB := kB
  clear kB k_a k_want k_x
  have c_a := cell_at h_a
  go_wp2_with fail
  refine (rright_ok z HZ.out _).mono ?_
  rintro e w13 ⟨rfl, hb⟩
  have k_a := heap_below hb h_a
  have k_want := heap_below hb h_want
  have k_x := heap_below hb h_x
  have kB : Below w.heap.size w w13 := by
    have hsz := hB.size
    focus (repeat (first | (with_reducible exact Below.refl _ _) | (with_reducible assumption) | ((with_reducible refine Below.setCell ?_ ?_ _); rotate_left; (focus (first | omega | (simp; done) | (simp; omega)))) | ((with_reducible refine Below.alloc ?_ ?_ _); rotate_left; (focus (first | omega | (simp; done) | (simp; omega)))) | (with_reducible refine Below.drew ?_) | (refine below_on ?_ (by assumption))))
  have sz_w13 := kB.size
  have sl_w13 := lt_of_block k_x
  clear hB hb h_a h_want h_x
  have h_a := k_a
  have h_want := k_want
  have h_x := k_x
  have hB := kB
  clear kB k_a k_want k_x
  have c_a := cell_at h_a
  go_wp2_with fail
  refine (from_z z HZ.out _).mono ?_
  rintro e w14 ⟨v2, rfl, hV, hb⟩
  have k_a := heap_below hb h_a
  have k_want := heap_below hb h_want
  have k_x := heap_below hb h_x
  have kB : Below w.heap.size w w14 := by
    have hsz := hB.size
    focus (repeat (first | (with_reducible exact Below.refl _ _) | (with_reducible assumption) | ((with_reducible refine Below.setCell ?_ ?_ _); rotate_left; (focus (first | omega | (simp; done) | (simp; omega)))) | ((with_reducible refine Below.alloc ?_ ?_ _); rotate_left; (focus (first | omega | (simp; done) | (simp; omega)))) | (with_reducible refine Below.drew ?_) | (refine below_on ?_ (by assumption))))
  have sz_w14 := kB.size
  have sl_w14 := lt_of_block k_x
  clear hB hb h_a h_want h_x
  have h_a := k_a
  have h_want := k_want
  have h_x := k_x
  have hB := kB
  clear kB k_a k_want k_x
  go_wp2_with fail
  refine (rsign_any z _ _ hV).mono ?_
  rintro e w15 ⟨rfl, hb⟩
  have k_a := heap_below hb h_a
  have k_want := heap_below hb h_want
  have k_x := heap_below hb h_x
  have kB : Below w.heap.size w w15 := by
    have hsz := hB.size
    focus (repeat (first | (with_reducible exact Below.refl _ _) | (with_reducible assumption) | ((with_reducible refine Below.setCell ?_ ?_ _); rotate_left; (focus (first | omega | (simp; done) | (simp; omega)))) | ((with_reducible refine Below.alloc ?_ ?_ _); rotate_left; (focus (first | omega | (simp; done) | (simp; omega)))) | (with_reducible refine Below.drew ?_) | (refine below_on ?_ (by assumption))))
  have sz_w15 := kB.size
  have sl_w15 := lt_of_block k_x
  clear hB hb h_a h_want h_x
  have h_a := k_a
  have h_want := k_want
  have h_x := k_x
  have hB := kB
  clear kB k_a k_want k_x
  clear hV
  have c_a := cell_at h_a
  go_wp2_with fail
  refine (rright_ok z HZ.out _).mono ?_
  rintro e w16 ⟨rfl, hb⟩
  have k_a := heap_below hb h_a
  have k_want := heap_below hb h_want
  have k_x := heap_below hb h_x
  have kB : Below w.heap.size w w16 := by
    have hsz := hB.size
    focus (repeat (first | (with_reducible exact Below.refl _ _) | (with_reducible assumption) | ((with_reducible refine Below.setCell ?_ ?_ _); rotate_left; (focus (first | omega | (simp; done) | (simp; omega)))) | ((with_reducible refine Below.alloc ?_ ?_ _); rotate_left; (focus (first | omega | (simp; done) | (simp; omega)))) | (with_reducible refine Below.drew ?_) | (refine below_on ?_ (by assumption))))
  have sz_w16 := kB.size
  have sl_w16 := lt_of_block k_x
  clear hB hb h_a h_want h_x
  have h_a := k_a
  have h_want := k_want
  have h_x := k_x
  have hB := kB
  clear kB k_a k_want k_x
  have c_a := cell_at h_a
  have c_x := cell_at h_x
  have c_want := cell_at h_want
  go_wp2_with fail
  refine (sign_ok z HZ.out _).mono ?_
  rintro e w17 ⟨rfl, hb⟩
  have k_a := heap_below hb h_a
  have k_want := heap_below hb h_want
  have k_x := heap_below hb h_x
  have kB : Below w.heap.size w w17 := by
    have hsz := hB.size
    focus (repeat (first | (with_reducible exact Below.refl _ _) | (with_reducible assumption) | ((with_reducible refine Below.setCell ?_ ?_ _); rotate_left; (focus (first | omega | (simp; done) | (simp; omega)))) | ((with_reducible refine Below.alloc ?_ ?_ _); rotate_left; (focus (first | omega | (simp; done) | (simp; omega)))) | (with_reducible refine Below.drew ?_) | (refine below_on ?_ (by assumption))))
  have sz_w17 := kB.size
  have sl_w17 := lt_of_block k_x
  clear hB hb h_a h_want h_x
  have h_a := k_a
  have h_want := k_want
  have h_x := k_x
  have hB := kB
  clear kB k_a k_want k_x
  have c_a := cell_at h_a
  go_wp2_with fail
  refine (check_ok z HZ.out _).mono ?_
  rintro e w18 ⟨rfl, hb⟩
  have k_a := heap_below hb h_a
  have k_want := heap_below hb h_want
  have k_x := heap_below hb h_x
  have kB : Below w.heap.size w w18 := by
    have hsz := hB.size
    focus (repeat (first | (with_reducible exact Below.refl _ _) | (with_reducible assumption) | ((with_reducible refine Below.setCell ?_ ?_ _); rotate_left; (focus (first | omega | (simp; done) | (simp; omega)))) | ((with_reducible refine Below.alloc ?_ ?_ _); rotate_left; (focus (first | omega | (simp; done) | (simp; omega)))) | (with_reducible refine Below.drew ?_) | (refine below_on ?_ (by assumption))))
  have sz_w18 := kB.size
  have sl_w18 := lt_of_block k_x
  clear hB hb h_a h_want h_x
  have h_a := k_a
  have h_want := k_want
  have h_x := k_x
  have hB := kB
  clear kB k_a k_want k_x
  go_wp2_with ((go_at_call 14; refine (num_s _ _).mono ?_; rintro e w' ⟨rfl, rfl⟩))
  refine (works_any _).mono ?_
  rintro e wz ⟨rfl, hb⟩
  have hF := below_on hB hb
  go_wp2
  go_ret
  exact ⟨rfl, hF⟩
set_option maxRecDepth 100000 in
set_option maxHeartbeats 2000000 in
theorem ofs_in2 (n z : Int) (HN : Hd (-9223372036854775808 ≤ n ∧ n ≤ 9223372036854775807)) (HNB : Hd (ab n < 2 ^ 256)) (HZ : Hd (ab z < 2 ^ 256)) (HW : Hd (-9223372036854775808 ≤ z ∧ z < 9223372036854775808)) (HF : Hd ((bits .or .u64 (bits .or .u64 (dg (ab z) 1) (dg (ab z) 2)) (dg (ab z) 3) == 0) = true ∧ decide (dg (ab z) 0 < 9223372036854775808) = false ∧ ng z = true ∧ (dg (ab z) 0 == 9223372036854775808) = true)) (w : World) :
    Calls Try.prog 7 #[.int .i64 n, .agg #[.bool (ng (z)), .int .u64 (dg (ab (z)) 0), .int .u64 (dg (ab (z)) 1), .int .u64 (dg (ab (z)) 2), .int .u64 (dg (ab (z)) 3)]] w fun e w' => e = .returned (.bool true) ∧ Below w.heap.size w w' := by
  go_enter Try.func7, Try.ntmps7
  have hB := Below.refl w.heap.size w
  have hsz := hB.size
  go_upto_region 1 with (fail)
  refine abs_wp (fun W => W.heap[w.heap.size]? = some (.cells #[.bool (ng (z)), .int .u64 (dg (ab (z)) 0), .int .u64 (dg (ab (z)) 1), .int .u64 (dg (ab (z)) 2), .int .u64 (dg (ab (z)) 3)] 25 (0, 0)) ∧ Below w.heap.size w W) ⟨heap_new _ _, (by focus (repeat (first | (with_reducible exact Below.refl _ _) | (with_reducible assumption) | ((with_reducible refine Below.setCell ?_ ?_ _); rotate_left; (focus (first | omega | (simp; done) | (simp; omega)))) | ((with_reducible refine Below.alloc ?_ ?_ _); rotate_left; (focus (first | omega | (simp; done) | (simp; omega)))) | (with_reducible refine Below.drew ?_) | (refine below_on ?_ (by assumption)))))⟩ fun W1 ⟨g_a, gB⟩ => ?_
  clear hB hsz 
  have h_a := g_a
  have hB := gB
  clear gB g_a
  go_wp2_with fail
  refine (rnum_any n HN.out.1 HN.out.2 _).mono ?_
  rintro e w2 ⟨v, rfl, hV, hb⟩
  have k_a := heap_below hb h_a
  have kB : Below w.heap.size w w2 := by
    have hsz := hB.size
    focus (repeat (first | (with_reducible exact Below.refl _ _) | (with_reducible assumption) | ((with_reducible refine Below.setCell ?_ ?_ _); rotate_left; (focus (first | omega | (simp; done) | (simp; omega)))) | ((with_reducible refine Below.alloc ?_ ?_ _); rotate_left; (focus (first | omega | (simp; done) | (simp; omega)))) | (with_reducible refine Below.drew ?_) | (refine below_on ?_ (by assumption))))
  have sz_w2 := kB.size
  have sl_w2 := lt_of_block k_a
  clear hB hb h_a
  have h_a := k_a
  have hB := kB
  clear kB k_a
  go_wp2_with fail
  refine (rto_ok n HNB.out _ _ hV).mono ?_
  rintro e w3 ⟨rfl, hb⟩
  have k_a := heap_below hb h_a
  have kB : Below w.heap.size w w3 := by
    have hsz := hB.size
    focus (repeat (first | (with_reducible exact Below.refl _ _) | (with_reducible assumption) | ((with_reducible refine Below.setCell ?_ ?_ _); rotate_left; (focus (first | omega | (simp; done) | (simp; omega)))) | ((with_reducible refine Below.alloc ?_ ?_ _); rotate_left; (focus (first | omega | (simp; done) | (simp; omega)))) | (with_reducible refine Below.drew ?_) | (refine below_on ?_ (by assumption))))
  have sz_w3 := kB.size
  have sl_w3 := lt_of_block k_a
  clear hB hb h_a
  have h_a := k_a
  have hB := kB
  clear kB k_a
  clear hV
  have hsz := hB.size
  go_upto_region 2 with (fail)
  refine abs_wp (fun W => W.heap[w.heap.size]? = some (.cells #[.bool (ng (z)), .int .u64 (dg (ab (z)) 0), .int .u64 (dg (ab (z)) 1), .int .u64 (dg (ab (z)) 2), .int .u64 (dg (ab (z)) 3)] 25 (0, 0)) ∧ W.heap[w3.heap.size]? = some (.cells #[.bool (ng (n)), .int .u64 (dg (ab (n)) 0), .int .u64 (dg (ab (n)) 1), .int .u64 (dg (ab (n)) 2), .int .u64 (dg (ab (n)) 3)] 25 (0, 0)) ∧ Below w.heap.size w W) ⟨heap_old (h_a) _, heap_new _ _, (by focus (repeat (first | (with_reducible exact Below.refl _ _) | (with_reducible assumption) | ((with_reducible refine Below.setCell ?_ ?_ _); rotate_left; (focus (first | omega | (simp; done) | (simp; omega)))) | ((with_reducible refine Below.alloc ?_ ?_ _); rotate_left; (focus (first | omega | (simp; done) | (simp; omega)))) | (with_reducible refine Below.drew ?_) | (refine below_on ?_ (by assumption)))))⟩ fun W4 ⟨g_a, g_want, gB⟩ => ?_
  clear hB hsz h_a
  have h_a := g_a
  have h_want := g_want
  have hB := gB
  clear gB g_a g_want
  go_wp2_with fail
  refine (of_word n HN.out.1 (Int.lt_of_le_of_lt HN.out.2 (by decide)) _).mono ?_
  rintro e w5 ⟨rfl, hb⟩
  have k_a := heap_below hb h_a
  have k_want := heap_below hb h_want
  have kB : Below w.heap.size w w5 := by
    have hsz := hB.size
    focus (repeat (first | (with_reducible exact Below.refl _ _) | (with_reducible assumption) | ((with_reducible refine Below.setCell ?_ ?_ _); rotate_left; (focus (first | omega | (simp; done) | (simp; omega)))) | ((with_reducible refine Below.alloc ?_ ?_ _); rotate_left; (focus (first | omega | (simp; done) | (simp; omega)))) | (with_reducible refine Below.drew ?_) | (refine below_on ?_ (by assumption))))
  have sz_w5 := kB.size
  have sl_w5 := lt_of_block k_want
  clear hB hb h_a h_want
  have h_a := k_a
  have h_want := k_want
  have hB := kB
  clear kB k_a k_want
  have hsz := hB.size
  go_upto_region 3 with (fail)
  refine abs_wp (fun W => W.heap[w.heap.size]? = some (.cells #[.bool (ng (z)), .int .u64 (dg (ab (z)) 0), .int .u64 (dg (ab (z)) 1), .int .u64 (dg (ab (z)) 2), .int .u64 (dg (ab (z)) 3)] 25 (0, 0)) ∧ W.heap[w3.heap.size]? = some (.cells #[.bool (ng (n)), .int .u64 (dg (ab (n)) 0), .int .u64 (dg (ab (n)) 1), .int .u64 (dg (ab (n)) 2), .int .u64 (dg (ab (n)) 3)] 25 (0, 0)) ∧ W.heap[w5.heap.size]? = some (.cells #[.bool (ng (n)), .int .u64 (dg (ab (n)) 0), .int .u64 (dg (ab (n)) 1), .int .u64 (dg (ab (n)) 2), .int .u64 (dg (ab (n)) 3)] 25 (0, 0)) ∧ Below w.heap.size w W) ⟨heap_old (h_a) _, heap_old (h_want) _, heap_new _ _, (by focus (repeat (first | (with_reducible exact Below.refl _ _) | (with_reducible assumption) | ((with_reducible refine Below.setCell ?_ ?_ _); rotate_left; (focus (first | omega | (simp; done) | (simp; omega)))) | ((with_reducible refine Below.alloc ?_ ?_ _); rotate_left; (focus (first | omega | (simp; done) | (simp; omega)))) | (with_reducible refine Below.drew ?_) | (refine below_on ?_ (by assumption)))))⟩ fun W6 ⟨g_a, g_want, g_x, gB⟩ => ?_
  clear hB hsz h_a h_want
  have h_a := g_a
  have h_want := g_want
  have h_x := g_x
  have hB := gB
  clear gB g_a g_want g_x
  have c_x := cell_at h_x
  go_wp2_with fail
  refine (small_word n HNB.out ⟨HN.out.1, Int.lt_of_le_of_lt HN.out.2 (by decide)⟩ _).mono ?_
  rintro e w7 ⟨rfl, hb⟩
  have k_a := heap_below hb h_a
  have k_want := heap_below hb h_want
  have k_x := heap_below hb h_x
  have kB : Below w.heap.size w w7 := by
    have hsz := hB.size
    focus (repeat (first | (with_reducible exact Below.refl _ _) | (with_reducible assumption) | ((with_reducible refine Below.setCell ?_ ?_ _); rotate_left; (focus (first | omega | (simp; done) | (simp; omega)))) | ((with_reducible refine Below.alloc ?_ ?_ _); rotate_left; (focus (first | omega | (simp; done) | (simp; omega)))) | (with_reducible refine Below.drew ?_) | (refine below_on ?_ (by assumption))))
  have sz_w7 := kB.size
  have sl_w7 := lt_of_block k_x
  clear hB hb h_a h_want h_x
  have h_a := k_a
  have h_want := k_want
  have h_x := k_x
  have hB := kB
  clear kB k_a k_want k_x
  go_upto_region 4 with (fail)
  refine abs_wp (fun W => W.heap[w.heap.size]? = some (.cells #[.bool (ng (z)), .int .u64 (dg (ab (z)) 0), .int .u64 (dg (ab (z)) 1), .int .u64 (dg (ab (z)) 2), .int .u64 (dg (ab (z)) 3)] 25 (0, 0)) ∧ W.heap[w3.heap.size]? = some (.cells #[.bool (ng (n)), .int .u64 (dg (ab (n)) 0), .int .u64 (dg (ab (n)) 1), .int .u64 (dg (ab (n)) 2), .int .u64 (dg (ab (n)) 3)] 25 (0, 0)) ∧ W.heap[w5.heap.size]? = some (.cells #[.bool (ng (n)), .int .u64 (dg (ab (n)) 0), .int .u64 (dg (ab (n)) 1), .int .u64 (dg (ab (n)) 2), .int .u64 (dg (ab (n)) 3)] 25 (0, 0)) ∧ Below w.heap.size w W) ⟨h_a, h_want, h_x, (by focus (repeat (first | (with_reducible exact Below.refl _ _) | (with_reducible assumption) | ((with_reducible refine Below.setCell ?_ ?_ _); rotate_left; (focus (first | omega | (simp; done) | (simp; omega)))) | ((with_reducible refine Below.alloc ?_ ?_ _); rotate_left; (focus (first | omega | (simp; done) | (simp; omega)))) | (with_reducible refine Below.drew ?_) | (refine below_on ?_ (by assumption)))))⟩ fun W8 ⟨g_a, g_want, g_x, gB⟩ => ?_
  clear hB h_a h_want h_x
  have h_a := g_a
  have h_want := g_want
  have h_x := g_x
  have hB := gB
  clear gB g_a g_want g_x
  have c_a := cell_at h_a
  go_wp2_with fail
  refine (small_word z HZ.out HW.out _).mono ?_
  rintro e w9 ⟨rfl, hb⟩
  have k_a := heap_below hb h_a
  have k_want := heap_below hb h_want
  have k_x := heap_below hb h_x
  have kB : Below w.heap.size w w9 := by
    have hsz := hB.size
    focus (repeat (first | (with_reducible exact Below.refl _ _) | (with_reducible assumption) | ((with_reducible refine Below.setCell ?_ ?_ _); rotate_left; (focus (first | omega | (simp; done) | (simp; omega)))) | ((with_reducible refine Below.alloc ?_ ?_ _); rotate_left; (focus (first | omega | (simp; done) | (simp; omega)))) | (with_reducible refine Below.drew ?_) | (refine below_on ?_ (by assumption))))
  have sz_w9 := kB.size
  have sl_w9 := lt_of_block k_x
  clear hB hb h_a h_want h_x
  have h_a := k_a
  have h_want := k_want
  have h_x := k_x
  have hB := kB
  clear kB k_a k_want k_x
  go_upto_region 5 with (fail)
  refine abs_wp (fun W => W.heap[w.heap.size]? = some (.cells #[.bool (ng (z)), .int .u64 (dg (ab (z)) 0), .int .u64 (dg (ab (z)) 1), .int .u64 (dg (ab (z)) 2), .int .u64 (dg (ab (z)) 3)] 25 (0, 0)) ∧ W.heap[w3.heap.size]? = some (.cells #[.bool (ng (n)), .int .u64 (dg (ab (n)) 0), .int .u64 (dg (ab (n)) 1), .int .u64 (dg (ab (n)) 2), .int .u64 (dg (ab (n)) 3)] 25 (0, 0)) ∧ W.heap[w5.heap.size]? = some (.cells #[.bool (ng (n)), .int .u64 (dg (ab (n)) 0), .int .u64 (dg (ab (n)) 1), .int .u64 (dg (ab (n)) 2), .int .u64 (dg (ab (n)) 3)] 25 (0, 0)) ∧ Below w.heap.size w W) ⟨h_a, h_want, h_x, (by focus (repeat (first | (with_reducible exact Below.refl _ _) | (with_reducible assumption) | ((with_reducible refine Below.setCell ?_ ?_ _); rotate_left; (focus (first | omega | (simp; done) | (simp; omega)))) | ((with_reducible refine Below.alloc ?_ ?_ _); rotate_left; (focus (first | omega | (simp; done) | (simp; omega)))) | (with_reducible refine Below.drew ?_) | (refine below_on ?_ (by assumption)))))⟩ fun W10 ⟨g_a, g_want, g_x, gB⟩ => ?_
  clear hB h_a h_want h_x
  have h_a := g_a
  have h_want := g_want
  have h_x := g_x
  have hB := gB
  clear gB g_a g_want g_x
  have c_a := cell_at h_a
  go_wp2_with fail
  refine (rright_ok z HZ.out _).mono ?_
  rintro e w11 ⟨rfl, hb⟩
  have k_a := heap_below hb h_a
  have k_want := heap_below hb h_want
  have k_x := heap_below hb h_x
  have kB : Below w.heap.size w w11 := by
    have hsz := hB.size
    focus (repeat (first | (with_reducible exact Below.refl _ _) | (with_reducible assumption) | ((with_reducible refine Below.setCell ?_ ?_ _); rotate_left; (focus (first | omega | (simp; done) | (simp; omega)))) | ((with_reducible refine Below.alloc ?_ ?_ _); rotate_left; (focus (first | omega | (simp; done) | (simp; omega)))) | (with_reducible refine Below.drew ?_) | (refine below_on ?_ (by assumption))))
  have sz_w11 := kB.size
  have sl_w11 := lt_of_block k_x
  clear hB hb h_a h_want h_x
  have h_a := k_a
  have h_want := k_want
  have h_x := k_x
  have hB := kB
  clear kB k_a k_want k_x
  have c_a := cell_at h_a
  have hF := HF.out
  go_upto_region 6 with (fail)
  clear hF
  refine region_qt 19 (by kernel_rfl) (by kernel_rfl) fun X _ mk hmk hcl => ?_
  have c_a := mk_cell hmk h_a
  simp only [List.take_succ_cons, List.take_zero, List.drop_succ_cons, List.drop_zero]
  repeat (go_big_quiet_step ((go_at_call 31; exact (of_word z HW.out.1 HW.out.2 _).mono fun e w' ⟨he, hw⟩ => ⟨he, hcl _ _ hw⟩)))
  refine wpQuiet_nil ?_
  rintro _ ⟨x, rfl⟩
  have hb := hmk x
  clear hcl hmk c_a
  generalize mk x = w12 at hb
  have k_a := heap_below hb h_a
  have k_want := heap_below hb h_want
  have k_x := heap_below hb h_x
  have kB : Below w.heap.size w w12 := by
    have hsz := hB.size
    focus (repeat (first | (with_reducible exact Below.refl _ _) | (with_reducible assumption) | ((with_reducible refine Below.setCell ?_ ?_ _); rotate_left; (focus (first | omega | (simp; done) | (simp; omega)))) | ((with_reducible refine Below.alloc ?_ ?_ _); rotate_left; (focus (first | omega | (simp; done) | (simp; omega)))) | (with_reducible refine Below.drew ?_) | (refine below_on ?_ (by assumption))))
  have sz_w12 := kB.size
  have sl_w12 := lt_of_block k_x
  clear hB hb h_a h_want h_x
  have h_a := k_a
  have h_want := k_want
  have h_x := k_x
  have hB := kB
  clear kB k_a k_want k_x
  have c_a := cell_at h_a
  go_wp2_with fail
  refine (rright_ok z HZ.out _).mono ?_
  rintro e w13 ⟨rfl, hb⟩
  have k_a := heap_below hb h_a
  have k_want := heap_below hb h_want
  have k_x := heap_below hb h_x
  have kB : Below w.heap.size w w13 := by
    have hsz := hB.size
    focus (repeat (first | (with_reducible exact Below.refl _ _) | (with_reducible assumption) | ((with_reducible refine Below.setCell ?_ ?_ _); rotate_left; (focus (first | omega | (simp; done) | (simp; omega)))) | ((with_reducible refine Below.alloc ?_ ?_ _); rotate_left; (focus (first | omega | (simp; done) | (simp; omega)))) | (with_reducible refine Below.drew ?_) | (refine below_on ?_ (by assumption))))
  have sz_w13 := kB.size
  have sl_w13 := lt_of_block k_x
  clear hB hb h_a h_want h_x
  have h_a := k_a
  have h_want := k_want
  have h_x := k_x
  have hB := kB
  clear kB k_a k_want k_x
  have c_a := cell_at h_a
  go_wp2_with fail
  refine (from_z z HZ.out _).mono ?_
  rintro e w14 ⟨v2, rfl, hV, hb⟩
  have k_a := heap_below hb h_a
  have k_want := heap_below hb h_want
  have k_x := heap_below hb h_x
  have kB : Below w.heap.size w w14 := by
    have hsz := hB.size
    focus (repeat (first | (with_reducible exact Below.refl _ _) | (with_reducible assumption) | ((with_reducible refine Below.setCell ?_ ?_ _); rotate_left; (focus (first | omega | (simp; done) | (simp; omega)))) | ((with_reducible refine Below.alloc ?_ ?_ _); rotate_left; (focus (first | omega | (simp; done) | (simp; omega)))) | (with_reducible refine Below.drew ?_) | (refine below_on ?_ (by assumption))))
  have sz_w14 := kB.size
  have sl_w14 := lt_of_block k_x
  clear hB hb h_a h_want h_x
  have h_a := k_a
  have h_want := k_want
  have h_x := k_x
  have hB := kB
  clear kB k_a k_want k_x
  go_wp2_with fail
  refine (rsign_any z _ _ hV).mono ?_
  rintro e w15 ⟨rfl, hb⟩
  have k_a := heap_below hb h_a
  have k_want := heap_below hb h_want
  have k_x := heap_below hb h_x
  have kB : Below w.heap.size w w15 := by
    have hsz := hB.size
    focus (repeat (first | (with_reducible exact Below.refl _ _) | (with_reducible assumption) | ((with_reducible refine Below.setCell ?_ ?_ _); rotate_left; (focus (first | omega | (simp; done) | (simp; omega)))) | ((with_reducible refine Below.alloc ?_ ?_ _); rotate_left; (focus (first | omega | (simp; done) | (simp; omega)))) | (with_reducible refine Below.drew ?_) | (refine below_on ?_ (by assumption))))
  have sz_w15 := kB.size
  have sl_w15 := lt_of_block k_x
  clear hB hb h_a h_want h_x
  have h_a := k_a
  have h_want := k_want
  have h_x := k_x
  have hB := kB
  clear kB k_a k_want k_x
  clear hV
  have c_a := cell_at h_a
  go_wp2_with fail
  refine (rright_ok z HZ.out _).mono ?_
  rintro e w16 ⟨rfl, hb⟩
  have k_a := heap_below hb h_a
  have k_want := heap_below hb h_want
  have k_x := heap_below hb h_x
  have kB : Below w.heap.size w w16 := by
    have hsz := hB.size
    focus (repeat (first | (with_reducible exact Below.refl _ _) | (with_reducible assumption) | ((with_reducible refine Below.setCell ?_ ?_ _); rotate_left; (focus (first | omega | (simp; done) | (simp; omega)))) | ((with_reducible refine Below.alloc ?_ ?_ _); rotate_left; (focus (first | omega | (simp; done) | (simp; omega)))) | (with_reducible refine Below.drew ?_) | (refine below_on ?_ (by assumption))))
  have sz_w16 := kB.size
  have sl_w16 := lt_of_block k_x
  clear hB hb h_a h_want h_x
  have h_a := k_a
  have h_want := k_want
  have h_x := k_x
  have hB := kB
  clear kB k_a k_want k_x
  have c_a := cell_at h_a
  have c_x := cell_at h_x
  have c_want := cell_at h_want
  go_wp2_with fail
  refine (sign_ok z HZ.out _).mono ?_
  rintro e w17 ⟨rfl, hb⟩
  have k_a := heap_below hb h_a
  have k_want := heap_below hb h_want
  have k_x := heap_below hb h_x
  have kB : Below w.heap.size w w17 := by
    have hsz := hB.size
    focus (repeat (first | (with_reducible exact Below.refl _ _) | (with_reducible assumption) | ((with_reducible refine Below.setCell ?_ ?_ _); rotate_left; (focus (first | omega | (simp; done) | (simp; omega)))) | ((with_reducible refine Below.alloc ?_ ?_ _); rotate_left; (focus (first | omega | (simp; done) | (simp; omega)))) | (with_reducible refine Below.drew ?_) | (refine below_on ?_ (by assumption))))
  have sz_w17 := kB.size
  have sl_w17 := lt_of_block k_x
  clear hB hb h_a h_want h_x
  have h_a := k_a
  have h_want := k_want
  have h_x := k_x
  have hB := kB
  clear kB k_a k_want k_x
  have c_a := cell_at h_a
  go_wp2_with fail
  refine (check_ok z HZ.out _).mono ?_
  rintro e w18 ⟨rfl, hb⟩
  have k_a := heap_below hb h_a
  have k_want := heap_below hb h_want
  have k_x := heap_below hb h_x
  have kB : Below w.heap.size w w18 := by
    have hsz := hB.size
    focus (repeat (first | (with_reducible exact Below.refl _ _) | (with_reducible assumption) | ((with_reducible refine Below.setCell ?_ ?_ _); rotate_left; (focus (first | omega | (simp; done) | (simp; omega)))) | ((with_reducible refine Below.alloc ?_ ?_ _); rotate_left; (focus (first | omega | (simp; done) | (simp; omega)))) | (with_reducible refine Below.drew ?_) | (refine below_on ?_ (by assumption))))
  have sz_w18 := kB.size
  have sl_w18 := lt_of_block k_x
  clear hB hb h_a h_want h_x
  have h_a := k_a
  have h_want := k_want
  have h_x := k_x
  have hB := kB
  clear kB k_a k_want k_x
  go_wp2_with ((go_at_call 14; refine (num_s _ _).mono ?_; rintro e w' ⟨rfl, rfl⟩))
  refine (works_any _).mono ?_
  rintro e wz ⟨rfl, hb⟩
  have hF := below_on hB hb
  go_wp2
  go_ret
  exact ⟨rfl, hF⟩
set_option maxRecDepth 100000 in
set_option maxHeartbeats 2000000 in
theorem ofs_no1 (n z : Int) (HN : Hd (-9223372036854775808 ≤ n ∧ n ≤ 9223372036854775807)) (HNB : Hd (ab n < 2 ^ 256)) (HZ : Hd (ab z < 2 ^ 256)) (HW : Hd (¬ (-9223372036854775808 ≤ z ∧ z < 9223372036854775808))) (HF : Hd ((bits .or .u64 (bits .or .u64 (dg (ab z) 1) (dg (ab z) 2)) (dg (ab z) 3) == 0) = false)) (w : World) :
    Calls Try.prog 7 #[.int .i64 n, .agg #[.bool (ng (z)), .int .u64 (dg (ab (z)) 0), .int .u64 (dg (ab (z)) 1), .int .u64 (dg (ab (z)) 2), .int .u64 (dg (ab (z)) 3)]] w fun e w' => e = .returned (.bool true) ∧ Below w.heap.size w w' := by
  go_enter Try.func7, Try.ntmps7
  have hB := Below.refl w.heap.size w
  have hsz := hB.size
  go_upto_region 1 with (fail)
  refine abs_wp (fun W => W.heap[w.heap.size]? = some (.cells #[.bool (ng (z)), .int .u64 (dg (ab (z)) 0), .int .u64 (dg (ab (z)) 1), .int .u64 (dg (ab (z)) 2), .int .u64 (dg (ab (z)) 3)] 25 (0, 0)) ∧ Below w.heap.size w W) ⟨heap_new _ _, (by focus (repeat (first | (with_reducible exact Below.refl _ _) | (with_reducible assumption) | ((with_reducible refine Below.setCell ?_ ?_ _); rotate_left; (focus (first | omega | (simp; done) | (simp; omega)))) | ((with_reducible refine Below.alloc ?_ ?_ _); rotate_left; (focus (first | omega | (simp; done) | (simp; omega)))) | (with_reducible refine Below.drew ?_) | (refine below_on ?_ (by assumption)))))⟩ fun W1 ⟨g_a, gB⟩ => ?_
  clear hB hsz 
  have h_a := g_a
  have hB := gB
  clear gB g_a
  go_wp2_with fail
  refine (rnum_any n HN.out.1 HN.out.2 _).mono ?_
  rintro e w2 ⟨v, rfl, hV, hb⟩
  have k_a := heap_below hb h_a
  have kB : Below w.heap.size w w2 := by
    have hsz := hB.size
    focus (repeat (first | (with_reducible exact Below.refl _ _) | (with_reducible assumption) | ((with_reducible refine Below.setCell ?_ ?_ _); rotate_left; (focus (first | omega | (simp; done) | (simp; omega)))) | ((with_reducible refine Below.alloc ?_ ?_ _); rotate_left; (focus (first | omega | (simp; done) | (simp; omega)))) | (with_reducible refine Below.drew ?_) | (refine below_on ?_ (by assumption))))
  have sz_w2 := kB.size
  have sl_w2 := lt_of_block k_a
  clear hB hb h_a
  have h_a := k_a
  have hB := kB
  clear kB k_a
  go_wp2_with fail
  refine (rto_ok n HNB.out _ _ hV).mono ?_
  rintro e w3 ⟨rfl, hb⟩
  have k_a := heap_below hb h_a
  have kB : Below w.heap.size w w3 := by
    have hsz := hB.size
    focus (repeat (first | (with_reducible exact Below.refl _ _) | (with_reducible assumption) | ((with_reducible refine Below.setCell ?_ ?_ _); rotate_left; (focus (first | omega | (simp; done) | (simp; omega)))) | ((with_reducible refine Below.alloc ?_ ?_ _); rotate_left; (focus (first | omega | (simp; done) | (simp; omega)))) | (with_reducible refine Below.drew ?_) | (refine below_on ?_ (by assumption))))
  have sz_w3 := kB.size
  have sl_w3 := lt_of_block k_a
  clear hB hb h_a
  have h_a := k_a
  have hB := kB
  clear kB k_a
  clear hV
  have hsz := hB.size
  go_upto_region 2 with (fail)
  refine abs_wp (fun W => W.heap[w.heap.size]? = some (.cells #[.bool (ng (z)), .int .u64 (dg (ab (z)) 0), .int .u64 (dg (ab (z)) 1), .int .u64 (dg (ab (z)) 2), .int .u64 (dg (ab (z)) 3)] 25 (0, 0)) ∧ W.heap[w3.heap.size]? = some (.cells #[.bool (ng (n)), .int .u64 (dg (ab (n)) 0), .int .u64 (dg (ab (n)) 1), .int .u64 (dg (ab (n)) 2), .int .u64 (dg (ab (n)) 3)] 25 (0, 0)) ∧ Below w.heap.size w W) ⟨heap_old (h_a) _, heap_new _ _, (by focus (repeat (first | (with_reducible exact Below.refl _ _) | (with_reducible assumption) | ((with_reducible refine Below.setCell ?_ ?_ _); rotate_left; (focus (first | omega | (simp; done) | (simp; omega)))) | ((with_reducible refine Below.alloc ?_ ?_ _); rotate_left; (focus (first | omega | (simp; done) | (simp; omega)))) | (with_reducible refine Below.drew ?_) | (refine below_on ?_ (by assumption)))))⟩ fun W4 ⟨g_a, g_want, gB⟩ => ?_
  clear hB hsz h_a
  have h_a := g_a
  have h_want := g_want
  have hB := gB
  clear gB g_a g_want
  go_wp2_with fail
  refine (of_word n HN.out.1 (Int.lt_of_le_of_lt HN.out.2 (by decide)) _).mono ?_
  rintro e w5 ⟨rfl, hb⟩
  have k_a := heap_below hb h_a
  have k_want := heap_below hb h_want
  have kB : Below w.heap.size w w5 := by
    have hsz := hB.size
    focus (repeat (first | (with_reducible exact Below.refl _ _) | (with_reducible assumption) | ((with_reducible refine Below.setCell ?_ ?_ _); rotate_left; (focus (first | omega | (simp; done) | (simp; omega)))) | ((with_reducible refine Below.alloc ?_ ?_ _); rotate_left; (focus (first | omega | (simp; done) | (simp; omega)))) | (with_reducible refine Below.drew ?_) | (refine below_on ?_ (by assumption))))
  have sz_w5 := kB.size
  have sl_w5 := lt_of_block k_want
  clear hB hb h_a h_want
  have h_a := k_a
  have h_want := k_want
  have hB := kB
  clear kB k_a k_want
  have hsz := hB.size
  go_upto_region 3 with (fail)
  refine abs_wp (fun W => W.heap[w.heap.size]? = some (.cells #[.bool (ng (z)), .int .u64 (dg (ab (z)) 0), .int .u64 (dg (ab (z)) 1), .int .u64 (dg (ab (z)) 2), .int .u64 (dg (ab (z)) 3)] 25 (0, 0)) ∧ W.heap[w3.heap.size]? = some (.cells #[.bool (ng (n)), .int .u64 (dg (ab (n)) 0), .int .u64 (dg (ab (n)) 1), .int .u64 (dg (ab (n)) 2), .int .u64 (dg (ab (n)) 3)] 25 (0, 0)) ∧ W.heap[w5.heap.size]? = some (.cells #[.bool (ng (n)), .int .u64 (dg (ab (n)) 0), .int .u64 (dg (ab (n)) 1), .int .u64 (dg (ab (n)) 2), .int .u64 (dg (ab (n)) 3)] 25 (0, 0)) ∧ Below w.heap.size w W) ⟨heap_old (h_a) _, heap_old (h_want) _, heap_new _ _, (by focus (repeat (first | (with_reducible exact Below.refl _ _) | (with_reducible assumption) | ((with_reducible refine Below.setCell ?_ ?_ _); rotate_left; (focus (first | omega | (simp; done) | (simp; omega)))) | ((with_reducible refine Below.alloc ?_ ?_ _); rotate_left; (focus (first | omega | (simp; done) | (simp; omega)))) | (with_reducible refine Below.drew ?_) | (refine below_on ?_ (by assumption)))))⟩ fun W6 ⟨g_a, g_want, g_x, gB⟩ => ?_
  clear hB hsz h_a h_want
  have h_a := g_a
  have h_want := g_want
  have h_x := g_x
  have hB := gB
  clear gB g_a g_want g_x
  have c_x := cell_at h_x
  go_wp2_with fail
  refine (small_word n HNB.out ⟨HN.out.1, Int.lt_of_le_of_lt HN.out.2 (by decide)⟩ _).mono ?_
  rintro e w7 ⟨rfl, hb⟩
  have k_a := heap_below hb h_a
  have k_want := heap_below hb h_want
  have k_x := heap_below hb h_x
  have kB : Below w.heap.size w w7 := by
    have hsz := hB.size
    focus (repeat (first | (with_reducible exact Below.refl _ _) | (with_reducible assumption) | ((with_reducible refine Below.setCell ?_ ?_ _); rotate_left; (focus (first | omega | (simp; done) | (simp; omega)))) | ((with_reducible refine Below.alloc ?_ ?_ _); rotate_left; (focus (first | omega | (simp; done) | (simp; omega)))) | (with_reducible refine Below.drew ?_) | (refine below_on ?_ (by assumption))))
  have sz_w7 := kB.size
  have sl_w7 := lt_of_block k_x
  clear hB hb h_a h_want h_x
  have h_a := k_a
  have h_want := k_want
  have h_x := k_x
  have hB := kB
  clear kB k_a k_want k_x
  go_upto_region 4 with (fail)
  refine abs_wp (fun W => W.heap[w.heap.size]? = some (.cells #[.bool (ng (z)), .int .u64 (dg (ab (z)) 0), .int .u64 (dg (ab (z)) 1), .int .u64 (dg (ab (z)) 2), .int .u64 (dg (ab (z)) 3)] 25 (0, 0)) ∧ W.heap[w3.heap.size]? = some (.cells #[.bool (ng (n)), .int .u64 (dg (ab (n)) 0), .int .u64 (dg (ab (n)) 1), .int .u64 (dg (ab (n)) 2), .int .u64 (dg (ab (n)) 3)] 25 (0, 0)) ∧ W.heap[w5.heap.size]? = some (.cells #[.bool (ng (n)), .int .u64 (dg (ab (n)) 0), .int .u64 (dg (ab (n)) 1), .int .u64 (dg (ab (n)) 2), .int .u64 (dg (ab (n)) 3)] 25 (0, 0)) ∧ Below w.heap.size w W) ⟨h_a, h_want, h_x, (by focus (repeat (first | (with_reducible exact Below.refl _ _) | (with_reducible assumption) | ((with_reducible refine Below.setCell ?_ ?_ _); rotate_left; (focus (first | omega | (simp; done) | (simp; omega)))) | ((with_reducible refine Below.alloc ?_ ?_ _); rotate_left; (focus (first | omega | (simp; done) | (simp; omega)))) | (with_reducible refine Below.drew ?_) | (refine below_on ?_ (by assumption)))))⟩ fun W8 ⟨g_a, g_want, g_x, gB⟩ => ?_
  clear hB h_a h_want h_x
  have h_a := g_a
  have h_want := g_want
  have h_x := g_x
  have hB := gB
  clear gB g_a g_want g_x
  have c_a := cell_at h_a
  go_wp2_with fail
  refine (small_no z HZ.out HW.out _).mono ?_
  rintro e w9 ⟨rfl, hb⟩
  have k_a := heap_below hb h_a
  have k_want := heap_below hb h_want
  have k_x := heap_below hb h_x
  have kB : Below w.heap.size w w9 := by
    have hsz := hB.size
    focus (repeat (first | (with_reducible exact Below.refl _ _) | (with_reducible assumption) | ((with_reducible refine Below.setCell ?_ ?_ _); rotate_left; (focus (first | omega | (simp; done) | (simp; omega)))) | ((with_reducible refine Below.alloc ?_ ?_ _); rotate_left; (focus (first | omega | (simp; done) | (simp; omega)))) | (with_reducible refine Below.drew ?_) | (refine below_on ?_ (by assumption))))
  have sz_w9 := kB.size
  have sl_w9 := lt_of_block k_x
  clear hB hb h_a h_want h_x
  have h_a := k_a
  have h_want := k_want
  have h_x := k_x
  have hB := kB
  clear kB k_a k_want k_x
  go_upto_region 5 with (fail)
  refine abs_wp (fun W => W.heap[w.heap.size]? = some (.cells #[.bool (ng (z)), .int .u64 (dg (ab (z)) 0), .int .u64 (dg (ab (z)) 1), .int .u64 (dg (ab (z)) 2), .int .u64 (dg (ab (z)) 3)] 25 (0, 0)) ∧ W.heap[w3.heap.size]? = some (.cells #[.bool (ng (n)), .int .u64 (dg (ab (n)) 0), .int .u64 (dg (ab (n)) 1), .int .u64 (dg (ab (n)) 2), .int .u64 (dg (ab (n)) 3)] 25 (0, 0)) ∧ W.heap[w5.heap.size]? = some (.cells #[.bool (ng (n)), .int .u64 (dg (ab (n)) 0), .int .u64 (dg (ab (n)) 1), .int .u64 (dg (ab (n)) 2), .int .u64 (dg (ab (n)) 3)] 25 (0, 0)) ∧ Below w.heap.size w W) ⟨h_a, h_want, h_x, (by focus (repeat (first | (with_reducible exact Below.refl _ _) | (with_reducible assumption) | ((with_reducible refine Below.setCell ?_ ?_ _); rotate_left; (focus (first | omega | (simp; done) | (simp; omega)))) | ((with_reducible refine Below.alloc ?_ ?_ _); rotate_left; (focus (first | omega | (simp; done) | (simp; omega)))) | (with_reducible refine Below.drew ?_) | (refine below_on ?_ (by assumption)))))⟩ fun W10 ⟨g_a, g_want, g_x, gB⟩ => ?_
  clear hB h_a h_want h_x
  have h_a := g_a
  have h_want := g_want
  have h_x := g_x
  have hB := gB
  clear gB g_a g_want g_x
  have c_a := cell_at h_a
  go_wp2_with fail
  refine (rright_ok z HZ.out _).mono ?_
  rintro e w11 ⟨rfl, hb⟩
  have k_a := heap_below hb h_a
  have k_want := heap_below hb h_want
  have k_x := heap_below hb h_x
  have kB : Below w.heap.size w w11 := by
    have hsz := hB.size
    focus (repeat (first | (with_reducible exact Below.refl _ _) | (with_reducible assumption) | ((with_reducible refine Below.setCell ?_ ?_ _); rotate_left; (focus (first | omega | (simp; done) | (simp; omega)))) | ((with_reducible refine Below.alloc ?_ ?_ _); rotate_left; (focus (first | omega | (simp; done) | (simp; omega)))) | (with_reducible refine Below.drew ?_) | (refine below_on ?_ (by assumption))))
  have sz_w11 := kB.size
  have sl_w11 := lt_of_block k_x
  clear hB hb h_a h_want h_x
  have h_a := k_a
  have h_want := k_want
  have h_x := k_x
  have hB := kB
  clear kB k_a k_want k_x
  have c_a := cell_at h_a
  have hF := HF.out
  go_upto_region 6 with (fail)
  clear hF
  refine region_qt 19 (by kernel_rfl) (by kernel_rfl) fun X _ mk hmk hcl => ?_
  have c_a := mk_cell hmk h_a
  simp only [List.take_succ_cons, List.take_zero, List.drop_succ_cons, List.drop_zero]
  repeat (go_big_quiet_step (skip))
  refine wpQuiet_nil ?_
  rintro _ ⟨x, rfl⟩
  have hb := hmk x
  clear hcl hmk c_a
  generalize mk x = w12 at hb
  have k_a := heap_below hb h_a
  have k_want := heap_below hb h_want
  have k_x := heap_below hb h_x
  have kB : Below w.heap.size w w12 := by
    have hsz := hB.size
    focus (repeat (first | (with_reducible exact Below.refl _ _) | (with_reducible assumption) | ((with_reducible refine Below.setCell ?_ ?_ _); rotate_left; (focus (first | omega | (simp; done) | (simp; omega)))) | ((with_reducible refine Below.alloc ?_ ?_ _); rotate_left; (focus (first | omega | (simp; done) | (simp; omega)))) | (with_reducible refine Below.drew ?_) | (refine below_on ?_ (by assumption))))
  have sz_w12 := kB.size
  have sl_w12 := lt_of_block k_x
  clear hB hb h_a h_want h_x
  have h_a := k_a
  have h_want := k_want
  have h_x := k_x
  have hB := kB
  clear kB k_a k_want k_x
  have c_a := cell_at h_a
  go_wp2_with fail
  refine (rright_ok z HZ.out _).mono ?_
  rintro e w13 ⟨rfl, hb⟩
  have k_a := heap_below hb h_a
  have k_want := heap_below hb h_want
  have k_x := heap_below hb h_x
  have kB : Below w.heap.size w w13 := by
    have hsz := hB.size
    focus (repeat (first | (with_reducible exact Below.refl _ _) | (with_reducible assumption) | ((with_reducible refine Below.setCell ?_ ?_ _); rotate_left; (focus (first | omega | (simp; done) | (simp; omega)))) | ((with_reducible refine Below.alloc ?_ ?_ _); rotate_left; (focus (first | omega | (simp; done) | (simp; omega)))) | (with_reducible refine Below.drew ?_) | (refine below_on ?_ (by assumption))))
  have sz_w13 := kB.size
  have sl_w13 := lt_of_block k_x
  clear hB hb h_a h_want h_x
  have h_a := k_a
  have h_want := k_want
  have h_x := k_x
  have hB := kB
  clear kB k_a k_want k_x
  have c_a := cell_at h_a
  go_wp2_with fail
  refine (from_z z HZ.out _).mono ?_
  rintro e w14 ⟨v2, rfl, hV, hb⟩
  have k_a := heap_below hb h_a
  have k_want := heap_below hb h_want
  have k_x := heap_below hb h_x
  have kB : Below w.heap.size w w14 := by
    have hsz := hB.size
    focus (repeat (first | (with_reducible exact Below.refl _ _) | (with_reducible assumption) | ((with_reducible refine Below.setCell ?_ ?_ _); rotate_left; (focus (first | omega | (simp; done) | (simp; omega)))) | ((with_reducible refine Below.alloc ?_ ?_ _); rotate_left; (focus (first | omega | (simp; done) | (simp; omega)))) | (with_reducible refine Below.drew ?_) | (refine below_on ?_ (by assumption))))
  have sz_w14 := kB.size
  have sl_w14 := lt_of_block k_x
  clear hB hb h_a h_want h_x
  have h_a := k_a
  have h_want := k_want
  have h_x := k_x
  have hB := kB
  clear kB k_a k_want k_x
  go_wp2_with fail
  refine (rsign_any z _ _ hV).mono ?_
  rintro e w15 ⟨rfl, hb⟩
  have k_a := heap_below hb h_a
  have k_want := heap_below hb h_want
  have k_x := heap_below hb h_x
  have kB : Below w.heap.size w w15 := by
    have hsz := hB.size
    focus (repeat (first | (with_reducible exact Below.refl _ _) | (with_reducible assumption) | ((with_reducible refine Below.setCell ?_ ?_ _); rotate_left; (focus (first | omega | (simp; done) | (simp; omega)))) | ((with_reducible refine Below.alloc ?_ ?_ _); rotate_left; (focus (first | omega | (simp; done) | (simp; omega)))) | (with_reducible refine Below.drew ?_) | (refine below_on ?_ (by assumption))))
  have sz_w15 := kB.size
  have sl_w15 := lt_of_block k_x
  clear hB hb h_a h_want h_x
  have h_a := k_a
  have h_want := k_want
  have h_x := k_x
  have hB := kB
  clear kB k_a k_want k_x
  clear hV
  have c_a := cell_at h_a
  go_wp2_with fail
  refine (rright_ok z HZ.out _).mono ?_
  rintro e w16 ⟨rfl, hb⟩
  have k_a := heap_below hb h_a
  have k_want := heap_below hb h_want
  have k_x := heap_below hb h_x
  have kB : Below w.heap.size w w16 := by
    have hsz := hB.size
    focus (repeat (first | (with_reducible exact Below.refl _ _) | (with_reducible assumption) | ((with_reducible refine Below.setCell ?_ ?_ _); rotate_left; (focus (first | omega | (simp; done) | (simp; omega)))) | ((with_reducible refine Below.alloc ?_ ?_ _); rotate_left; (focus (first | omega | (simp; done) | (simp; omega)))) | (with_reducible refine Below.drew ?_) | (refine below_on ?_ (by assumption))))
  have sz_w16 := kB.size
  have sl_w16 := lt_of_block k_x
  clear hB hb h_a h_want h_x
  have h_a := k_a
  have h_want := k_want
  have h_x := k_x
  have hB := kB
  clear kB k_a k_want k_x
  have c_a := cell_at h_a
  have c_x := cell_at h_x
  have c_want := cell_at h_want
  go_wp2_with fail
  refine (sign_ok z HZ.out _).mono ?_
  rintro e w17 ⟨rfl, hb⟩
  have k_a := heap_below hb h_a
  have k_want := heap_below hb h_want
  have k_x := heap_below hb h_x
  have kB : Below w.heap.size w w17 := by
    have hsz := hB.size
    focus (repeat (first | (with_reducible exact Below.refl _ _) | (with_reducible assumption) | ((with_reducible refine Below.setCell ?_ ?_ _); rotate_left; (focus (first | omega | (simp; done) | (simp; omega)))) | ((with_reducible refine Below.alloc ?_ ?_ _); rotate_left; (focus (first | omega | (simp; done) | (simp; omega)))) | (with_reducible refine Below.drew ?_) | (refine below_on ?_ (by assumption))))
  have sz_w17 := kB.size
  have sl_w17 := lt_of_block k_x
  clear hB hb h_a h_want h_x
  have h_a := k_a
  have h_want := k_want
  have h_x := k_x
  have hB := kB
  clear kB k_a k_want k_x
  have c_a := cell_at h_a
  go_wp2_with fail
  refine (check_ok z HZ.out _).mono ?_
  rintro e w18 ⟨rfl, hb⟩
  have k_a := heap_below hb h_a
  have k_want := heap_below hb h_want
  have k_x := heap_below hb h_x
  have kB : Below w.heap.size w w18 := by
    have hsz := hB.size
    focus (repeat (first | (with_reducible exact Below.refl _ _) | (with_reducible assumption) | ((with_reducible refine Below.setCell ?_ ?_ _); rotate_left; (focus (first | omega | (simp; done) | (simp; omega)))) | ((with_reducible refine Below.alloc ?_ ?_ _); rotate_left; (focus (first | omega | (simp; done) | (simp; omega)))) | (with_reducible refine Below.drew ?_) | (refine below_on ?_ (by assumption))))
  have sz_w18 := kB.size
  have sl_w18 := lt_of_block k_x
  clear hB hb h_a h_want h_x
  have h_a := k_a
  have h_want := k_want
  have h_x := k_x
  have hB := kB
  clear kB k_a k_want k_x
  go_wp2_with ((go_at_call 14; refine (num_s _ _).mono ?_; rintro e w' ⟨rfl, rfl⟩))
  refine (works_any _).mono ?_
  rintro e wz ⟨rfl, hb⟩
  have hF := below_on hB hb
  go_wp2
  go_ret
  exact ⟨rfl, hF⟩
set_option maxRecDepth 100000 in
set_option maxHeartbeats 2000000 in
theorem ofs_no2 (n z : Int) (HN : Hd (-9223372036854775808 ≤ n ∧ n ≤ 9223372036854775807)) (HNB : Hd (ab n < 2 ^ 256)) (HZ : Hd (ab z < 2 ^ 256)) (HW : Hd (¬ (-9223372036854775808 ≤ z ∧ z < 9223372036854775808))) (HF : Hd ((bits .or .u64 (bits .or .u64 (dg (ab z) 1) (dg (ab z) 2)) (dg (ab z) 3) == 0) = true ∧ decide (dg (ab z) 0 < 9223372036854775808) = false ∧ ng z = false)) (w : World) :
    Calls Try.prog 7 #[.int .i64 n, .agg #[.bool (ng (z)), .int .u64 (dg (ab (z)) 0), .int .u64 (dg (ab (z)) 1), .int .u64 (dg (ab (z)) 2), .int .u64 (dg (ab (z)) 3)]] w fun e w' => e = .returned (.bool true) ∧ Below w.heap.size w w' := by
  go_enter Try.func7, Try.ntmps7
  have hB := Below.refl w.heap.size w
  have hsz := hB.size
  go_upto_region 1 with (fail)
  refine abs_wp (fun W => W.heap[w.heap.size]? = some (.cells #[.bool (ng (z)), .int .u64 (dg (ab (z)) 0), .int .u64 (dg (ab (z)) 1), .int .u64 (dg (ab (z)) 2), .int .u64 (dg (ab (z)) 3)] 25 (0, 0)) ∧ Below w.heap.size w W) ⟨heap_new _ _, (by focus (repeat (first | (with_reducible exact Below.refl _ _) | (with_reducible assumption) | ((with_reducible refine Below.setCell ?_ ?_ _); rotate_left; (focus (first | omega | (simp; done) | (simp; omega)))) | ((with_reducible refine Below.alloc ?_ ?_ _); rotate_left; (focus (first | omega | (simp; done) | (simp; omega)))) | (with_reducible refine Below.drew ?_) | (refine below_on ?_ (by assumption)))))⟩ fun W1 ⟨g_a, gB⟩ => ?_
  clear hB hsz 
  have h_a := g_a
  have hB := gB
  clear gB g_a
  go_wp2_with fail
  refine (rnum_any n HN.out.1 HN.out.2 _).mono ?_
  rintro e w2 ⟨v, rfl, hV, hb⟩
  have k_a := heap_below hb h_a
  have kB : Below w.heap.size w w2 := by
    have hsz := hB.size
    focus (repeat (first | (with_reducible exact Below.refl _ _) | (with_reducible assumption) | ((with_reducible refine Below.setCell ?_ ?_ _); rotate_left; (focus (first | omega | (simp; done) | (simp; omega)))) | ((with_reducible refine Below.alloc ?_ ?_ _); rotate_left; (focus (first | omega | (simp; done) | (simp; omega)))) | (with_reducible refine Below.drew ?_) | (refine below_on ?_ (by assumption))))
  have sz_w2 := kB.size
  have sl_w2 := lt_of_block k_a
  clear hB hb h_a
  have h_a := k_a
  have hB := kB
  clear kB k_a
  go_wp2_with fail
  refine (rto_ok n HNB.out _ _ hV).mono ?_
  rintro e w3 ⟨rfl, hb⟩
  have k_a := heap_below hb h_a
  have kB : Below w.heap.size w w3 := by
    have hsz := hB.size
    focus (repeat (first | (with_reducible exact Below.refl _ _) | (with_reducible assumption) | ((with_reducible refine Below.setCell ?_ ?_ _); rotate_left; (focus (first | omega | (simp; done) | (simp; omega)))) | ((with_reducible refine Below.alloc ?_ ?_ _); rotate_left; (focus (first | omega | (simp; done) | (simp; omega)))) | (with_reducible refine Below.drew ?_) | (refine below_on ?_ (by assumption))))
  have sz_w3 := kB.size
  have sl_w3 := lt_of_block k_a
  clear hB hb h_a
  have h_a := k_a
  have hB := kB
  clear kB k_a
  clear hV
  have hsz := hB.size
  go_upto_region 2 with (fail)
  refine abs_wp (fun W => W.heap[w.heap.size]? = some (.cells #[.bool (ng (z)), .int .u64 (dg (ab (z)) 0), .int .u64 (dg (ab (z)) 1), .int .u64 (dg (ab (z)) 2), .int .u64 (dg (ab (z)) 3)] 25 (0, 0)) ∧ W.heap[w3.heap.size]? = some (.cells #[.bool (ng (n)), .int .u64 (dg (ab (n)) 0), .int .u64 (dg (ab (n)) 1), .int .u64 (dg (ab (n)) 2), .int .u64 (dg (ab (n)) 3)] 25 (0, 0)) ∧ Below w.heap.size w W) ⟨heap_old (h_a) _, heap_new _ _, (by focus (repeat (first | (with_reducible exact Below.refl _ _) | (with_reducible assumption) | ((with_reducible refine Below.setCell ?_ ?_ _); rotate_left; (focus (first | omega | (simp; done) | (simp; omega)))) | ((with_reducible refine Below.alloc ?_ ?_ _); rotate_left; (focus (first | omega | (simp; done) | (simp; omega)))) | (with_reducible refine Below.drew ?_) | (refine below_on ?_ (by assumption)))))⟩ fun W4 ⟨g_a, g_want, gB⟩ => ?_
  clear hB hsz h_a
  have h_a := g_a
  have h_want := g_want
  have hB := gB
  clear gB g_a g_want
  go_wp2_with fail
  refine (of_word n HN.out.1 (Int.lt_of_le_of_lt HN.out.2 (by decide)) _).mono ?_
  rintro e w5 ⟨rfl, hb⟩
  have k_a := heap_below hb h_a
  have k_want := heap_below hb h_want
  have kB : Below w.heap.size w w5 := by
    have hsz := hB.size
    focus (repeat (first | (with_reducible exact Below.refl _ _) | (with_reducible assumption) | ((with_reducible refine Below.setCell ?_ ?_ _); rotate_left; (focus (first | omega | (simp; done) | (simp; omega)))) | ((with_reducible refine Below.alloc ?_ ?_ _); rotate_left; (focus (first | omega | (simp; done) | (simp; omega)))) | (with_reducible refine Below.drew ?_) | (refine below_on ?_ (by assumption))))
  have sz_w5 := kB.size
  have sl_w5 := lt_of_block k_want
  clear hB hb h_a h_want
  have h_a := k_a
  have h_want := k_want
  have hB := kB
  clear kB k_a k_want
  have hsz := hB.size
  go_upto_region 3 with (fail)
  refine abs_wp (fun W => W.heap[w.heap.size]? = some (.cells #[.bool (ng (z)), .int .u64 (dg (ab (z)) 0), .int .u64 (dg (ab (z)) 1), .int .u64 (dg (ab (z)) 2), .int .u64 (dg (ab (z)) 3)] 25 (0, 0)) ∧ W.heap[w3.heap.size]? = some (.cells #[.bool (ng (n)), .int .u64 (dg (ab (n)) 0), .int .u64 (dg (ab (n)) 1), .int .u64 (dg (ab (n)) 2), .int .u64 (dg (ab (n)) 3)] 25 (0, 0)) ∧ W.heap[w5.heap.size]? = some (.cells #[.bool (ng (n)), .int .u64 (dg (ab (n)) 0), .int .u64 (dg (ab (n)) 1), .int .u64 (dg (ab (n)) 2), .int .u64 (dg (ab (n)) 3)] 25 (0, 0)) ∧ Below w.heap.size w W) ⟨heap_old (h_a) _, heap_old (h_want) _, heap_new _ _, (by focus (repeat (first | (with_reducible exact Below.refl _ _) | (with_reducible assumption) | ((with_reducible refine Below.setCell ?_ ?_ _); rotate_left; (focus (first | omega | (simp; done) | (simp; omega)))) | ((with_reducible refine Below.alloc ?_ ?_ _); rotate_left; (focus (first | omega | (simp; done) | (simp; omega)))) | (with_reducible refine Below.drew ?_) | (refine below_on ?_ (by assumption)))))⟩ fun W6 ⟨g_a, g_want, g_x, gB⟩ => ?_
  clear hB hsz h_a h_want
  have h_a := g_a
  have h_want := g_want
  have h_x := g_x
  have hB := gB
  clear gB g_a g_want g_x
  have c_x := cell_at h_x
  go_wp2_with fail
  refine (small_word n HNB.out ⟨HN.out.1, Int.lt_of_le_of_lt HN.out.2 (by decide)⟩ _).mono ?_
  rintro e w7 ⟨rfl, hb⟩
  have k_a := heap_below hb h_a
  have k_want := heap_below hb h_want
  have k_x := heap_below hb h_x
  have kB : Below w.heap.size w w7 := by
    have hsz := hB.size
    focus (repeat (first | (with_reducible exact Below.refl _ _) | (with_reducible assumption) | ((with_reducible refine Below.setCell ?_ ?_ _); rotate_left; (focus (first | omega | (simp; done) | (simp; omega)))) | ((with_reducible refine Below.alloc ?_ ?_ _); rotate_left; (focus (first | omega | (simp; done) | (simp; omega)))) | (with_reducible refine Below.drew ?_) | (refine below_on ?_ (by assumption))))
  have sz_w7 := kB.size
  have sl_w7 := lt_of_block k_x
  clear hB hb h_a h_want h_x
  have h_a := k_a
  have h_want := k_want
  have h_x := k_x
  have hB := kB
  clear kB k_a k_want k_x
  go_upto_region 4 with (fail)
  refine abs_wp (fun W => W.heap[w.heap.size]? = some (.cells #[.bool (ng (z)), .int .u64 (dg (ab (z)) 0), .int .u64 (dg (ab (z)) 1), .int .u64 (dg (ab (z)) 2), .int .u64 (dg (ab (z)) 3)] 25 (0, 0)) ∧ W.heap[w3.heap.size]? = some (.cells #[.bool (ng (n)), .int .u64 (dg (ab (n)) 0), .int .u64 (dg (ab (n)) 1), .int .u64 (dg (ab (n)) 2), .int .u64 (dg (ab (n)) 3)] 25 (0, 0)) ∧ W.heap[w5.heap.size]? = some (.cells #[.bool (ng (n)), .int .u64 (dg (ab (n)) 0), .int .u64 (dg (ab (n)) 1), .int .u64 (dg (ab (n)) 2), .int .u64 (dg (ab (n)) 3)] 25 (0, 0)) ∧ Below w.heap.size w W) ⟨h_a, h_want, h_x, (by focus (repeat (first | (with_reducible exact Below.refl _ _) | (with_reducible assumption) | ((with_reducible refine Below.setCell ?_ ?_ _); rotate_left; (focus (first | omega | (simp; done) | (simp; omega)))) | ((with_reducible refine Below.alloc ?_ ?_ _); rotate_left; (focus (first | omega | (simp; done) | (simp; omega)))) | (with_reducible refine Below.drew ?_) | (refine below_on ?_ (by assumption)))))⟩ fun W8 ⟨g_a, g_want, g_x, gB⟩ => ?_
  clear hB h_a h_want h_x
  have h_a := g_a
  have h_want := g_want
  have h_x := g_x
  have hB := gB
  clear gB g_a g_want g_x
  have c_a := cell_at h_a
  go_wp2_with fail
  refine (small_no z HZ.out HW.out _).mono ?_
  rintro e w9 ⟨rfl, hb⟩
  have k_a := heap_below hb h_a
  have k_want := heap_below hb h_want
  have k_x := heap_below hb h_x
  have kB : Below w.heap.size w w9 := by
    have hsz := hB.size
    focus (repeat (first | (with_reducible exact Below.refl _ _) | (with_reducible assumption) | ((with_reducible refine Below.setCell ?_ ?_ _); rotate_left; (focus (first | omega | (simp; done) | (simp; omega)))) | ((with_reducible refine Below.alloc ?_ ?_ _); rotate_left; (focus (first | omega | (simp; done) | (simp; omega)))) | (with_reducible refine Below.drew ?_) | (refine below_on ?_ (by assumption))))
  have sz_w9 := kB.size
  have sl_w9 := lt_of_block k_x
  clear hB hb h_a h_want h_x
  have h_a := k_a
  have h_want := k_want
  have h_x := k_x
  have hB := kB
  clear kB k_a k_want k_x
  go_upto_region 5 with (fail)
  refine abs_wp (fun W => W.heap[w.heap.size]? = some (.cells #[.bool (ng (z)), .int .u64 (dg (ab (z)) 0), .int .u64 (dg (ab (z)) 1), .int .u64 (dg (ab (z)) 2), .int .u64 (dg (ab (z)) 3)] 25 (0, 0)) ∧ W.heap[w3.heap.size]? = some (.cells #[.bool (ng (n)), .int .u64 (dg (ab (n)) 0), .int .u64 (dg (ab (n)) 1), .int .u64 (dg (ab (n)) 2), .int .u64 (dg (ab (n)) 3)] 25 (0, 0)) ∧ W.heap[w5.heap.size]? = some (.cells #[.bool (ng (n)), .int .u64 (dg (ab (n)) 0), .int .u64 (dg (ab (n)) 1), .int .u64 (dg (ab (n)) 2), .int .u64 (dg (ab (n)) 3)] 25 (0, 0)) ∧ Below w.heap.size w W) ⟨h_a, h_want, h_x, (by focus (repeat (first | (with_reducible exact Below.refl _ _) | (with_reducible assumption) | ((with_reducible refine Below.setCell ?_ ?_ _); rotate_left; (focus (first | omega | (simp; done) | (simp; omega)))) | ((with_reducible refine Below.alloc ?_ ?_ _); rotate_left; (focus (first | omega | (simp; done) | (simp; omega)))) | (with_reducible refine Below.drew ?_) | (refine below_on ?_ (by assumption)))))⟩ fun W10 ⟨g_a, g_want, g_x, gB⟩ => ?_
  clear hB h_a h_want h_x
  have h_a := g_a
  have h_want := g_want
  have h_x := g_x
  have hB := gB
  clear gB g_a g_want g_x
  have c_a := cell_at h_a
  go_wp2_with fail
  refine (rright_ok z HZ.out _).mono ?_
  rintro e w11 ⟨rfl, hb⟩
  have k_a := heap_below hb h_a
  have k_want := heap_below hb h_want
  have k_x := heap_below hb h_x
  have kB : Below w.heap.size w w11 := by
    have hsz := hB.size
    focus (repeat (first | (with_reducible exact Below.refl _ _) | (with_reducible assumption) | ((with_reducible refine Below.setCell ?_ ?_ _); rotate_left; (focus (first | omega | (simp; done) | (simp; omega)))) | ((with_reducible refine Below.alloc ?_ ?_ _); rotate_left; (focus (first | omega | (simp; done) | (simp; omega)))) | (with_reducible refine Below.drew ?_) | (refine below_on ?_ (by assumption))))
  have sz_w11 := kB.size
  have sl_w11 := lt_of_block k_x
  clear hB hb h_a h_want h_x
  have h_a := k_a
  have h_want := k_want
  have h_x := k_x
  have hB := kB
  clear kB k_a k_want k_x
  have c_a := cell_at h_a
  have hF := HF.out
  go_upto_region 6 with (fail)
  clear hF
  refine region_qt 19 (by kernel_rfl) (by kernel_rfl) fun X _ mk hmk hcl => ?_
  have c_a := mk_cell hmk h_a
  simp only [List.take_succ_cons, List.take_zero, List.drop_succ_cons, List.drop_zero]
  repeat (go_big_quiet_step (skip))
  refine wpQuiet_nil ?_
  rintro _ ⟨x, rfl⟩
  have hb := hmk x
  clear hcl hmk c_a
  generalize mk x = w12 at hb
  have k_a := heap_below hb h_a
  have k_want := heap_below hb h_want
  have k_x := heap_below hb h_x
  have kB : Below w.heap.size w w12 := by
    have hsz := hB.size
    focus (repeat (first | (with_reducible exact Below.refl _ _) | (with_reducible assumption) | ((with_reducible refine Below.setCell ?_ ?_ _); rotate_left; (focus (first | omega | (simp; done) | (simp; omega)))) | ((with_reducible refine Below.alloc ?_ ?_ _); rotate_left; (focus (first | omega | (simp; done) | (simp; omega)))) | (with_reducible refine Below.drew ?_) | (refine below_on ?_ (by assumption))))
  have sz_w12 := kB.size
  have sl_w12 := lt_of_block k_x
  clear hB hb h_a h_want h_x
  have h_a := k_a
  have h_want := k_want
  have h_x := k_x
  have hB := kB
  clear kB k_a k_want k_x
  have c_a := cell_at h_a
  go_wp2_with fail
  refine (rright_ok z HZ.out _).mono ?_
  rintro e w13 ⟨rfl, hb⟩
  have k_a := heap_below hb h_a
  have k_want := heap_below hb h_want
  have k_x := heap_below hb h_x
  have kB : Below w.heap.size w w13 := by
    have hsz := hB.size
    focus (repeat (first | (with_reducible exact Below.refl _ _) | (with_reducible assumption) | ((with_reducible refine Below.setCell ?_ ?_ _); rotate_left; (focus (first | omega | (simp; done) | (simp; omega)))) | ((with_reducible refine Below.alloc ?_ ?_ _); rotate_left; (focus (first | omega | (simp; done) | (simp; omega)))) | (with_reducible refine Below.drew ?_) | (refine below_on ?_ (by assumption))))
  have sz_w13 := kB.size
  have sl_w13 := lt_of_block k_x
  clear hB hb h_a h_want h_x
  have h_a := k_a
  have h_want := k_want
  have h_x := k_x
  have hB := kB
  clear kB k_a k_want k_x
  have c_a := cell_at h_a
  go_wp2_with fail
  refine (from_z z HZ.out _).mono ?_
  rintro e w14 ⟨v2, rfl, hV, hb⟩
  have k_a := heap_below hb h_a
  have k_want := heap_below hb h_want
  have k_x := heap_below hb h_x
  have kB : Below w.heap.size w w14 := by
    have hsz := hB.size
    focus (repeat (first | (with_reducible exact Below.refl _ _) | (with_reducible assumption) | ((with_reducible refine Below.setCell ?_ ?_ _); rotate_left; (focus (first | omega | (simp; done) | (simp; omega)))) | ((with_reducible refine Below.alloc ?_ ?_ _); rotate_left; (focus (first | omega | (simp; done) | (simp; omega)))) | (with_reducible refine Below.drew ?_) | (refine below_on ?_ (by assumption))))
  have sz_w14 := kB.size
  have sl_w14 := lt_of_block k_x
  clear hB hb h_a h_want h_x
  have h_a := k_a
  have h_want := k_want
  have h_x := k_x
  have hB := kB
  clear kB k_a k_want k_x
  go_wp2_with fail
  refine (rsign_any z _ _ hV).mono ?_
  rintro e w15 ⟨rfl, hb⟩
  have k_a := heap_below hb h_a
  have k_want := heap_below hb h_want
  have k_x := heap_below hb h_x
  have kB : Below w.heap.size w w15 := by
    have hsz := hB.size
    focus (repeat (first | (with_reducible exact Below.refl _ _) | (with_reducible assumption) | ((with_reducible refine Below.setCell ?_ ?_ _); rotate_left; (focus (first | omega | (simp; done) | (simp; omega)))) | ((with_reducible refine Below.alloc ?_ ?_ _); rotate_left; (focus (first | omega | (simp; done) | (simp; omega)))) | (with_reducible refine Below.drew ?_) | (refine below_on ?_ (by assumption))))
  have sz_w15 := kB.size
  have sl_w15 := lt_of_block k_x
  clear hB hb h_a h_want h_x
  have h_a := k_a
  have h_want := k_want
  have h_x := k_x
  have hB := kB
  clear kB k_a k_want k_x
  clear hV
  have c_a := cell_at h_a
  go_wp2_with fail
  refine (rright_ok z HZ.out _).mono ?_
  rintro e w16 ⟨rfl, hb⟩
  have k_a := heap_below hb h_a
  have k_want := heap_below hb h_want
  have k_x := heap_below hb h_x
  have kB : Below w.heap.size w w16 := by
    have hsz := hB.size
    focus (repeat (first | (with_reducible exact Below.refl _ _) | (with_reducible assumption) | ((with_reducible refine Below.setCell ?_ ?_ _); rotate_left; (focus (first | omega | (simp; done) | (simp; omega)))) | ((with_reducible refine Below.alloc ?_ ?_ _); rotate_left; (focus (first | omega | (simp; done) | (simp; omega)))) | (with_reducible refine Below.drew ?_) | (refine below_on ?_ (by assumption))))
  have sz_w16 := kB.size
  have sl_w16 := lt_of_block k_x
  clear hB hb h_a h_want h_x
  have h_a := k_a
  have h_want := k_want
  have h_x := k_x
  have hB := kB
  clear kB k_a k_want k_x
  have c_a := cell_at h_a
  have c_x := cell_at h_x
  have c_want := cell_at h_want
  go_wp2_with fail
  refine (sign_ok z HZ.out _).mono ?_
  rintro e w17 ⟨rfl, hb⟩
  have k_a := heap_below hb h_a
  have k_want := heap_below hb h_want
  have k_x := heap_below hb h_x
  have kB : Below w.heap.size w w17 := by
    have hsz := hB.size
    focus (repeat (first | (with_reducible exact Below.refl _ _) | (with_reducible assumption) | ((with_reducible refine Below.setCell ?_ ?_ _); rotate_left; (focus (first | omega | (simp; done) | (simp; omega)))) | ((with_reducible refine Below.alloc ?_ ?_ _); rotate_left; (focus (first | omega | (simp; done) | (simp; omega)))) | (with_reducible refine Below.drew ?_) | (refine below_on ?_ (by assumption))))
  have sz_w17 := kB.size
  have sl_w17 := lt_of_block k_x
  clear hB hb h_a h_want h_x
  have h_a := k_a
  have h_want := k_want
  have h_x := k_x
  have hB := kB
  clear kB k_a k_want k_x
  have c_a := cell_at h_a
  go_wp2_with fail
  refine (check_ok z HZ.out _).mono ?_
  rintro e w18 ⟨rfl, hb⟩
  have k_a := heap_below hb h_a
  have k_want := heap_below hb h_want
  have k_x := heap_below hb h_x
  have kB : Below w.heap.size w w18 := by
    have hsz := hB.size
    focus (repeat (first | (with_reducible exact Below.refl _ _) | (with_reducible assumption) | ((with_reducible refine Below.setCell ?_ ?_ _); rotate_left; (focus (first | omega | (simp; done) | (simp; omega)))) | ((with_reducible refine Below.alloc ?_ ?_ _); rotate_left; (focus (first | omega | (simp; done) | (simp; omega)))) | (with_reducible refine Below.drew ?_) | (refine below_on ?_ (by assumption))))
  have sz_w18 := kB.size
  have sl_w18 := lt_of_block k_x
  clear hB hb h_a h_want h_x
  have h_a := k_a
  have h_want := k_want
  have h_x := k_x
  have hB := kB
  clear kB k_a k_want k_x
  go_wp2_with ((go_at_call 14; refine (num_s _ _).mono ?_; rintro e w' ⟨rfl, rfl⟩))
  refine (works_any _).mono ?_
  rintro e wz ⟨rfl, hb⟩
  have hF := below_on hB hb
  go_wp2
  go_ret
  exact ⟨rfl, hF⟩
set_option maxRecDepth 100000 in
set_option maxHeartbeats 2000000 in
theorem ofs_no3 (n z : Int) (HN : Hd (-9223372036854775808 ≤ n ∧ n ≤ 9223372036854775807)) (HNB : Hd (ab n < 2 ^ 256)) (HZ : Hd (ab z < 2 ^ 256)) (HW : Hd (¬ (-9223372036854775808 ≤ z ∧ z < 9223372036854775808))) (HF : Hd ((bits .or .u64 (bits .or .u64 (dg (ab z) 1) (dg (ab z) 2)) (dg (ab z) 3) == 0) = true ∧ decide (dg (ab z) 0 < 9223372036854775808) = false ∧ ng z = true ∧ (dg (ab z) 0 == 9223372036854775808) = false)) (w : World) :
    Calls Try.prog 7 #[.int .i64 n, .agg #[.bool (ng (z)), .int .u64 (dg (ab (z)) 0), .int .u64 (dg (ab (z)) 1), .int .u64 (dg (ab (z)) 2), .int .u64 (dg (ab (z)) 3)]] w fun e w' => e = .returned (.bool true) ∧ Below w.heap.size w w' := by
  go_enter Try.func7, Try.ntmps7
  have hB := Below.refl w.heap.size w
  have hsz := hB.size
  go_upto_region 1 with (fail)
  refine abs_wp (fun W => W.heap[w.heap.size]? = some (.cells #[.bool (ng (z)), .int .u64 (dg (ab (z)) 0), .int .u64 (dg (ab (z)) 1), .int .u64 (dg (ab (z)) 2), .int .u64 (dg (ab (z)) 3)] 25 (0, 0)) ∧ Below w.heap.size w W) ⟨heap_new _ _, (by focus (repeat (first | (with_reducible exact Below.refl _ _) | (with_reducible assumption) | ((with_reducible refine Below.setCell ?_ ?_ _); rotate_left; (focus (first | omega | (simp; done) | (simp; omega)))) | ((with_reducible refine Below.alloc ?_ ?_ _); rotate_left; (focus (first | omega | (simp; done) | (simp; omega)))) | (with_reducible refine Below.drew ?_) | (refine below_on ?_ (by assumption)))))⟩ fun W1 ⟨g_a, gB⟩ => ?_
  clear hB hsz 
  have h_a := g_a
  have hB := gB
  clear gB g_a
  go_wp2_with fail
  refine (rnum_any n HN.out.1 HN.out.2 _).mono ?_
  rintro e w2 ⟨v, rfl, hV, hb⟩
  have k_a := heap_below hb h_a
  have kB : Below w.heap.size w w2 := by
    have hsz := hB.size
    focus (repeat (first | (with_reducible exact Below.refl _ _) | (with_reducible assumption) | ((with_reducible refine Below.setCell ?_ ?_ _); rotate_left; (focus (first | omega | (simp; done) | (simp; omega)))) | ((with_reducible refine Below.alloc ?_ ?_ _); rotate_left; (focus (first | omega | (simp; done) | (simp; omega)))) | (with_reducible refine Below.drew ?_) | (refine below_on ?_ (by assumption))))
  have sz_w2 := kB.size
  have sl_w2 := lt_of_block k_a
  clear hB hb h_a
  have h_a := k_a
  have hB := kB
  clear kB k_a
  go_wp2_with fail
  refine (rto_ok n HNB.out _ _ hV).mono ?_
  rintro e w3 ⟨rfl, hb⟩
  have k_a := heap_below hb h_a
  have kB : Below w.heap.size w w3 := by
    have hsz := hB.size
    focus (repeat (first | (with_reducible exact Below.refl _ _) | (with_reducible assumption) | ((with_reducible refine Below.setCell ?_ ?_ _); rotate_left; (focus (first | omega | (simp; done) | (simp; omega)))) | ((with_reducible refine Below.alloc ?_ ?_ _); rotate_left; (focus (first | omega | (simp; done) | (simp; omega)))) | (with_reducible refine Below.drew ?_) | (refine below_on ?_ (by assumption))))
  have sz_w3 := kB.size
  have sl_w3 := lt_of_block k_a
  clear hB hb h_a
  have h_a := k_a
  have hB := kB
  clear kB k_a
  clear hV
  have hsz := hB.size
  go_upto_region 2 with (fail)
  refine abs_wp (fun W => W.heap[w.heap.size]? = some (.cells #[.bool (ng (z)), .int .u64 (dg (ab (z)) 0), .int .u64 (dg (ab (z)) 1), .int .u64 (dg (ab (z)) 2), .int .u64 (dg (ab (z)) 3)] 25 (0, 0)) ∧ W.heap[w3.heap.size]? = some (.cells #[.bool (ng (n)), .int .u64 (dg (ab (n)) 0), .int .u64 (dg (ab (n)) 1), .int .u64 (dg (ab (n)) 2), .int .u64 (dg (ab (n)) 3)] 25 (0, 0)) ∧ Below w.heap.size w W) ⟨heap_old (h_a) _, heap_new _ _, (by focus (repeat (first | (with_reducible exact Below.refl _ _) | (with_reducible assumption) | ((with_reducible refine Below.setCell ?_ ?_ _); rotate_left; (focus (first | omega | (simp; done) | (simp; omega)))) | ((with_reducible refine Below.alloc ?_ ?_ _); rotate_left; (focus (first | omega | (simp; done) | (simp; omega)))) | (with_reducible refine Below.drew ?_) | (refine below_on ?_ (by assumption)))))⟩ fun W4 ⟨g_a, g_want, gB⟩ => ?_
  clear hB hsz h_a
  have h_a := g_a
  have h_want := g_want
  have hB := gB
  clear gB g_a g_want
  go_wp2_with fail
  refine (of_word n HN.out.1 (Int.lt_of_le_of_lt HN.out.2 (by decide)) _).mono ?_
  rintro e w5 ⟨rfl, hb⟩
  have k_a := heap_below hb h_a
  have k_want := heap_below hb h_want
  have kB : Below w.heap.size w w5 := by
    have hsz := hB.size
    focus (repeat (first | (with_reducible exact Below.refl _ _) | (with_reducible assumption) | ((with_reducible refine Below.setCell ?_ ?_ _); rotate_left; (focus (first | omega | (simp; done) | (simp; omega)))) | ((with_reducible refine Below.alloc ?_ ?_ _); rotate_left; (focus (first | omega | (simp; done) | (simp; omega)))) | (with_reducible refine Below.drew ?_) | (refine below_on ?_ (by assumption))))
  have sz_w5 := kB.size
  have sl_w5 := lt_of_block k_want
  clear hB hb h_a h_want
  have h_a := k_a
  have h_want := k_want
  have hB := kB
  clear kB k_a k_want
  have hsz := hB.size
  go_upto_region 3 with (fail)
  refine abs_wp (fun W => W.heap[w.heap.size]? = some (.cells #[.bool (ng (z)), .int .u64 (dg (ab (z)) 0), .int .u64 (dg (ab (z)) 1), .int .u64 (dg (ab (z)) 2), .int .u64 (dg (ab (z)) 3)] 25 (0, 0)) ∧ W.heap[w3.heap.size]? = some (.cells #[.bool (ng (n)), .int .u64 (dg (ab (n)) 0), .int .u64 (dg (ab (n)) 1), .int .u64 (dg (ab (n)) 2), .int .u64 (dg (ab (n)) 3)] 25 (0, 0)) ∧ W.heap[w5.heap.size]? = some (.cells #[.bool (ng (n)), .int .u64 (dg (ab (n)) 0), .int .u64 (dg (ab (n)) 1), .int .u64 (dg (ab (n)) 2), .int .u64 (dg (ab (n)) 3)] 25 (0, 0)) ∧ Below w.heap.size w W) ⟨heap_old (h_a) _, heap_old (h_want) _, heap_new _ _, (by focus (repeat (first | (with_reducible exact Below.refl _ _) | (with_reducible assumption) | ((with_reducible refine Below.setCell ?_ ?_ _); rotate_left; (focus (first | omega | (simp; done) | (simp; omega)))) | ((with_reducible refine Below.alloc ?_ ?_ _); rotate_left; (focus (first | omega | (simp; done) | (simp; omega)))) | (with_reducible refine Below.drew ?_) | (refine below_on ?_ (by assumption)))))⟩ fun W6 ⟨g_a, g_want, g_x, gB⟩ => ?_
  clear hB hsz h_a h_want
  have h_a := g_a
  have h_want := g_want
  have h_x := g_x
  have hB := gB
  clear gB g_a g_want g_x
  have c_x := cell_at h_x
  go_wp2_with fail
  refine (small_word n HNB.out ⟨HN.out.1, Int.lt_of_le_of_lt HN.out.2 (by decide)⟩ _).mono ?_
  rintro e w7 ⟨rfl, hb⟩
  have k_a := heap_below hb h_a
  have k_want := heap_below hb h_want
  have k_x := heap_below hb h_x
  have kB : Below w.heap.size w w7 := by
    have hsz := hB.size
    focus (repeat (first | (with_reducible exact Below.refl _ _) | (with_reducible assumption) | ((with_reducible refine Below.setCell ?_ ?_ _); rotate_left; (focus (first | omega | (simp; done) | (simp; omega)))) | ((with_reducible refine Below.alloc ?_ ?_ _); rotate_left; (focus (first | omega | (simp; done) | (simp; omega)))) | (with_reducible refine Below.drew ?_) | (refine below_on ?_ (by assumption))))
  have sz_w7 := kB.size
  have sl_w7 := lt_of_block k_x
  clear hB hb h_a h_want h_x
  have h_a := k_a
  have h_want := k_want
  have h_x := k_x
  have hB := kB
  clear kB k_a k_want k_x
  go_upto_region 4 with (fail)
  refine abs_wp (fun W => W.heap[w.heap.size]? = some (.cells #[.bool (ng (z)), .int .u64 (dg (ab (z)) 0), .int .u64 (dg (ab (z)) 1), .int .u64 (dg (ab (z)) 2), .int .u64 (dg (ab (z)) 3)] 25 (0, 0)) ∧ W.heap[w3.heap.size]? = some (.cells #[.bool (ng (n)), .int .u64 (dg (ab (n)) 0), .int .u64 (dg (ab (n)) 1), .int .u64 (dg (ab (n)) 2), .int .u64 (dg (ab (n)) 3)] 25 (0, 0)) ∧ W.heap[w5.heap.size]? = some (.cells #[.bool (ng (n)), .int .u64 (dg (ab (n)) 0), .int .u64 (dg (ab (n)) 1), .int .u64 (dg (ab (n)) 2), .int .u64 (dg (ab (n)) 3)] 25 (0, 0)) ∧ Below w.heap.size w W) ⟨h_a, h_want, h_x, (by focus (repeat (first | (with_reducible exact Below.refl _ _) | (with_reducible assumption) | ((with_reducible refine Below.setCell ?_ ?_ _); rotate_left; (focus (first | omega | (simp; done) | (simp; omega)))) | ((with_reducible refine Below.alloc ?_ ?_ _); rotate_left; (focus (first | omega | (simp; done) | (simp; omega)))) | (with_reducible refine Below.drew ?_) | (refine below_on ?_ (by assumption)))))⟩ fun W8 ⟨g_a, g_want, g_x, gB⟩ => ?_
  clear hB h_a h_want h_x
  have h_a := g_a
  have h_want := g_want
  have h_x := g_x
  have hB := gB
  clear gB g_a g_want g_x
  have c_a := cell_at h_a
  go_wp2_with fail
  refine (small_no z HZ.out HW.out _).mono ?_
  rintro e w9 ⟨rfl, hb⟩
  have k_a := heap_below hb h_a
  have k_want := heap_below hb h_want
  have k_x := heap_below hb h_x
  have kB : Below w.heap.size w w9 := by
    have hsz := hB.size
    focus (repeat (first | (with_reducible exact Below.refl _ _) | (with_reducible assumption) | ((with_reducible refine Below.setCell ?_ ?_ _); rotate_left; (focus (first | omega | (simp; done) | (simp; omega)))) | ((with_reducible refine Below.alloc ?_ ?_ _); rotate_left; (focus (first | omega | (simp; done) | (simp; omega)))) | (with_reducible refine Below.drew ?_) | (refine below_on ?_ (by assumption))))
  have sz_w9 := kB.size
  have sl_w9 := lt_of_block k_x
  clear hB hb h_a h_want h_x
  have h_a := k_a
  have h_want := k_want
  have h_x := k_x
  have hB := kB
  clear kB k_a k_want k_x
  go_upto_region 5 with (fail)
  refine abs_wp (fun W => W.heap[w.heap.size]? = some (.cells #[.bool (ng (z)), .int .u64 (dg (ab (z)) 0), .int .u64 (dg (ab (z)) 1), .int .u64 (dg (ab (z)) 2), .int .u64 (dg (ab (z)) 3)] 25 (0, 0)) ∧ W.heap[w3.heap.size]? = some (.cells #[.bool (ng (n)), .int .u64 (dg (ab (n)) 0), .int .u64 (dg (ab (n)) 1), .int .u64 (dg (ab (n)) 2), .int .u64 (dg (ab (n)) 3)] 25 (0, 0)) ∧ W.heap[w5.heap.size]? = some (.cells #[.bool (ng (n)), .int .u64 (dg (ab (n)) 0), .int .u64 (dg (ab (n)) 1), .int .u64 (dg (ab (n)) 2), .int .u64 (dg (ab (n)) 3)] 25 (0, 0)) ∧ Below w.heap.size w W) ⟨h_a, h_want, h_x, (by focus (repeat (first | (with_reducible exact Below.refl _ _) | (with_reducible assumption) | ((with_reducible refine Below.setCell ?_ ?_ _); rotate_left; (focus (first | omega | (simp; done) | (simp; omega)))) | ((with_reducible refine Below.alloc ?_ ?_ _); rotate_left; (focus (first | omega | (simp; done) | (simp; omega)))) | (with_reducible refine Below.drew ?_) | (refine below_on ?_ (by assumption)))))⟩ fun W10 ⟨g_a, g_want, g_x, gB⟩ => ?_
  clear hB h_a h_want h_x
  have h_a := g_a
  have h_want := g_want
  have h_x := g_x
  have hB := gB
  clear gB g_a g_want g_x
  have c_a := cell_at h_a
  go_wp2_with fail
  refine (rright_ok z HZ.out _).mono ?_
  rintro e w11 ⟨rfl, hb⟩
  have k_a := heap_below hb h_a
  have k_want := heap_below hb h_want
  have k_x := heap_below hb h_x
  have kB : Below w.heap.size w w11 := by
    have hsz := hB.size
    focus (repeat (first | (with_reducible exact Below.refl _ _) | (with_reducible assumption) | ((with_reducible refine Below.setCell ?_ ?_ _); rotate_left; (focus (first | omega | (simp; done) | (simp; omega)))) | ((with_reducible refine Below.alloc ?_ ?_ _); rotate_left; (focus (first | omega | (simp; done) | (simp; omega)))) | (with_reducible refine Below.drew ?_) | (refine below_on ?_ (by assumption))))
  have sz_w11 := kB.size
  have sl_w11 := lt_of_block k_x
  clear hB hb h_a h_want h_x
  have h_a := k_a
  have h_want := k_want
  have h_x := k_x
  have hB := kB
  clear kB k_a k_want k_x
  have c_a := cell_at h_a
  have hF := HF.out
  go_upto_region 6 with (fail)
  clear hF
  refine region_qt 19 (by kernel_rfl) (by kernel_rfl) fun X _ mk hmk hcl => ?_
  have c_a := mk_cell hmk h_a
  simp only [List.take_succ_cons, List.take_zero, List.drop_succ_cons, List.drop_zero]
  repeat (go_big_quiet_step (skip))
  refine wpQuiet_nil ?_
  rintro _ ⟨x, rfl⟩
  have hb := hmk x
  clear hcl hmk c_a
  generalize mk x = w12 at hb
  have k_a := heap_below hb h_a
  have k_want := heap_below hb h_want
  have k_x := heap_below hb h_x
  have kB : Below w.heap.size w w12 := by
    have hsz := hB.size
    focus (repeat (first | (with_reducible exact Below.refl _ _) | (with_reducible assumption) | ((with_reducible refine Below.setCell ?_ ?_ _); rotate_left; (focus (first | omega | (simp; done) | (simp; omega)))) | ((with_reducible refine Below.alloc ?_ ?_ _); rotate_left; (focus (first | omega | (simp; done) | (simp; omega)))) | (with_reducible refine Below.drew ?_) | (refine below_on ?_ (by assumption))))
  have sz_w12 := kB.size
  have sl_w12 := lt_of_block k_x
  clear hB hb h_a h_want h_x
  have h_a := k_a
  have h_want := k_want
  have h_x := k_x
  have hB := kB
  clear kB k_a k_want k_x
  have c_a := cell_at h_a
  go_wp2_with fail
  refine (rright_ok z HZ.out _).mono ?_
  rintro e w13 ⟨rfl, hb⟩
  have k_a := heap_below hb h_a
  have k_want := heap_below hb h_want
  have k_x := heap_below hb h_x
  have kB : Below w.heap.size w w13 := by
    have hsz := hB.size
    focus (repeat (first | (with_reducible exact Below.refl _ _) | (with_reducible assumption) | ((with_reducible refine Below.setCell ?_ ?_ _); rotate_left; (focus (first | omega | (simp; done) | (simp; omega)))) | ((with_reducible refine Below.alloc ?_ ?_ _); rotate_left; (focus (first | omega | (simp; done) | (simp; omega)))) | (with_reducible refine Below.drew ?_) | (refine below_on ?_ (by assumption))))
  have sz_w13 := kB.size
  have sl_w13 := lt_of_block k_x
  clear hB hb h_a h_want h_x
  have h_a := k_a
  have h_want := k_want
  have h_x := k_x
  have hB := kB
  clear kB k_a k_want k_x
  have c_a := cell_at h_a
  go_wp2_with fail
  refine (from_z z HZ.out _).mono ?_
  rintro e w14 ⟨v2, rfl, hV, hb⟩
  have k_a := heap_below hb h_a
  have k_want := heap_below hb h_want
  have k_x := heap_below hb h_x
  have kB : Below w.heap.size w w14 := by
    have hsz := hB.size
    focus (repeat (first | (with_reducible exact Below.refl _ _) | (with_reducible assumption) | ((with_reducible refine Below.setCell ?_ ?_ _); rotate_left; (focus (first | omega | (simp; done) | (simp; omega)))) | ((with_reducible refine Below.alloc ?_ ?_ _); rotate_left; (focus (first | omega | (simp; done) | (simp; omega)))) | (with_reducible refine Below.drew ?_) | (refine below_on ?_ (by assumption))))
  have sz_w14 := kB.size
  have sl_w14 := lt_of_block k_x
  clear hB hb h_a h_want h_x
  have h_a := k_a
  have h_want := k_want
  have h_x := k_x
  have hB := kB
  clear kB k_a k_want k_x
  go_wp2_with fail
  refine (rsign_any z _ _ hV).mono ?_
  rintro e w15 ⟨rfl, hb⟩
  have k_a := heap_below hb h_a
  have k_want := heap_below hb h_want
  have k_x := heap_below hb h_x
  have kB : Below w.heap.size w w15 := by
    have hsz := hB.size
    focus (repeat (first | (with_reducible exact Below.refl _ _) | (with_reducible assumption) | ((with_reducible refine Below.setCell ?_ ?_ _); rotate_left; (focus (first | omega | (simp; done) | (simp; omega)))) | ((with_reducible refine Below.alloc ?_ ?_ _); rotate_left; (focus (first | omega | (simp; done) | (simp; omega)))) | (with_reducible refine Below.drew ?_) | (refine below_on ?_ (by assumption))))
  have sz_w15 := kB.size
  have sl_w15 := lt_of_block k_x
  clear hB hb h_a h_want h_x
  have h_a := k_a
  have h_want := k_want
  have h_x := k_x
  have hB := kB
  clear kB k_a k_want k_x
  clear hV
  have c_a := cell_at h_a
  go_wp2_with fail
  refine (rright_ok z HZ.out _).mono ?_
  rintro e w16 ⟨rfl, hb⟩
  have k_a := heap_below hb h_a
  have k_want := heap_below hb h_want
  have k_x := heap_below hb h_x
  have kB : Below w.heap.size w w16 := by
    have hsz := hB.size
    focus (repeat (first | (with_reducible exact Below.refl _ _) | (with_reducible assumption) | ((with_reducible refine Below.setCell ?_ ?_ _); rotate_left; (focus (first | omega | (simp; done) | (simp; omega)))) | ((with_reducible refine Below.alloc ?_ ?_ _); rotate_left; (focus (first | omega | (simp; done) | (simp; omega)))) | (with_reducible refine Below.drew ?_) | (refine below_on ?_ (by assumption))))
  have sz_w16 := kB.size
  have sl_w16 := lt_of_block k_x
  clear hB hb h_a h_want h_x
  have h_a := k_a
  have h_want := k_want
  have h_x := k_x
  have hB := kB
  clear kB k_a k_want k_x
  have c_a := cell_at h_a
  have c_x := cell_at h_x
  have c_want := cell_at h_want
  go_wp2_with fail
  refine (sign_ok z HZ.out _).mono ?_
  rintro e w17 ⟨rfl, hb⟩
  have k_a := heap_below hb h_a
  have k_want := heap_below hb h_want
  have k_x := heap_below hb h_x
  have kB : Below w.heap.size w w17 := by
    have hsz := hB.size
    focus (repeat (first | (with_reducible exact Below.refl _ _) | (with_reducible assumption) | ((with_reducible refine Below.setCell ?_ ?_ _); rotate_left; (focus (first | omega | (simp; done) | (simp; omega)))) | ((with_reducible refine Below.alloc ?_ ?_ _); rotate_left; (focus (first | omega | (simp; done) | (simp; omega)))) | (with_reducible refine Below.drew ?_) | (refine below_on ?_ (by assumption))))
  have sz_w17 := kB.size
  have sl_w17 := lt_of_block k_x
  clear hB hb h_a h_want h_x
  have h_a := k_a
  have h_want := k_want
  have h_x := k_x
  have hB := kB
  clear kB k_a k_want k_x
  have c_a := cell_at h_a
  go_wp2_with fail
  refine (check_ok z HZ.out _).mono ?_
  rintro e w18 ⟨rfl, hb⟩
  have k_a := heap_below hb h_a
  have k_want := heap_below hb h_want
  have k_x := heap_below hb h_x
  have kB : Below w.heap.size w w18 := by
    have hsz := hB.size
    focus (repeat (first | (with_reducible exact Below.refl _ _) | (with_reducible assumption) | ((with_reducible refine Below.setCell ?_ ?_ _); rotate_left; (focus (first | omega | (simp; done) | (simp; omega)))) | ((with_reducible refine Below.alloc ?_ ?_ _); rotate_left; (focus (first | omega | (simp; done) | (simp; omega)))) | (with_reducible refine Below.drew ?_) | (refine below_on ?_ (by assumption))))
  have sz_w18 := kB.size
  have sl_w18 := lt_of_block k_x
  clear hB hb h_a h_want h_x
  have h_a := k_a
  have h_want := k_want
  have h_x := k_x
  have hB := kB
  clear kB k_a k_want k_x
  go_wp2_with ((go_at_call 14; refine (num_s _ _).mono ?_; rintro e w' ⟨rfl, rfl⟩))
  refine (works_any _).mono ?_
  rintro e wz ⟨rfl, hb⟩
  have hF := below_on hB hb
  go_wp2
  go_ret
  exact ⟨rfl, hF⟩
set_option maxRecDepth 100000 in
set_option maxHeartbeats 2000000 in
theorem ofs_bad (n : Int) (HN : Hd (-9223372036854775808 ≤ n ∧ n ≤ 9223372036854775807)) (HNB : Hd (ab n < 2 ^ 256)) (w : World) :
    Calls Try.prog 7 #[.int .i64 n, .agg #[.bool true, .int .u64 0, .int .u64 0, .int .u64 0, .int .u64 0]] w fun e w' => e = .returned (.bool true) ∧ Below w.heap.size w w' := by
  go_enter Try.func7, Try.ntmps7
  have hB := Below.refl w.heap.size w
  have hsz := hB.size
  go_upto_region 1 with (fail)
  refine abs_wp (fun W => W.heap[w.heap.size]? = some (.cells #[.bool true, .int .u64 0, .int .u64 0, .int .u64 0, .int .u64 0] 25 (0, 0)) ∧ Below w.heap.size w W) ⟨heap_new _ _, (by focus (repeat (first | (with_reducible exact Below.refl _ _) | (with_reducible assumption) | ((with_reducible refine Below.setCell ?_ ?_ _); rotate_left; (focus (first | omega | (simp; done) | (simp; omega)))) | ((with_reducible refine Below.alloc ?_ ?_ _); rotate_left; (focus (first | omega | (simp; done) | (simp; omega)))) | (with_reducible refine Below.drew ?_) | (refine below_on ?_ (by assumption)))))⟩ fun W1 ⟨g_a, gB⟩ => ?_
  clear hB hsz 
  have h_a := g_a
  have hB := gB
  clear gB g_a
  go_wp2_with fail
  refine (rnum_any n HN.out.1 HN.out.2 _).mono ?_
  rintro e w2 ⟨v, rfl, hV, hb⟩
  have k_a := heap_below hb h_a
  have kB : Below w.heap.size w w2 := by
    have hsz := hB.size
    focus (repeat (first | (with_reducible exact Below.refl _ _) | (with_reducible assumption) | ((with_reducible refine Below.setCell ?_ ?_ _); rotate_left; (focus (first | omega | (simp; done) | (simp; omega)))) | ((with_reducible refine Below.alloc ?_ ?_ _); rotate_left; (focus (first | omega | (simp; done) | (simp; omega)))) | (with_reducible refine Below.drew ?_) | (refine below_on ?_ (by assumption))))
  have sz_w2 := kB.size
  have sl_w2 := lt_of_block k_a
  clear hB hb h_a
  have h_a := k_a
  have hB := kB
  clear kB k_a
  go_wp2_with fail
  refine (rto_ok n HNB.out _ _ hV).mono ?_
  rintro e w3 ⟨rfl, hb⟩
  have k_a := heap_below hb h_a
  have kB : Below w.heap.size w w3 := by
    have hsz := hB.size
    focus (repeat (first | (with_reducible exact Below.refl _ _) | (with_reducible assumption) | ((with_reducible refine Below.setCell ?_ ?_ _); rotate_left; (focus (first | omega | (simp; done) | (simp; omega)))) | ((with_reducible refine Below.alloc ?_ ?_ _); rotate_left; (focus (first | omega | (simp; done) | (simp; omega)))) | (with_reducible refine Below.drew ?_) | (refine below_on ?_ (by assumption))))
  have sz_w3 := kB.size
  have sl_w3 := lt_of_block k_a
  clear hB hb h_a
  have h_a := k_a
  have hB := kB
  clear kB k_a
  clear hV
  have hsz := hB.size
  go_upto_region 2 with (fail)
  refine abs_wp (fun W => W.heap[w.heap.size]? = some (.cells #[.bool true, .int .u64 0, .int .u64 0, .int .u64 0, .int .u64 0] 25 (0, 0)) ∧ W.heap[w3.heap.size]? = some (.cells #[.bool (ng (n)), .int .u64 (dg (ab (n)) 0), .int .u64 (dg (ab (n)) 1), .int .u64 (dg (ab (n)) 2), .int .u64 (dg (ab (n)) 3)] 25 (0, 0)) ∧ Below w.heap.size w W) ⟨heap_old (h_a) _, heap_new _ _, (by focus (repeat (first | (with_reducible exact Below.refl _ _) | (with_reducible assumption) | ((with_reducible refine Below.setCell ?_ ?_ _); rotate_left; (focus (first | omega | (simp; done) | (simp; omega)))) | ((with_reducible refine Below.alloc ?_ ?_ _); rotate_left; (focus (first | omega | (simp; done) | (simp; omega)))) | (with_reducible refine Below.drew ?_) | (refine below_on ?_ (by assumption)))))⟩ fun W4 ⟨g_a, g_want, gB⟩ => ?_
  clear hB hsz h_a
  have h_a := g_a
  have h_want := g_want
  have hB := gB
  clear gB g_a g_want
  go_wp2_with fail
  refine (of_word n HN.out.1 (Int.lt_of_le_of_lt HN.out.2 (by decide)) _).mono ?_
  rintro e w5 ⟨rfl, hb⟩
  have k_a := heap_below hb h_a
  have k_want := heap_below hb h_want
  have kB : Below w.heap.size w w5 := by
    have hsz := hB.size
    focus (repeat (first | (with_reducible exact Below.refl _ _) | (with_reducible assumption) | ((with_reducible refine Below.setCell ?_ ?_ _); rotate_left; (focus (first | omega | (simp; done) | (simp; omega)))) | ((with_reducible refine Below.alloc ?_ ?_ _); rotate_left; (focus (first | omega | (simp; done) | (simp; omega)))) | (with_reducible refine Below.drew ?_) | (refine below_on ?_ (by assumption))))
  have sz_w5 := kB.size
  have sl_w5 := lt_of_block k_want
  clear hB hb h_a h_want
  have h_a := k_a
  have h_want := k_want
  have hB := kB
  clear kB k_a k_want
  have hsz := hB.size
  go_upto_region 3 with (fail)
  refine abs_wp (fun W => W.heap[w.heap.size]? = some (.cells #[.bool true, .int .u64 0, .int .u64 0, .int .u64 0, .int .u64 0] 25 (0, 0)) ∧ W.heap[w3.heap.size]? = some (.cells #[.bool (ng (n)), .int .u64 (dg (ab (n)) 0), .int .u64 (dg (ab (n)) 1), .int .u64 (dg (ab (n)) 2), .int .u64 (dg (ab (n)) 3)] 25 (0, 0)) ∧ W.heap[w5.heap.size]? = some (.cells #[.bool (ng (n)), .int .u64 (dg (ab (n)) 0), .int .u64 (dg (ab (n)) 1), .int .u64 (dg (ab (n)) 2), .int .u64 (dg (ab (n)) 3)] 25 (0, 0)) ∧ Below w.heap.size w W) ⟨heap_old (h_a) _, heap_old (h_want) _, heap_new _ _, (by focus (repeat (first | (with_reducible exact Below.refl _ _) | (with_reducible assumption) | ((with_reducible refine Below.setCell ?_ ?_ _); rotate_left; (focus (first | omega | (simp; done) | (simp; omega)))) | ((with_reducible refine Below.alloc ?_ ?_ _); rotate_left; (focus (first | omega | (simp; done) | (simp; omega)))) | (with_reducible refine Below.drew ?_) | (refine below_on ?_ (by assumption)))))⟩ fun W6 ⟨g_a, g_want, g_x, gB⟩ => ?_
  clear hB hsz h_a h_want
  have h_a := g_a
  have h_want := g_want
  have h_x := g_x
  have hB := gB
  clear gB g_a g_want g_x
  have c_x := cell_at h_x
  go_wp2_with fail
  refine (small_word n HNB.out ⟨HN.out.1, Int.lt_of_le_of_lt HN.out.2 (by decide)⟩ _).mono ?_
  rintro e w7 ⟨rfl, hb⟩
  have k_a := heap_below hb h_a
  have k_want := heap_below hb h_want
  have k_x := heap_below hb h_x
  have kB : Below w.heap.size w w7 := by
    have hsz := hB.size
    focus (repeat (first | (with_reducible exact Below.refl _ _) | (with_reducible assumption) | ((with_reducible refine Below.setCell ?_ ?_ _); rotate_left; (focus (first | omega | (simp; done) | (simp; omega)))) | ((with_reducible refine Below.alloc ?_ ?_ _); rotate_left; (focus (first | omega | (simp; done) | (simp; omega)))) | (with_reducible refine Below.drew ?_) | (refine below_on ?_ (by assumption))))
  have sz_w7 := kB.size
  have sl_w7 := lt_of_block k_x
  clear hB hb h_a h_want h_x
  have h_a := k_a
  have h_want := k_want
  have h_x := k_x
  have hB := kB
  clear kB k_a k_want k_x
  go_upto_region 4 with (fail)
  refine abs_wp (fun W => W.heap[w.heap.size]? = some (.cells #[.bool true, .int .u64 0, .int .u64 0, .int .u64 0, .int .u64 0] 25 (0, 0)) ∧ W.heap[w3.heap.size]? = some (.cells #[.bool (ng (n)), .int .u64 (dg (ab (n)) 0), .int .u64 (dg (ab (n)) 1), .int .u64 (dg (ab (n)) 2), .int .u64 (dg (ab (n)) 3)] 25 (0, 0)) ∧ W.heap[w5.heap.size]? = some (.cells #[.bool (ng (n)), .int .u64 (dg (ab (n)) 0), .int .u64 (dg (ab (n)) 1), .int .u64 (dg (ab (n)) 2), .int .u64 (dg (ab (n)) 3)] 25 (0, 0)) ∧ Below w.heap.size w W) ⟨h_a, h_want, h_x, (by focus (repeat (first | (with_reducible exact Below.refl _ _) | (with_reducible assumption) | ((with_reducible refine Below.setCell ?_ ?_ _); rotate_left; (focus (first | omega | (simp; done) | (simp; omega)))) | ((with_reducible refine Below.alloc ?_ ?_ _); rotate_left; (focus (first | omega | (simp; done) | (simp; omega)))) | (with_reducible refine Below.drew ?_) | (refine below_on ?_ (by assumption)))))⟩ fun W8 ⟨g_a, g_want, g_x, gB⟩ => ?_
  clear hB h_a h_want h_x
  have h_a := g_a
  have h_want := g_want
  have h_x := g_x
  have hB := gB
  clear gB g_a g_want g_x
  have c_a := cell_at h_a
  go_wp2_with fail
  refine (small_bad0 _).mono ?_
  rintro e w9 ⟨rfl, hb⟩
  have k_a := heap_below hb h_a
  have k_want := heap_below hb h_want
  have k_x := heap_below hb h_x
  have kB : Below w.heap.size w w9 := by
    have hsz := hB.size
    focus (repeat (first | (with_reducible exact Below.refl _ _) | (with_reducible assumption) | ((with_reducible refine Below.setCell ?_ ?_ _); rotate_left; (focus (first | omega | (simp; done) | (simp; omega)))) | ((with_reducible refine Below.alloc ?_ ?_ _); rotate_left; (focus (first | omega | (simp; done) | (simp; omega)))) | (with_reducible refine Below.drew ?_) | (refine below_on ?_ (by assumption))))
  have sz_w9 := kB.size
  have sl_w9 := lt_of_block k_x
  clear hB hb h_a h_want h_x
  have h_a := k_a
  have h_want := k_want
  have h_x := k_x
  have hB := kB
  clear kB k_a k_want k_x
  go_upto_region 5 with (fail)
  refine abs_wp (fun W => W.heap[w.heap.size]? = some (.cells #[.bool true, .int .u64 0, .int .u64 0, .int .u64 0, .int .u64 0] 25 (0, 0)) ∧ W.heap[w3.heap.size]? = some (.cells #[.bool (ng (n)), .int .u64 (dg (ab (n)) 0), .int .u64 (dg (ab (n)) 1), .int .u64 (dg (ab (n)) 2), .int .u64 (dg (ab (n)) 3)] 25 (0, 0)) ∧ W.heap[w5.heap.size]? = some (.cells #[.bool (ng (n)), .int .u64 (dg (ab (n)) 0), .int .u64 (dg (ab (n)) 1), .int .u64 (dg (ab (n)) 2), .int .u64 (dg (ab (n)) 3)] 25 (0, 0)) ∧ Below w.heap.size w W) ⟨h_a, h_want, h_x, (by focus (repeat (first | (with_reducible exact Below.refl _ _) | (with_reducible assumption) | ((with_reducible refine Below.setCell ?_ ?_ _); rotate_left; (focus (first | omega | (simp; done) | (simp; omega)))) | ((with_reducible refine Below.alloc ?_ ?_ _); rotate_left; (focus (first | omega | (simp; done) | (simp; omega)))) | (with_reducible refine Below.drew ?_) | (refine below_on ?_ (by assumption)))))⟩ fun W10 ⟨g_a, g_want, g_x, gB⟩ => ?_
  clear hB h_a h_want h_x
  have h_a := g_a
  have h_want := g_want
  have h_x := g_x
  have hB := gB
  clear gB g_a g_want g_x
  have c_a := cell_at h_a
  go_wp2_with fail
  refine (rright_bad0 _).mono ?_
  rintro e w11 ⟨rfl, hb⟩
  have k_a := heap_below hb h_a
  have k_want := heap_below hb h_want
  have k_x := heap_below hb h_x
  have kB : Below w.heap.size w w11 := by
    have hsz := hB.size
    focus (repeat (first | (with_reducible exact Below.refl _ _) | (with_reducible assumption) | ((with_reducible refine Below.setCell ?_ ?_ _); rotate_left; (focus (first | omega | (simp; done) | (simp; omega)))) | ((with_reducible refine Below.alloc ?_ ?_ _); rotate_left; (focus (first | omega | (simp; done) | (simp; omega)))) | (with_reducible refine Below.drew ?_) | (refine below_on ?_ (by assumption))))
  have sz_w11 := kB.size
  have sl_w11 := lt_of_block k_x
  clear hB hb h_a h_want h_x
  have h_a := k_a
  have h_want := k_want
  have h_x := k_x
  have hB := kB
  clear kB k_a k_want k_x
  have c_a := cell_at h_a
  go_upto_region 6 with (fail)
  refine region_qt 19 (by kernel_rfl) (by kernel_rfl) fun X _ mk hmk hcl => ?_
  have c_a := mk_cell hmk h_a
  simp only [List.take_succ_cons, List.take_zero, List.drop_succ_cons, List.drop_zero]
  repeat (go_big_quiet_step (skip))
  refine wpQuiet_nil ?_
  rintro _ ⟨x, rfl⟩
  have hb := hmk x
  clear hcl hmk c_a
  generalize mk x = w12 at hb
  have k_a := heap_below hb h_a
  have k_want := heap_below hb h_want
  have k_x := heap_below hb h_x
  have kB : Below w.heap.size w w12 := by
    have hsz := hB.size
    focus (repeat (first | (with_reducible exact Below.refl _ _) | (with_reducible assumption) | ((with_reducible refine Below.setCell ?_ ?_ _); rotate_left; (focus (first | omega | (simp; done) | (simp; omega)))) | ((with_reducible refine Below.alloc ?_ ?_ _); rotate_left; (focus (first | omega | (simp; done) | (simp; omega)))) | (with_reducible refine Below.drew ?_) | (refine below_on ?_ (by assumption))))
  have sz_w12 := kB.size
  have sl_w12 := lt_of_block k_x
  clear hB hb h_a h_want h_x
  have h_a := k_a
  have h_want := k_want
  have h_x := k_x
  have hB := kB
  clear kB k_a k_want k_x
  have c_a := cell_at h_a
  go_wp2_with fail
  refine (rright_bad0 _).mono ?_
  rintro e w13 ⟨rfl, hb⟩
  have k_a := heap_below hb h_a
  have k_want := heap_below hb h_want
  have k_x := heap_below hb h_x
  have kB : Below w.heap.size w w13 := by
    have hsz := hB.size
    focus (repeat (first | (with_reducible exact Below.refl _ _) | (with_reducible assumption) | ((with_reducible refine Below.setCell ?_ ?_ _); rotate_left; (focus (first | omega | (simp; done) | (simp; omega)))) | ((with_reducible refine Below.alloc ?_ ?_ _); rotate_left; (focus (first | omega | (simp; done) | (simp; omega)))) | (with_reducible refine Below.drew ?_) | (refine below_on ?_ (by assumption))))
  have sz_w13 := kB.size
  have sl_w13 := lt_of_block k_x
  clear hB hb h_a h_want h_x
  have h_a := k_a
  have h_want := k_want
  have h_x := k_x
  have hB := kB
  clear kB k_a k_want k_x
  have c_a := cell_at h_a
  go_wp2_with fail
  refine (rright_bad0 _).mono ?_
  rintro e w14 ⟨rfl, hb⟩
  have k_a := heap_below hb h_a
  have k_want := heap_below hb h_want
  have k_x := heap_below hb h_x
  have kB : Below w.heap.size w w14 := by
    have hsz := hB.size
    focus (repeat (first | (with_reducible exact Below.refl _ _) | (with_reducible assumption) | ((with_reducible refine Below.setCell ?_ ?_ _); rotate_left; (focus (first | omega | (simp; done) | (simp; omega)))) | ((with_reducible refine Below.alloc ?_ ?_ _); rotate_left; (focus (first | omega | (simp; done) | (simp; omega)))) | (with_reducible refine Below.drew ?_) | (refine below_on ?_ (by assumption))))
  have sz_w14 := kB.size
  have sl_w14 := lt_of_block k_x
  clear hB hb h_a h_want h_x
  have h_a := k_a
  have h_want := k_want
  have h_x := k_x
  have hB := kB
  clear kB k_a k_want k_x
  have c_a := cell_at h_a
  have c_x := cell_at h_x
  have c_want := cell_at h_want
  go_wp2_with fail
  refine (sign_bad0 _).mono ?_
  rintro e w15 ⟨rfl, hb⟩
  have k_a := heap_below hb h_a
  have k_want := heap_below hb h_want
  have k_x := heap_below hb h_x
  have kB : Below w.heap.size w w15 := by
    have hsz := hB.size
    focus (repeat (first | (with_reducible exact Below.refl _ _) | (with_reducible assumption) | ((with_reducible refine Below.setCell ?_ ?_ _); rotate_left; (focus (first | omega | (simp; done) | (simp; omega)))) | ((with_reducible refine Below.alloc ?_ ?_ _); rotate_left; (focus (first | omega | (simp; done) | (simp; omega)))) | (with_reducible refine Below.drew ?_) | (refine below_on ?_ (by assumption))))
  have sz_w15 := kB.size
  have sl_w15 := lt_of_block k_x
  clear hB hb h_a h_want h_x
  have h_a := k_a
  have h_want := k_want
  have h_x := k_x
  have hB := kB
  clear kB k_a k_want k_x
  have c_a := cell_at h_a
  go_wp2_with fail
  refine (check_bad0 _).mono ?_
  rintro e w16 ⟨rfl, hb⟩
  have k_a := heap_below hb h_a
  have k_want := heap_below hb h_want
  have k_x := heap_below hb h_x
  have kB : Below w.heap.size w w16 := by
    have hsz := hB.size
    focus (repeat (first | (with_reducible exact Below.refl _ _) | (with_reducible assumption) | ((with_reducible refine Below.setCell ?_ ?_ _); rotate_left; (focus (first | omega | (simp; done) | (simp; omega)))) | ((with_reducible refine Below.alloc ?_ ?_ _); rotate_left; (focus (first | omega | (simp; done) | (simp; omega)))) | (with_reducible refine Below.drew ?_) | (refine below_on ?_ (by assumption))))
  have sz_w16 := kB.size
  have sl_w16 := lt_of_block k_x
  clear hB hb h_a h_want h_x
  have h_a := k_a
  have h_want := k_want
  have h_x := k_x
  have hB := kB
  clear kB k_a k_want k_x
  go_wp2_with ((go_at_call 14; refine (num_s _ _).mono ?_; rintro e w' ⟨rfl, rfl⟩))
  refine (works_any _).mono ?_
  rintro e wz ⟨rfl, hb⟩
  have hF := below_on hB hb
  go_wp2
  go_ret
  exact ⟨rfl, hF⟩
end Go.Proofs.Yteibcklcegkbcaa
