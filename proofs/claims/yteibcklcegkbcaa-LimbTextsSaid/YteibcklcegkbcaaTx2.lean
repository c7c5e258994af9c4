/-
  LimbTexts: the paths put together. Conditions stand in each theorem.
-/
import Derived.Test.YteibcklcegkbcaaRt8
import Derived.Test.YteibcklcegkbcaaOr1
namespace Go.Proofs.Yteibcklcegkbcaa
open Go.RowKit Go.BigFrame

theorem text_bad0 (w : World) : Calls Try.prog 20 #[.agg #[.bool true, .int .u64 0, .int .u64 0, .int .u64 0, .int .u64 0]] w fun e w' => e = .returned (.tuple #[.string ⟨#[]⟩, .int .i64 2]) ∧ Below w.heap.size w w' := by
  have h := text_bad w
  simp only [dg_zero] at h
  exact h
theorem rright_bad0 (w : World) : Calls Try.prog 13 #[.agg #[.bool true, .int .u64 0, .int .u64 0, .int .u64 0, .int .u64 0]] w fun e w' => e = .returned (.bool false) ∧ Below w.heap.size w w' := by
  have h := rright_bad w
  simp only [dg_zero] at h
  exact h
theorem parse_v (s : ByteArray) (hs : s.size ≤ 200) (V E : Int) (hV : parseV (strB s) = V) (hE : parseE (strB s) = E) (w : World) :
    Calls Try.prog 21 #[.string s] w fun e w' => e = .returned (.tuple #[.agg #[.bool (ng (V)), .int .u64 (dg (ab (V)) 0), .int .u64 (dg (ab (V)) 1), .int .u64 (dg (ab (V)) 2), .int .u64 (dg (ab (V)) 3)], .int .i64 E]) ∧ Below w.heap.size w w' := by
  subst hV
  subst hE
  exact parse_any s (by omega) w
theorem rparse_v (s : ByteArray) (hs : s.size ≤ 200) (V E : Int) (hV : parseV (strB s) = V) (hE : parseE (strB s) = E) (w : World) :
    Calls Try.prog 22 #[.string s] w fun e w' => ∃ v, e = .returned (.tuple #[v, .int .i64 E]) ∧ BigAt w' v V ∧ Below w.heap.size w w' := by
  subst hV
  subst hE
  exact rparse_any s hs w
set_option maxRecDepth 100000 in
set_option maxHeartbeats 2000000 in
theorem texts_long (s : ByteArray) (hlen : decide ((s.size : Int) > 200) = true) (p : Bool × Nat) (w : World) :
    Calls Try.prog 4 #[.agg #[.bool (p.1), .int .u64 (dg (p.2) 0), .int .u64 (dg (p.2) 1), .int .u64 (dg (p.2) 2), .int .u64 (dg (p.2) 3)], .string s] w fun e w' => e = .returned (.bool true) ∧ Below w.heap.size w w' := by
  go_enter Try.func4, Try.ntmps4
  have hB := Below.refl w.heap.size w
  go_wp2_with fail
  refine (works_any _).mono ?_
  rintro e wz ⟨rfl, hb⟩
  have hF : Below w.heap.size w wz := below_on (by focus (repeat (first | (with_reducible exact Below.refl _ _) | (with_reducible assumption) | ((with_reducible refine Below.setCell ?_ ?_ _); rotate_left; (focus (first | omega | (simp; done) | (simp; omega)))) | ((with_reducible refine Below.alloc ?_ ?_ _); rotate_left; (focus (first | omega | (simp; done) | (simp; omega)))) | (with_reducible refine Below.drew ?_) | (refine below_on ?_ (by assumption))))) hb
  go_wp2
  go_ret
  exact ⟨rfl, hF⟩
set_option maxRecDepth 100000 in
set_option maxHeartbeats 2000000 in
theorem texts_ok (z : Int) (HZ : Hd (ab z < 2 ^ 256)) (s : ByteArray) (HS : Hd (s.size ≤ 200)) (V E : Int) (HV : Hd (parseV (strB s) = V)) (HE : Hd (parseE (strB s) = E)) (HVB : Hd (ab V < 2 ^ 256)) (w : World) :
    Calls Try.prog 4 #[.agg #[.bool (ng (z)), .int .u64 (dg (ab (z)) 0), .int .u64 (dg (ab (z)) 1), .int .u64 (dg (ab (z)) 2), .int .u64 (dg (ab (z)) 3)], .string s] w fun e w' => e = .returned (.bool true) ∧ Below w.heap.size w w' := by
  have hlen : decide ((s.size : Int) > 200) = false := by have h := HS.out; simp; omega
  go_enter Try.func4, Try.ntmps4
  have hB := Below.refl w.heap.size w
  have hsz := hB.size
  go_upto_region 3 with (fail)
  refine abs_wp (fun W => W.heap[w.heap.size]? = some (.cells #[.bool (ng (z)), .int .u64 (dg (ab (z)) 0), .int .u64 (dg (ab (z)) 1), .int .u64 (dg (ab (z)) 2), .int .u64 (dg (ab (z)) 3)] 25 (0, 0)) ∧ Below w.heap.size w W) ⟨heap_new _ _, (by focus (repeat (first | (with_reducible exact Below.refl _ _) | (with_reducible assumption) | ((with_reducible refine Below.setCell ?_ ?_ _); rotate_left; (focus (first | omega | (simp; done) | (simp; omega)))) | ((with_reducible refine Below.alloc ?_ ?_ _); rotate_left; (focus (first | omega | (simp; done) | (simp; omega)))) | (with_reducible refine Below.drew ?_) | (refine below_on ?_ (by assumption)))))⟩ fun W1 ⟨g_a, gB⟩ => ?_
  clear hB hsz 
  have h_a := g_a
  have hB := gB
  clear gB g_a
  have c_a := cell_at h_a
  go_wp2_with fail
  refine (text_ok z HZ.out _).mono ?_
  rintro e w2 ⟨rfl, hb⟩
  have k_a := heap_below hb h_a
  have kB : Below w.heap.size w w2 := by
    have hsz := hB.size
    focus (repeat (first | (with_reducible exact Below.refl _ _) | (with_reducible assumption) | ((with_reducible refine Below.setCell ?_ ?_ _); rotate_left; (focus (first | omega | (simp; done) | (simp; omega)))) | ((with_reducible refine Below.alloc ?_ ?_ _); rotate_left; (focus (first | omega | (simp; done) | (simp; omega)))) | (with_reducible refine Below.drew ?_) | (refine below_on ?_ (by assumption))))
  have sz_w2 := kB.size
  have sl_w2 := lt_of_block k_a
  clear hB hb h_a
  have h_a := k_a
  have hB := kB
  clear kB k_a
  go_wp2_with fail
  refine (parse_v s HS.out V E HV.out HE.out _).mono ?_
  rintro e w3 ⟨rfl, hb⟩
  have k_a := heap_below hb h_a
  have kB : Below w.heap.size w w3 := by
    have hsz := hB.size
    focus (repeat (first | (with_reducible exact Below.refl _ _) | (with_reducible assumption) | ((with_reducible refine Below.setCell ?_ ?_ _); rotate_left; (focus (first | omega | (simp; done) | (simp; omega)))) | ((with_reducible refine Below.alloc ?_ ?_ _); rotate_left; (focus (first | omega | (simp; done) | (simp; omega)))) | (with_reducible refine Below.drew ?_) | (refine below_on ?_ (by assumption))))
  have sz_w3 := kB.size
  have sl_w3 := lt_of_block k_a
  clear hB hb h_a
  have h_a := k_a
  have hB := kB
  clear kB k_a
  have hsz := hB.size
  go_upto_region 5 with (fail)
  refine abs_wp (fun W => W.heap[w.heap.size]? = some (.cells #[.bool (ng (z)), .int .u64 (dg (ab (z)) 0), .int .u64 (dg (ab (z)) 1), .int .u64 (dg (ab (z)) 2), .int .u64 (dg (ab (z)) 3)] 25 (0, 0)) ∧ W.heap[w3.heap.size]? = some (.cells #[.bool (ng (V)), .int .u64 (dg (ab (V)) 0), .int .u64 (dg (ab (V)) 1), .int .u64 (dg (ab (V)) 2), .int .u64 (dg (ab (V)) 3)] 25 (0, 0)) ∧ Below w.heap.size w W) ⟨heap_old (h_a) _, heap_new _ _, (by focus (repeat (first | (with_reducible exact Below.refl _ _) | (with_reducible assumption) | ((with_reducible refine Below.setCell ?_ ?_ _); rotate_left; (focus (first | omega | (simp; done) | (simp; omega)))) | ((with_reducible refine Below.alloc ?_ ?_ _); rotate_left; (focus (first | omega | (simp; done) | (simp; omega)))) | (with_reducible refine Below.drew ?_) | (refine below_on ?_ (by assumption)))))⟩ fun W4 ⟨g_a, g_x, gB⟩ => ?_
  clear hB hsz h_a
  have h_a := g_a
  have h_x := g_x
  have hB := gB
  clear gB g_a g_x
  go_wp2_with fail
  refine (rparse_v s HS.out V E HV.out HE.out _).mono ?_
  rintro e w5 ⟨v, rfl, hV, hb⟩
  have k_a := heap_below hb h_a
  have k_x := heap_below hb h_x
  have kB : Below w.heap.size w w5 := by
    have hsz := hB.size
    focus (repeat (first | (with_reducible exact Below.refl _ _) | (with_reducible assumption) | ((with_reducible refine Below.setCell ?_ ?_ _); rotate_left; (focus (first | omega | (simp; done) | (simp; omega)))) | ((with_reducible refine Below.alloc ?_ ?_ _); rotate_left; (focus (first | omega | (simp; done) | (simp; omega)))) | (with_reducible refine Below.drew ?_) | (refine below_on ?_ (by assumption))))
  have sz_w5 := kB.size
  have sl_w5 := lt_of_block k_x
  clear hB hb h_a h_x
  have h_a := k_a
  have h_x := k_x
  have hB := kB
  clear kB k_a k_x
  obtain ⟨A, c, rfl, h1, h2⟩ := hV
  have hU : BigAt (w5.alloc (.cells #[.bool (ng V), .slice A (dd (ab V)).length c] 38)) (.agg #[.bool (ng V), .slice A (dd (ab V)).length c]) V := ⟨A, c, rfl, h1, h2.below (Below.alloc (Below.refl _ _) (Nat.le_refl _) _)⟩
  clear h1 h2
  go_wp2_with fail
  refine (rout_ok V HVB.out _ _ hU).mono ?_
  rintro e w6 ⟨rfl, hb⟩
  have k_a := heap_below hb (heap_old h_a _)
  have k_x := heap_below hb (heap_old h_x _)
  have kB : Below w.heap.size w w6 := by
    have hsz := hB.size
    focus (repeat (first | (with_reducible exact Below.refl _ _) | (with_reducible assumption) | ((with_reducible refine Below.setCell ?_ ?_ _); rotate_left; (focus (first | omega | (simp; done) | (simp; omega)))) | ((with_reducible refine Below.alloc ?_ ?_ _); rotate_left; (focus (first | omega | (simp; done) | (simp; omega)))) | (with_reducible refine Below.drew ?_) | (refine below_on ?_ (by assumption))))
  have sz_w6 := kB.size
  have sl_w6 := lt_of_block k_x
  clear hB hb h_a h_x
  have h_a := k_a
  have h_x := k_x
  have hB := kB
  clear kB k_a k_x
  clear hU
  have hsz := hB.size
  go_upto_region 7 with (fail)
  refine abs_wp (fun W => W.heap[w.heap.size]? = some (.cells #[.bool (ng (z)), .int .u64 (dg (ab (z)) 0), .int .u64 (dg (ab (z)) 1), .int .u64 (dg (ab (z)) 2), .int .u64 (dg (ab (z)) 3)] 25 (0, 0)) ∧ W.heap[w3.heap.size]? = some (.cells #[.bool (ng (V)), .int .u64 (dg (ab (V)) 0), .int .u64 (dg (ab (V)) 1), .int .u64 (dg (ab (V)) 2), .int .u64 (dg (ab (V)) 3)] 25 (0, 0)) ∧ W.heap[w6.heap.size]? = some (.cells #[.bool (ng (V)), .int .u64 (dg (ab (V)) 0), .int .u64 (dg (ab (V)) 1), .int .u64 (dg (ab (V)) 2), .int .u64 (dg (ab (V)) 3)] 25 (0, 0)) ∧ Below w.heap.size w W) ⟨heap_old (h_a) _, heap_old (h_x) _, heap_new _ _, (by focus (repeat (first | (with_reducible exact Below.refl _ _) | (with_reducible assumption) | ((with_reducible refine Below.setCell ?_ ?_ _); rotate_left; (focus (first | omega | (simp; done) | (simp; omega)))) | ((with_reducible refine Below.alloc ?_ ?_ _); rotate_left; (focus (first | omega | (simp; done) | (simp; omega)))) | (with_reducible refine Below.drew ?_) | (refine below_on ?_ (by assumption)))))⟩ fun W7 ⟨g_a, g_x, g_want, gB⟩ => ?_
  clear hB hsz h_a h_x
  have h_a := g_a
  have h_x := g_x
  have h_want := g_want
  have hB := gB
  clear gB g_a g_x g_want
  have c_a := cell_at h_a
  have c_x := cell_at h_x
  have c_want := cell_at h_want
  go_upto_region 9 with ((go_at_call 14; refine (num_s _ _).mono ?_; rintro e w' ⟨rfl, rfl⟩))
  go_wp2_with fail
  refine (rright_ok z HZ.out _).mono ?_
  rintro e w8 ⟨rfl, hb⟩
  have k_a := heap_below hb h_a
  have k_x := heap_below hb h_x
  have k_want := heap_below hb h_want
  have kB : Below w.heap.size w w8 := by
    have hsz := hB.size
    focus (repeat (first | (with_reducible exact Below.refl _ _) | (with_reducible assumption) | ((with_reducible refine Below.setCell ?_ ?_ _); rotate_left; (focus (first | omega | (simp; done) | (simp; omega)))) | ((with_reducible refine Below.alloc ?_ ?_ _); rotate_left; (focus (first | omega | (simp; done) | (simp; omega)))) | (with_reducible refine Below.drew ?_) | (refine below_on ?_ (by assumption))))
  have sz_w8 := kB.size
  have sl_w8 := lt_of_block k_want
  clear hB hb h_a h_x h_want
  have h_a := k_a
  have h_x := k_x
  have h_want := k_want
  have hB := kB
  clear kB k_a k_x k_want
  have c_a := cell_at h_a
  go_wp2_with fail
  refine (from_z z HZ.out _).mono ?_
  rintro e w9 ⟨v2, rfl, hV2, hb⟩
  have k_a := heap_below hb h_a
  have k_x := heap_below hb h_x
  have k_want := heap_below hb h_want
  have kB : Below w.heap.size w w9 := by
    have hsz := hB.size
    focus (repeat (first | (with_reducible exact Below.refl _ _) | (with_reducible assumption) | ((with_reducible refine Below.setCell ?_ ?_ _); rotate_left; (focus (first | omega | (simp; done) | (simp; omega)))) | ((with_reducible refine Below.alloc ?_ ?_ _); rotate_left; (focus (first | omega | (simp; done) | (simp; omega)))) | (with_reducible refine Below.drew ?_) | (refine below_on ?_ (by assumption))))
  have sz_w9 := kB.size
  have sl_w9 := lt_of_block k_want
  clear hB hb h_a h_x h_want
  have h_a := k_a
  have h_x := k_x
  have h_want := k_want
  have hB := kB
  clear kB k_a k_x k_want
  go_wp2_with fail
  refine (rtext_any z HZ.out _ _ hV2).mono ?_
  rintro e w10 ⟨rfl, hb⟩
  have k_a := heap_below hb h_a
  have k_x := heap_below hb h_x
  have k_want := heap_below hb h_want
  have kB : Below w.heap.size w w10 := by
    have hsz := hB.size
    focus (repeat (first | (with_reducible exact Below.refl _ _) | (with_reducible assumption) | ((with_reducible refine Below.setCell ?_ ?_ _); rotate_left; (focus (first | omega | (simp; done) | (simp; omega)))) | ((with_reducible refine Below.alloc ?_ ?_ _); rotate_left; (focus (first | omega | (simp; done) | (simp; omega)))) | (with_reducible refine Below.drew ?_) | (refine below_on ?_ (by assumption))))
  have sz_w10 := kB.size
  have sl_w10 := lt_of_block k_want
  clear hB hb h_a h_x h_want
  have h_a := k_a
  have h_x := k_x
  have h_want := k_want
  have hB := kB
  clear kB k_a k_x k_want
  clear hV2
  go_wp2_with ((go_at_call 14; refine (num_s _ _).mono ?_; rintro e w' ⟨rfl, rfl⟩))
  refine (works_any _).mono ?_
  rintro e wz ⟨rfl, hb⟩
  have hF := below_on hB hb
  go_wp2
  go_ret
  exact ⟨rfl, hF⟩
set_option maxRecDepth 100000 in
set_option maxHeartbeats 2000000 in
theorem texts_bad (s : ByteArray) (HS : Hd (s.size ≤ 200)) (V E : Int) (HV : Hd (parseV (strB s) = V)) (HE : Hd (parseE (strB s) = E)) (HVB : Hd (ab V < 2 ^ 256)) (w : World) :
    Calls Try.prog 4 #[.agg #[.bool true, .int .u64 0, .int .u64 0, .int .u64 0, .int .u64 0], .string s] w fun e w' => e = .returned (.bool true) ∧ Below w.heap.size w w' := by
  have hlen : decide ((s.size : Int) > 200) = false := by have h := HS.out; simp; omega
  go_enter Try.func4, Try.ntmps4
  have hB := Below.refl w.heap.size w
  have hsz := hB.size
  go_upto_region 3 with (fail)
  refine abs_wp (fun W => W.heap[w.heap.size]? = some (.cells #[.bool true, .int .u64 0, .int .u64 0, .int .u64 0, .int .u64 0] 25 (0, 0)) ∧ Below w.heap.size w W) ⟨heap_new _ _, (by focus (repeat (first | (with_reducible exact Below.refl _ _) | (with_reducible assumption) | ((with_reducible refine Below.setCell ?_ ?_ _); rotate_left; (focus (first | omega | (simp; done) | (simp; omega)))) | ((with_reducible refine Below.alloc ?_ ?_ _); rotate_left; (focus (first | omega | (simp; done) | (simp; omega)))) | (with_reducible refine Below.drew ?_) | (refine below_on ?_ (by assumption)))))⟩ fun W1 ⟨g_a, gB⟩ => ?_
  clear hB hsz 
  have h_a := g_a
  have hB := gB
  clear gB g_a
  have c_a := cell_at h_a
  go_wp2_with fail
  refine (text_bad0 _).mono ?_
  rintro e w2 ⟨rfl, hb⟩
  have k_a := heap_below hb h_a
  have kB : Below w.heap.size w w2 := by
    have hsz := hB.size
    focus (repeat (first | (with_reducible exact Below.refl _ _) | (with_reducible assumption) | ((with_reducible refine Below.setCell ?_ ?_ _); rotate_left; (focus (first | omega | (simp; done) | (simp; omega)))) | ((with_reducible refine Below.alloc ?_ ?_ _); rotate_left; (focus (first | omega | (simp; done) | (simp; omega)))) | (with_reducible refine Below.drew ?_) | (refine below_on ?_ (by assumption))))
  have sz_w2 := kB.size
  have sl_w2 := lt_of_block k_a
  clear hB hb h_a
  have h_a := k_a
  have hB := kB
  clear kB k_a
  go_wp2_with fail
  refine (parse_v s HS.out V E HV.out HE.out _).mono ?_
  rintro e w3 ⟨rfl, hb⟩
  have k_a := heap_below hb h_a
  have kB : Below w.heap.size w w3 := by
    have hsz := hB.size
    focus (repeat (first | (with_reducible exact Below.refl _ _) | (with_reducible assumption) | ((with_reducible refine Below.setCell ?_ ?_ _); rotate_left; (focus (first | omega | (simp; done) | (simp; omega)))) | ((with_reducible refine Below.alloc ?_ ?_ _); rotate_left; (focus (first | omega | (simp; done) | (simp; omega)))) | (with_reducible refine Below.drew ?_) | (refine below_on ?_ (by assumption))))
  have sz_w3 := kB.size
  have sl_w3 := lt_of_block k_a
  clear hB hb h_a
  have h_a := k_a
  have hB := kB
  clear kB k_a
  have hsz := hB.size
  go_upto_region 5 with (fail)
  refine abs_wp (fun W => W.heap[w.heap.size]? = some (.cells #[.bool true, .int .u64 0, .int .u64 0, .int .u64 0, .int .u64 0] 25 (0, 0)) ∧ W.heap[w3.heap.size]? = some (.cells #[.bool (ng (V)), .int .u64 (dg (ab (V)) 0), .int .u64 (dg (ab (V)) 1), .int .u64 (dg (ab (V)) 2), .int .u64 (dg (ab (V)) 3)] 25 (0, 0)) ∧ Below w.heap.size w W) ⟨heap_old (h_a) _, heap_new _ _, (by focus (repeat (first | (with_reducible exact Below.refl _ _) | (with_reducible assumption) | ((with_reducible refine Below.setCell ?_ ?_ _); rotate_left; (focus (first | omega | (simp; done) | (simp; omega)))) | ((with_reducible refine Below.alloc ?_ ?_ _); rotate_left; (focus (first | omega | (simp; done) | (simp; omega)))) | (with_reducible refine Below.drew ?_) | (refine below_on ?_ (by assumption)))))⟩ fun W4 ⟨g_a, g_x, gB⟩ => ?_
  clear hB hsz h_a
  have h_a := g_a
  have h_x := g_x
  have hB := gB
  clear gB g_a g_x
  go_wp2_with fail
  refine (rparse_v s HS.out V E HV.out HE.out _).mono ?_
  rintro e w5 ⟨v, rfl, hV, hb⟩
  have k_a := heap_below hb h_a
  have k_x := heap_below hb h_x
  have kB : Below w.heap.size w w5 := by
    have hsz := hB.size
    focus (repeat (first | (with_reducible exact Below.refl _ _) | (with_reducible assumption) | ((with_reducible refine Below.setCell ?_ ?_ _); rotate_left; (focus (first | omega | (simp; done) | (simp; omega)))) | ((with_reducible refine Below.alloc ?_ ?_ _); rotate_left; (focus (first | omega | (simp; done) | (simp; omega)))) | (with_reducible refine Below.drew ?_) | (refine below_on ?_ (by assumption))))
  have sz_w5 := kB.size
  have sl_w5 := lt_of_block k_x
  clear hB hb h_a h_x
  have h_a := k_a
  have h_x := k_x
  have hB := kB
  clear kB k_a k_x
  obtain ⟨A, c, rfl, h1, h2⟩ := hV
  have hU : BigAt (w5.alloc (.cells #[.bool (ng V), .slice A (dd (ab V)).length c] 38)) (.agg #[.bool (ng V), .slice A (dd (ab V)).length c]) V := ⟨A, c, rfl, h1, h2.below (Below.alloc (Below.refl _ _) (Nat.le_refl _) _)⟩
  clear h1 h2
  go_wp2_with fail
  refine (rout_ok V HVB.out _ _ hU).mono ?_
  rintro e w6 ⟨rfl, hb⟩
  have k_a := heap_below hb (heap_old h_a _)
  have k_x := heap_below hb (heap_old h_x _)
  have kB : Below w.heap.size w w6 := by
    have hsz := hB.size
    focus (repeat (first | (with_reducible exact Below.refl _ _) | (with_reducible assumption) | ((with_reducible refine Below.setCell ?_ ?_ _); rotate_left; (focus (first | omega | (simp; done) | (simp; omega)))) | ((with_reducible refine Below.alloc ?_ ?_ _); rotate_left; (focus (first | omega | (simp; done) | (simp; omega)))) | (with_reducible refine Below.drew ?_) | (refine below_on ?_ (by assumption))))
  have sz_w6 := kB.size
  have sl_w6 := lt_of_block k_x
  clear hB hb h_a h_x
  have h_a := k_a
  have h_x := k_x
  have hB := kB
  clear kB k_a k_x
  clear hU
  have hsz := hB.size
  go_upto_region 7 with (fail)
  refine abs_wp (fun W => W.heap[w.heap.size]? = some (.cells #[.bool true, .int .u64 0, .int .u64 0, .int .u64 0, .int .u64 0] 25 (0, 0)) ∧ W.heap[w3.heap.size]? = some (.cells #[.bool (ng (V)), .int .u64 (dg (ab (V)) 0), .int .u64 (dg (ab (V)) 1), .int .u64 (dg (ab (V)) 2), .int .u64 (dg (ab (V)) 3)] 25 (0, 0)) ∧ W.heap[w6.heap.size]? = some (.cells #[.bool (ng (V)), .int .u64 (dg (ab (V)) 0), .int .u64 (dg (ab (V)) 1), .int .u64 (dg (ab (V)) 2), .int .u64 (dg (ab (V)) 3)] 25 (0, 0)) ∧ Below w.heap.size w W) ⟨heap_old (h_a) _, heap_old (h_x) _, heap_new _ _, (by focus (repeat (first | (with_reducible exact Below.refl _ _) | (with_reducible assumption) | ((with_reducible refine Below.setCell ?_ ?_ _); rotate_left; (focus (first | omega | (simp; done) | (simp; omega)))) | ((with_reducible refine Below.alloc ?_ ?_ _); rotate_left; (focus (first | omega | (simp; done) | (simp; omega)))) | (with_reducible refine Below.drew ?_) | (refine below_on ?_ (by assumption)))))⟩ fun W7 ⟨g_a, g_x, g_want, gB⟩ => ?_
  clear hB hsz h_a h_x
  have h_a := g_a
  have h_x := g_x
  have h_want := g_want
  have hB := gB
  clear gB g_a g_x g_want
  have c_a := cell_at h_a
  have c_x := cell_at h_x
  have c_want := cell_at h_want
  go_upto_region 9 with ((go_at_call 14; refine (num_s _ _).mono ?_; rintro e w' ⟨rfl, rfl⟩))
  go_wp2_with fail
  refine (rright_bad0 _).mono ?_
  rintro e w8 ⟨rfl, hb⟩
  have k_a := heap_below hb h_a
  have k_x := heap_below hb h_x
  have k_want := heap_below hb h_want
  have kB : Below w.heap.size w w8 := by
    have hsz := hB.size
    focus (repeat (first | (with_reducible exact Below.refl _ _) | (with_reducible assumption) | ((with_reducible refine Below.setCell ?_ ?_ _); rotate_left; (focus (first | omega | (simp; done) | (simp; omega)))) | ((with_reducible refine Below.alloc ?_ ?_ _); rotate_left; (focus (first | omega | (simp; done) | (simp; omega)))) | (with_reducible refine Below.drew ?_) | (refine below_on ?_ (by assumption))))
  have sz_w8 := kB.size
  have sl_w8 := lt_of_block k_want
  clear hB hb h_a h_x h_want
  have h_a := k_a
  have h_x := k_x
  have h_want := k_want
  have hB := kB
  clear kB k_a k_x k_want
  have c_a := cell_at h_a
  go_wp2_with ((go_at_call 14; refine (num_s _ _).mono ?_; rintro e w' ⟨rfl, rfl⟩))
  refine (works_any _).mono ?_
  rintro e wz ⟨rfl, hb⟩
  have hF := below_on hB hb
  go_wp2
  go_ret
  exact ⟨rfl, hF⟩
open Go.RowKit Go.BigFrame

theorem texts_any (p : Bool × Nat) (hp : p.2 < 2 ^ 256) (s : ByteArray) (w : World) :
    Calls Try.prog 4 #[.agg #[.bool (p.1), .int .u64 (dg (p.2) 0), .int .u64 (dg (p.2) 1), .int .u64 (dg (p.2) 2), .int .u64 (dg (p.2) 3)], .string s] w fun e w' => e = .returned (.bool true) ∧ Below w.heap.size w w' := by
  by_cases hs : s.size ≤ 200
  · have hv := parseV_lt (strB s)
    by_cases h : okP p
    · obtain ⟨z, hz⟩ : ∃ z, z = zof p.1 p.2 := ⟨_, rfl⟩
      have e1 : ng z = p.1 := by rw [hz]; exact ng_okP h
      have e2 : ab z = p.2 := by rw [hz, ab_zof]
      rw [← e1, ← e2]
      rw [← e2] at hp
      exact texts_ok z ⟨hp⟩ s ⟨hs⟩ _ _ ⟨rfl⟩ ⟨rfl⟩ ⟨hv⟩ w
    · obtain ⟨b, N⟩ := p
      obtain ⟨rfl, rfl⟩ : b = true ∧ N = 0 := by simpa [okP] using h
      simp only [dg_zero]
      exact texts_bad s ⟨hs⟩ _ _ ⟨rfl⟩ ⟨rfl⟩ ⟨hv⟩ w
  · exact texts_long s (by simp; omega) p w
end Go.Proofs.Yteibcklcegkbcaa
