/-
  The law package of seg: the chapter's rows are so. Conditions stand in each theorem.
-/
import Derived.Test.YtbhfnfokihdjjaaGreatDoorBq
import Derived.Test.YtbhfnfokihdjjaaGreatDoorSg10
import Derived.Test.YtbhfnfokihdjjaaGreatDoorRb4
import Derived.Test.YtbhfnfokihdjjaaGreatDoorTs4
import Derived.Test.YtbhfnfokihdjjaaGreatDoorWh1
namespace Go.Proofs.YtbhfnfokihdjjaaGreatDoor
open Go.RowKit Go.BigFrame

@[go_sem] theorem fieldRat0 (a b c d : Value) (w : World) : (Instr.field 55 (.agg #[a, b, c, d]) 0).run Tryz.prog w = .ok (.agg #[a, b]) w := by kernel_rfl
theorem w_turn (w : World) : Calls Tryz.prog 10 #[.agg #[.int .i64 0, .int .i64 0], .agg #[.int .i64 2, .int .i64 0], .agg #[.int .i64 1, .int .i64 1]] w fun e w' => e = .returned (.tuple #[.int .i64 1, .int .i64 0]) ∧ Below w.heap.size w w' := turn_any 0 0 2 0 1 1 w
theorem w_make (u v : Value) (w : World) (hu : BigAt w u (-1)) (hv : BigAt w v 2) :
    Calls Tryz.prog 42 #[u, v] w fun e w' => ∃ r, e = .returned r ∧ RatAt w' r (-1) ((2 : Nat) : Int) ∧ Below w.heap.size w w' := rmake_pos (-1) 2 (by decide) (by decide) (by decide) u v w hu hv
theorem w_out (u : Value) (w : World) (hu : RatAt w u (-1) ((2 : Nat) : Int)) :
    Calls Tryz.prog 41 #[u] w fun e w' => e = .returned (.tuple #[.agg #[.bool (ng (-1)), .int .u64 (dg (ab (-1)) 0), .int .u64 (dg (ab (-1)) 1), .int .u64 (dg (ab (-1)) 2), .int .u64 (dg (ab (-1)) 3), .bool false, .int .u64 (dg (2) 0), .int .u64 (dg (2) 1), .int .u64 (dg (2) 2), .int .u64 (dg (2) 3)], .int .i64 0]) ∧ Below w.heap.size w w' := rrout_ok (-1) 2 (by decide) (by decide) u w hu
theorem pt_low : Pt 1 1 (-1) 2 := ⟨⟨by decide, by decide, by decide, by decide⟩, ⟨by decide, by decide, by decide, by decide⟩, by decide, by decide⟩
theorem w_side (w : World) (hV : Vars w) : Calls Tryz.prog 19 #[.agg #[.int .i64 0, .int .i64 0, .int .i64 2, .int .i64 0], .agg #[.bool (ng (1)), .int .u64 (dg (ab (1)) 0), .int .u64 (dg (ab (1)) 1), .int .u64 (dg (ab (1)) 2), .int .u64 (dg (ab (1)) 3), .bool false, .int .u64 (dg (1) 0), .int .u64 (dg (1) 1), .int .u64 (dg (1) 2), .int .u64 (dg (1) 3), .bool (ng (-1)), .int .u64 (dg (ab (-1)) 0), .int .u64 (dg (ab (-1)) 1), .int .u64 (dg (ab (-1)) 2), .int .u64 (dg (ab (-1)) 3), .bool false, .int .u64 (dg (2) 0), .int .u64 (dg (2) 1), .int .u64 (dg (2) 2), .int .u64 (dg (2) 3)]] w fun e w' => e = .returned (.tuple #[.int .i64 (-1), .int .i64 0]) ∧ Below w.heap.size w w' := by
  have h := seg_side_ok 0 0 2 0 1 1 (-1) 2 (by decide) pt_low w hV
  rw [show sideV 0 0 (2 - 0) (0 - 0) 1 1 (-1) 2 = -1 by decide] at h
  exact h
theorem w_on (w : World) (hV : Vars w) : Calls Tryz.prog 20 #[.agg #[.int .i64 0, .int .i64 0, .int .i64 2, .int .i64 2], .agg #[.bool (ng (1)), .int .u64 (dg (ab (1)) 0), .int .u64 (dg (ab (1)) 1), .int .u64 (dg (ab (1)) 2), .int .u64 (dg (ab (1)) 3), .bool false, .int .u64 (dg (1) 0), .int .u64 (dg (1) 1), .int .u64 (dg (1) 2), .int .u64 (dg (1) 3), .bool (ng (1)), .int .u64 (dg (ab (1)) 0), .int .u64 (dg (ab (1)) 1), .int .u64 (dg (ab (1)) 2), .int .u64 (dg (ab (1)) 3), .bool false, .int .u64 (dg (1) 0), .int .u64 (dg (1) 1), .int .u64 (dg (1) 2), .int .u64 (dg (1) 3)]] w fun e w' => e = .returned (.tuple #[.bool true, .int .i64 0]) ∧ Below w.heap.size w w' := by
  have h := seg_on_ok 0 0 2 2 1 1 1 1 (by decide) (node_pt (by decide)) w hV
  rw [show onB 0 0 2 2 1 1 1 1 = true by decide] at h
  exact h
theorem w_off (w : World) (hV : Vars w) : Calls Tryz.prog 20 #[.agg #[.int .i64 0, .int .i64 0, .int .i64 2, .int .i64 2], .agg #[.bool (ng (3)), .int .u64 (dg (ab (3)) 0), .int .u64 (dg (ab (3)) 1), .int .u64 (dg (ab (3)) 2), .int .u64 (dg (ab (3)) 3), .bool false, .int .u64 (dg (1) 0), .int .u64 (dg (1) 1), .int .u64 (dg (1) 2), .int .u64 (dg (1) 3), .bool (ng (3)), .int .u64 (dg (ab (3)) 0), .int .u64 (dg (ab (3)) 1), .int .u64 (dg (ab (3)) 2), .int .u64 (dg (ab (3)) 3), .bool false, .int .u64 (dg (1) 0), .int .u64 (dg (1) 1), .int .u64 (dg (1) 2), .int .u64 (dg (1) 3)]] w fun e w' => e = .returned (.tuple #[.bool false, .int .i64 0]) ∧ Below w.heap.size w w' := by
  have h := seg_on_ok 0 0 2 2 3 1 3 1 (by decide) (node_pt (by decide)) w hV
  rw [show onB 0 0 2 2 3 1 3 1 = false by decide] at h
  exact h
theorem w_text (w : World) (hV : Vars w) : Calls Tryz.prog 30 #[.agg #[.int .i64 0, .int .i64 0, .int .i64 1, .int .i64 (-2)]] w fun e w' => e = .returned (.tuple #[.string ⟨#[48, 32, 48, 44, 49, 32, 45, 50]⟩, .int .i64 0]) ∧ Below w.heap.size w w' := by
  have h := seg_text_ok 0 0 1 (-2) (by decide) w hV
  rw [show segS 0 0 1 (-2) = ⟨#[48, 32, 48, 44, 49, 32, 45, 50]⟩ by kernel_rfl] at h
  exact h
theorem w_num (w : World) (hV : Vars w) : Calls Tryz.prog 96 #[.string ⟨#[48]⟩] w fun e w' => e = .returned (.int .i64 0) ∧ Below w.heap.size w w' :=
  number_ok ⟨#[48]⟩ 0 (by decide) (by decide) (by decide) (by kernel_rfl) (by kernel_rfl) w hV
theorem w_node (w : World) (hV : Vars w) : Calls Tryz.prog 67 #[.string ⟨#[48, 32, 48]⟩] w fun e w' => e = .returned (.agg #[.int .i64 0, .int .i64 0]) ∧ Below w.heap.size w w' :=
  seg_node_ok ⟨#[48, 32, 48]⟩ ⟨#[48]⟩ ⟨#[48]⟩ 0 0 (by decide) (by kernel_rfl) ⟨w_num⟩ ⟨w_num⟩ w hV
theorem w_parse (w : World) (hV : Vars w) : Calls Tryz.prog 31 #[.string ⟨#[48, 32, 48, 44, 48, 32, 48]⟩] w fun e w' => e = .returned (.tuple #[.agg #[.int .i64 0, .int .i64 0, .int .i64 0, .int .i64 0], .int .i64 140]) ∧ Below w.heap.size w w' :=
  segp_none ⟨#[48, 32, 48, 44, 48, 32, 48]⟩ ⟨#[48, 32, 48]⟩ ⟨#[48, 32, 48]⟩ 0 0 0 0 (by decide) (by kernel_rfl) (by decide) ⟨w_node⟩ ⟨w_node⟩ w hV
theorem w_laid (w : World) : Calls Tryz.prog 11 #[.agg #[.int .i64 2, .int .i64 0, .int .i64 1, .int .i64 5]] w fun e w' => e = .returned (.tuple #[.agg #[.int .i64 1, .int .i64 5, .int .i64 2, .int .i64 0], .int .i64 0]) ∧ Below w.heap.size w w' := laid_any 2 0 1 5 w
set_option maxRecDepth 20000 in
set_option maxHeartbeats 8000000 in
theorem law_works (w : World) (hV : Vars w) :
    Calls Tryz.prog 17 #[] w fun e w' => e = .returned (.bool true) ∧ Below w.heap.size w w' := by
  have HV := Hd.mk hV
  clear hV
  go_enter Tryz.func17, Tryz.ntmps17
  go_wp2_with fail
  refine (w_turn _).mono ?_
  rintro e w1 ⟨rfl, hB⟩
  go_wp2_with fail
  refine (law_at 1 0 (by decide) (by decide) _).mono ?_
  rintro e w2 ⟨rfl, hb⟩
  have hB2 := below_on hB hb
  clear hb hB
  go_upto_region 3 with (refine wpList_store_block rfl 46 (.tmp 3) (.tmp 23) rfl w2.heap.size #[.bool (ng (1)), .int .u64 (dg (ab (1)) 0), .int .u64 (dg (ab (1)) 1), .int .u64 (dg (ab (1)) 2), .int .u64 (dg (ab (1)) 3), .bool false, .int .u64 (dg (1) 0), .int .u64 (dg (1) 1), .int .u64 (dg (1) 2), .int .u64 (dg (1) 3), .bool (ng (0)), .int .u64 (dg (ab (0)) 0), .int .u64 (dg (ab (0)) 1), .int .u64 (dg (ab (0)) 2), .int .u64 (dg (ab (0)) 3), .bool false, .int .u64 (dg (1) 0), .int .u64 (dg (1) 1), .int .u64 (dg (1) 2), .int .u64 (dg (1) 3)] rfl rfl (heap_new _ _) rfl (by kernel_rfl) rfl ?_; rintro W3 ⟨k1, k2, k3⟩)
  refine abs_wp (fun W => W.heap[w2.heap.size]? = some (.cells #[.bool (ng (1)), .int .u64 (dg (ab (1)) 0), .int .u64 (dg (ab (1)) 1), .int .u64 (dg (ab (1)) 2), .int .u64 (dg (ab (1)) 3), .bool false, .int .u64 (dg (1) 0), .int .u64 (dg (1) 1), .int .u64 (dg (1) 2), .int .u64 (dg (1) 3), .bool (ng (0)), .int .u64 (dg (ab (0)) 0), .int .u64 (dg (ab (0)) 1), .int .u64 (dg (ab (0)) 2), .int .u64 (dg (ab (0)) 3), .bool false, .int .u64 (dg (1) 0), .int .u64 (dg (1) 1), .int .u64 (dg (1) 2), .int .u64 (dg (1) 3)] 46 (0, 0)) ∧ Below w.heap.size w W) ⟨k1, (Below.alloc hB2 hB2.size _).trans (k3 _ hB2.size)⟩ fun W ⟨y0, hB⟩ => ?_
  obtain ⟨b0, hb0⟩ : ∃ b, b = w2.heap.size := ⟨_, rfl⟩
  have hb0w : w.heap.size ≤ b0 := by rw [hb0]; exact hB2.size
  rw [← hb0] at y0 ⊢
  clear k1 k2 k3 hb0 hB2
  generalize (Value.agg #[.bool (ng (1)), .int .u64 (dg (ab (1)) 0), .int .u64 (dg (ab (1)) 1), .int .u64 (dg (ab (1)) 2), .int .u64 (dg (ab (1)) 3), .bool false, .int .u64 (dg (1) 0), .int .u64 (dg (1) 1), .int .u64 (dg (1) 2), .int .u64 (dg (1) 3), .bool (ng (0)), .int .u64 (dg (ab (0)) 0), .int .u64 (dg (ab (0)) 1), .int .u64 (dg (ab (0)) 2), .int .u64 (dg (ab (0)) 3), .bool false, .int .u64 (dg (1) 0), .int .u64 (dg (1) 1), .int .u64 (dg (1) 2), .int .u64 (dg (1) 3)]) = V0
  go_wp2_with fail
  refine (rrnum_any (-1) (by decide) (by decide) _).mono ?_
  rintro e w3 ⟨v1, rfl, ⟨A, c, B, e1, rfl, g1, g2, _, _⟩, hb⟩
  have y1 := heap_below hb y0
  have hB3 := below_on hB hb
  have q1 : BigAt w3 (.agg #[.bool (ng (-1)), .slice A (dd (ab (-1))).length c]) (-1) := ⟨A, c, rfl, g1, g2⟩
  have HQ1 := Hd.mk q1
  clear hb y0 hB g1 g2 q1
  go_wp2_with fail
  refine (rrnum_any 2 (by decide) (by decide) _).mono ?_
  rintro e w4 ⟨v2, rfl, ⟨A2, c2, B2, e2, rfl, g3, g4, _, _⟩, hb⟩
  have y2 := heap_below hb y1
  have hB4 := below_on hB3 hb
  have q2 : BigAt w4 (.agg #[.bool (ng 2), .slice A2 (dd (ab 2)).length c2]) 2 := ⟨A2, c2, rfl, g3, g4⟩
  have HQ2 := Hd.mk (And.intro (HQ1.out.below hb) q2)
  clear hb y1 hB3 g3 g4 q2 HQ1
  go_wp2_with fail
  refine (w_make _ _ _ HQ2.out.1 HQ2.out.2).mono ?_
  rintro e w5 ⟨r, rfl, hr, hb⟩
  have y3 := heap_below hb y2
  have hB5 := below_on hB4 hb
  have HR := Hd.mk hr
  clear hb y2 hB4 hr HQ2
  go_wp2_with fail
  refine (w_out _ _ HR.out).mono ?_
  rintro e w6 ⟨rfl, hb⟩
  have x0 := heap_below hb y3
  have hB6 := below_on hB5 hb
  clear hb y3 hB5 HR
  have c0 := cell_at x0
  have f0 := frozen_at x0
  go_upto_region 4 with (fail)
  refine abs_wp (fun W => W.heap[b0]? = some (.cells #[.bool (ng (1)), .int .u64 (dg (ab (1)) 0), .int .u64 (dg (ab (1)) 1), .int .u64 (dg (ab (1)) 2), .int .u64 (dg (ab (1)) 3), .bool false, .int .u64 (dg (1) 0), .int .u64 (dg (1) 1), .int .u64 (dg (1) 2), .int .u64 (dg (1) 3), .bool (ng (-1)), .int .u64 (dg (ab (-1)) 0), .int .u64 (dg (ab (-1)) 1), .int .u64 (dg (ab (-1)) 2), .int .u64 (dg (ab (-1)) 3), .bool false, .int .u64 (dg (2) 0), .int .u64 (dg (2) 1), .int .u64 (dg (2) 2), .int .u64 (dg (2) 3)] 46 (0, 0)) ∧ Below w.heap.size w W) ⟨by simpa using (heap_set (heap_set (heap_set (heap_set (heap_set (heap_set (heap_set (heap_set (heap_set (heap_set x0 10 (.bool (ng (-1)))) 11 (.int .u64 (dg (ab (-1)) 0))) 12 (.int .u64 (dg (ab (-1)) 1))) 13 (.int .u64 (dg (ab (-1)) 2))) 14 (.int .u64 (dg (ab (-1)) 3))) 15 (.bool false)) 16 (.int .u64 (dg 2 0))) 17 (.int .u64 (dg 2 1))) 18 (.int .u64 (dg 2 2))) 19 (.int .u64 (dg 2 3))), by focus (repeat (first | (with_reducible exact Below.refl _ _) | (with_reducible assumption) | ((with_reducible refine Below.setCell ?_ ?_ _); rotate_left; (focus (first | omega | (simp; done) | (simp; omega)))) | ((with_reducible refine Below.alloc ?_ ?_ _); rotate_left; (focus (first | omega | (simp; done) | (simp; omega)))) | (with_reducible refine Below.drew ?_) | (refine below_on ?_ (by assumption))))⟩ fun W ⟨y0, hB7⟩ => ?_
  clear x0 hB6 c0 f0
  have HVW := Hd.mk (HV.out.below hB7)
  have HSD := Hd.mk w_side
  generalize hP1 : (Value.agg #[.bool (ng (1)), .int .u64 (dg (ab (1)) 0), .int .u64 (dg (ab (1)) 1), .int .u64 (dg (ab (1)) 2), .int .u64 (dg (ab (1)) 3), .bool false, .int .u64 (dg (1) 0), .int .u64 (dg (1) 1), .int .u64 (dg (1) 2), .int .u64 (dg (1) 3), .bool (ng (-1)), .int .u64 (dg (ab (-1)) 0), .int .u64 (dg (ab (-1)) 1), .int .u64 (dg (ab (-1)) 2), .int .u64 (dg (ab (-1)) 3), .bool false, .int .u64 (dg (2) 0), .int .u64 (dg (2) 1), .int .u64 (dg (2) 2), .int .u64 (dg (2) 3)]) = V1 at *
  refine region_qt 7 (by kernel_rfl) (by kernel_rfl) fun X _ mk hmk hcl => ?_
  simp only [List.take_succ_cons, List.take_zero, List.drop_succ_cons, List.drop_zero]
  go_big_quiet_step ((go_at_call 44; exact (law_of _ _ _ _ _).mono fun e w' h => ⟨h.1, hcl _ _ h.2⟩))
  refine wpQuiet_load_point (.tmp 3) rfl (by kernel_rfl) b0 rfl (fun y => heap_below (hmk y) y0) rfl ?_
  rw [hP1]
  simp only [Act.put, List.setIfInBounds_toArray, List.set_cons_succ, List.set_cons_zero]
  repeat (go_big_quiet_step ((go_at_call 19; exact (HSD.out _ (HVW.out.below (hmk _))).mono fun e w' h => ⟨h.1, hcl _ _ h.2⟩)))
  refine wpQuiet_nil ?_
  rintro _ ⟨x, rfl⟩
  have hx := hmk x
  clear hcl hmk
  generalize mk x = W8 at hx
  have hB8 := below_on hB7 hx
  clear hx y0 hB7 HVW HSD hP1
  go_upto_region 10 with (first
    | (go_at_call 44; refine (law_of _ _ _ _ _).mono ?_; rintro e w' ⟨rfl, hb⟩; have hB8 : Below w.heap.size w _ := below_on (by have := hB8.size; focus (repeat (first | (with_reducible exact Below.refl _ _) | (with_reducible assumption) | ((with_reducible refine Below.setCell ?_ ?_ _); rotate_left; (focus (first | omega | (simp; done) | (simp; omega)))) | ((with_reducible refine Below.alloc ?_ ?_ _); rotate_left; (focus (first | omega | (simp; done) | (simp; omega)))) | (with_reducible refine Below.drew ?_) | (refine below_on ?_ (by assumption))))) hb; clear hb)
    | (go_at_call 35; refine (law_at _ _ (by decide) (by decide) _).mono ?_; rintro e w' ⟨rfl, hb⟩; have hB8 : Below w.heap.size w _ := below_on (by have := hB8.size; focus (repeat (first | (with_reducible exact Below.refl _ _) | (with_reducible assumption) | ((with_reducible refine Below.setCell ?_ ?_ _); rotate_left; (focus (first | omega | (simp; done) | (simp; omega)))) | ((with_reducible refine Below.alloc ?_ ?_ _); rotate_left; (focus (first | omega | (simp; done) | (simp; omega)))) | (with_reducible refine Below.drew ?_) | (refine below_on ?_ (by assumption))))) hb; clear hb)
    | (go_at_call 20; with_reducible refine (w_on _ (HV.out.below (by have := hB8.size; focus (repeat (first | (with_reducible exact Below.refl _ _) | (with_reducible assumption) | ((with_reducible refine Below.setCell ?_ ?_ _); rotate_left; (focus (first | omega | (simp; done) | (simp; omega)))) | ((with_reducible refine Below.alloc ?_ ?_ _); rotate_left; (focus (first | omega | (simp; done) | (simp; omega)))) | (with_reducible refine Below.drew ?_) | (refine below_on ?_ (by assumption))))))).mono ?_; rintro e w' ⟨rfl, hb⟩; have hB8 : Below w.heap.size w _ := below_on (by have := hB8.size; focus (repeat (first | (with_reducible exact Below.refl _ _) | (with_reducible assumption) | ((with_reducible refine Below.setCell ?_ ?_ _); rotate_left; (focus (first | omega | (simp; done) | (simp; omega)))) | ((with_reducible refine Below.alloc ?_ ?_ _); rotate_left; (focus (first | omega | (simp; done) | (simp; omega)))) | (with_reducible refine Below.drew ?_) | (refine below_on ?_ (by assumption))))) hb; clear hb)
    | (go_at_call 20; refine (w_off _ (HV.out.below (by have := hB8.size; focus (repeat (first | (with_reducible exact Below.refl _ _) | (with_reducible assumption) | ((with_reducible refine Below.setCell ?_ ?_ _); rotate_left; (focus (first | omega | (simp; done) | (simp; omega)))) | ((with_reducible refine Below.alloc ?_ ?_ _); rotate_left; (focus (first | omega | (simp; done) | (simp; omega)))) | (with_reducible refine Below.drew ?_) | (refine below_on ?_ (by assumption))))))).mono ?_; rintro e w' ⟨rfl, hb⟩; have hB8 : Below w.heap.size w _ := below_on (by have := hB8.size; focus (repeat (first | (with_reducible exact Below.refl _ _) | (with_reducible assumption) | ((with_reducible refine Below.setCell ?_ ?_ _); rotate_left; (focus (first | omega | (simp; done) | (simp; omega)))) | ((with_reducible refine Below.alloc ?_ ?_ _); rotate_left; (focus (first | omega | (simp; done) | (simp; omega)))) | (with_reducible refine Below.drew ?_) | (refine below_on ?_ (by assumption))))) hb; clear hb)
    | (go_at_call 30; refine (w_text _ (HV.out.below (by have := hB8.size; focus (repeat (first | (with_reducible exact Below.refl _ _) | (with_reducible assumption) | ((with_reducible refine Below.setCell ?_ ?_ _); rotate_left; (focus (first | omega | (simp; done) | (simp; omega)))) | ((with_reducible refine Below.alloc ?_ ?_ _); rotate_left; (focus (first | omega | (simp; done) | (simp; omega)))) | (with_reducible refine Below.drew ?_) | (refine below_on ?_ (by assumption))))))).mono ?_; rintro e w' ⟨rfl, hb⟩; have hB8 : Below w.heap.size w _ := below_on (by have := hB8.size; focus (repeat (first | (with_reducible exact Below.refl _ _) | (with_reducible assumption) | ((with_reducible refine Below.setCell ?_ ?_ _); rotate_left; (focus (first | omega | (simp; done) | (simp; omega)))) | ((with_reducible refine Below.alloc ?_ ?_ _); rotate_left; (focus (first | omega | (simp; done) | (simp; omega)))) | (with_reducible refine Below.drew ?_) | (refine below_on ?_ (by assumption))))) hb; clear hb)
    | (go_at_call 31; refine (w_parse _ (HV.out.below (by have := hB8.size; focus (repeat (first | (with_reducible exact Below.refl _ _) | (with_reducible assumption) | ((with_reducible refine Below.setCell ?_ ?_ _); rotate_left; (focus (first | omega | (simp; done) | (simp; omega)))) | ((with_reducible refine Below.alloc ?_ ?_ _); rotate_left; (focus (first | omega | (simp; done) | (simp; omega)))) | (with_reducible refine Below.drew ?_) | (refine below_on ?_ (by assumption))))))).mono ?_; rintro e w' ⟨rfl, hb⟩; have hB8 : Below w.heap.size w _ := below_on (by have := hB8.size; focus (repeat (first | (with_reducible exact Below.refl _ _) | (with_reducible assumption) | ((with_reducible refine Below.setCell ?_ ?_ _); rotate_left; (focus (first | omega | (simp; done) | (simp; omega)))) | ((with_reducible refine Below.alloc ?_ ?_ _); rotate_left; (focus (first | omega | (simp; done) | (simp; omega)))) | (with_reducible refine Below.drew ?_) | (refine below_on ?_ (by assumption))))) hb; clear hb)
    | (go_at_call 11; refine (w_laid _).mono ?_; rintro e wl ⟨rfl, hb⟩; have hB8 : Below w.heap.size w _ := below_on (by have := hB8.size; focus (repeat (first | (with_reducible exact Below.refl _ _) | (with_reducible assumption) | ((with_reducible refine Below.setCell ?_ ?_ _); rotate_left; (focus (first | omega | (simp; done) | (simp; omega)))) | ((with_reducible refine Below.alloc ?_ ?_ _); rotate_left; (focus (first | omega | (simp; done) | (simp; omega)))) | (with_reducible refine Below.drew ?_) | (refine below_on ?_ (by assumption))))) hb; clear hb))
  have hsl := hB8.size
  refine abs_wp (fun W => W.heap[wl.heap.size]? = some (.cells #[.int .i64 1, .int .i64 5, .int .i64 2, .int .i64 0] 25 (0, 0)) ∧ Below w.heap.size w W) ⟨heap_new _ _, by focus (repeat (first | (with_reducible exact Below.refl _ _) | (with_reducible assumption) | ((with_reducible refine Below.setCell ?_ ?_ _); rotate_left; (focus (first | omega | (simp; done) | (simp; omega)))) | ((with_reducible refine Below.alloc ?_ ?_ _); rotate_left; (focus (first | omega | (simp; done) | (simp; omega)))) | (with_reducible refine Below.drew ?_) | (refine below_on ?_ (by assumption))))⟩ fun W ⟨y0, hB9⟩ => ?_
  clear hB8
  refine region_qt 46 (by kernel_rfl) (by kernel_rfl) fun X _ mk hmk hcl => ?_
  have c0 := mk_cell hmk y0
  simp only [List.take_succ_cons, List.take_zero, List.drop_succ_cons, List.drop_zero]
  repeat (go_big_quiet_step (first | (go_at_call 13; exact (law_num _ _).mono fun e w' h => ⟨h.1, ⟨_, h.2.symm⟩⟩) | (go_at_call 44; exact (law_of _ _ _ _ _).mono fun e w' h => ⟨h.1, hcl _ _ h.2⟩)))
  refine wpQuiet_nil ?_
  rintro _ ⟨x, rfl⟩
  clear c0
  have hx := hmk x
  clear hcl hmk
  generalize mk x = W10 at hx
  have hB10 := below_on hB9 hx
  clear hx y0 hB9
  go_wp2
  go_ret
  exact ⟨rfl, hB10⟩
end Go.Proofs.YtbhfnfokihdjjaaGreatDoor
