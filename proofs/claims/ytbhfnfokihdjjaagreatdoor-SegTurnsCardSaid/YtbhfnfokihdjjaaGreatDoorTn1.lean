/-
  The law SegTurns: any segment, any node. Conditions stand in each theorem.
-/
import Derived.Test.YtbhfnfokihdjjaaGreatDoorBq
import Derived.Test.YtbhfnfokihdjjaaGreatDoorSg10
import Derived.Test.YtbhfnfokihdjjaaGreatDoorRb4
import Derived.Test.YtbhfnfokihdjjaaGreatDoorTs4
import Derived.Test.YtbhfnfokihdjjaaGreatDoorWh1
namespace Go.Proofs.YtbhfnfokihdjjaaGreatDoor
open Go.RowKit Go.BigFrame

@[go_sem] theorem fieldRat0 (a b c d : Value) (w : World) : (Instr.field 55 (.agg #[a, b, c, d]) 0).run Tryz.prog w = .ok (.agg #[a, b]) w := by kernel_rfl
theorem w_turn (w : World) : Calls Tryz.prog 10 #[.agg #[.int .i64 0, .int .i64 0], .agg #[.int .i64 2, .int .i64 0], .agg #[.int .i64 1, .int .i64 1]] w fun e w' => e = .returned (.tuple #[.int .i64 1, .int .i64 0]) ∧ Below w.heap.size w w' := turn_any 0 0 2 0 1 1 w
theorem w_make (u v : Value) (w : World) (hu : BigAt w u (-1)) (hv : BigAt w v 2) :
    Calls Tryz.prog 42 #[u, v] w fun e w' => ∃ r, e = .returned r ∧ RatAt w' r (-1) ((2 : Nat) : Int) ∧ Below w.heap.size w w' := rmake_pos (-1) 2 (by decide) (by decide) (by decide) u v w hu hv
theorem w_out (u : Value) (w : World) (hu : RatAt w u (-1) ((2 : Nat) : Int)) :
    Calls Tryz.prog 41 #[u] w fun e w' => e = .returned (.tuple #[.agg #[.bool (ng (-1)), .int .u64 (dg (ab (-1)) 0), .int .u64 (dg (ab (-1)) 1), .int .u64 (dg (ab (-1)) 2), .int .u64 (dg (ab (-1)) 3), .bool false, .int .u64 (dg (2) 0), .int .u64 (dg (2) 1), .int .u64 (dg (2) 2), .int .u64 (dg (2) 3)], .int .i64 0]) ∧ Below w.heap.size w w' := rrout_ok (-1) 2 (by decide) (by decide) u w hu
theorem pt_low : Pt 1 1 (-1) 2 := ⟨⟨by decide, by decide, by decide, by decide⟩, ⟨by decide, by decide, by decide, by decide⟩, by decide, by decide⟩
theorem w_side (w : World) (hV : Vars w) : Calls Tryz.prog 19 #[.agg #[.int .i64 0, .int .i64 0, .int .i64 2, .int .i64 0], .agg #[.bool (ng (1)), .int .u64 (dg (ab (1)) 0), .int .u64 (dg (ab (1)) 1), .int .u64 (dg (ab (1)) 2), .int .u64 (dg (ab (1)) 3), .bool false, .int .u64 (dg (1) 0), .int .u64 (dg (1) 1), .int .u64 (dg (1) 2), .int .u64 (dg (1) 3), .bool (ng (-1)), .int .u64 (dg (ab (-1)) 0), .int .u64 (dg (ab (-1)) 1), .int .u64 (dg (ab (-1)) 2), .int .u64 (dg (ab (-1)) 3), .bool false, .int .u64 (dg (2) 0), .int .u64 (dg (2) 1), .int .u64 (dg (2) 2), .int .u64 (dg (2) 3)]] w fun e w' => e = .returned (.tuple #[.int .i64 (-1), .int .i64 0]) ∧ Below w.heap.size w w' := by
  have h := seg_side_ok 0 0 2 0 1 1 (-1) 2 (by decide) pt_low w hV
  rw [show sideV 0 0 (2 - 0) (0 - 0) 1 1 (-1) 2 = -1 by decide] at h
  exact h
theorem w_on (w : World) (hV : Vars w) : Calls Tryz.prog 20 #[.agg #[.int .i64 0, .int .i64 0, .int .i64 2, .int .i64 2], .agg #[.bool (ng (1)), .int .u64 (dg (ab (1)) 0), .int .u64 (dg (ab (1)) 1), .int .u64 (dg (ab (1)) 2), .int .u64 (dg (ab (1)) 3), .bool false, .int .u64 (dg (1) 0), .int .u64 (dg (1) 1), .int .u64 (dg (1) 2), .int .u64 (dg (1) 3), .bool (ng (1)), .int .u64 (dg (ab (1)) 0), .int .u64 (dg (ab (1)) 1), .int .u64 (dg (ab (1)) 2), .int .u64 (dg (ab (1)) 3), .bool false, .int .u64 (dg (1) 0), .int .u64 (dg (1) 1), .int .u64 (dg (1) 2), .int .u64 (dg (1) 3)]] w fun e w' => e = .returned (.tuple #[.bool true, .int .i64 0]) ∧ Below w.heap.size w w' := by
  have h := seg_on_ok 0 0 2 2 1 1 1 1 (by decide) (node_pt (by decide)) w hV
  rw [show onB 0 0 2 2 1 1 1 1 = true by decide] at h
  exact h
theorem w_off (w : World) (hV : Vars w) : Calls Tryz.prog 20 #[.agg #[.int .i64 0, .int .i64 0, .int .i64 2, .int .i64 2], .agg #[.bool (ng (3)), .int .u64 (dg (ab (3)) 0), .int .u64 (dg (ab (3)) 1), .int .u64 (dg (ab (3)) 2), .int .u64 (dg (ab (3)) 3), .bool false, .int .u64 (dg (1) 0), .int .u64 (dg (1) 1), .int .u64 (dg (1) 2), .int .u64 (dg (1) 3), .bool (ng (3)), .int .u64 (dg (ab (3)) 0), .int .u64 (dg (ab (3)) 1), .int .u64 (dg (ab (3)) 2), .int .u64 (dg (ab (3)) 3), .bool false, .int .u64 (dg (1) 0), .int .u64 (dg (1) 1), .int .u64 (dg (1) 2), .int .u64 (dg (1) 3)]] w fun e w' => e = .returned (.tuple #[.bool false, .int .i64 0]) ∧ Below w.heap.size w w' := by
  have h := seg_on_ok 0 0 2 2 3 1 3 1 (by decide) (node_pt (by decide)) w hV
  rw [show onB 0 0 2 2 3 1 3 1 = false by decide] at h
  exact h
theorem w_text (w : World) (hV : Vars w) : Calls Tryz.prog 30 #[.agg #[.int .i64 0, .int .i64 0, .int .i64 1, .int .i64 (-2)]] w fun e w' => e = .returned (.tuple #[.string ⟨#[48, 32, 48, 44, 49, 32, 45, 50]⟩, .int .i64 0]) ∧ Below w.heap.size w w' := by
  have h := seg_text_ok 0 0 1 (-2) (by decide) w hV
  rw [show segS 0 0 1 (-2) = ⟨#[48, 32, 48, 44, 49, 32, 45, 50]⟩ by kernel_rfl] at h
  exact h
theorem w_num (w : World) (hV : Vars w) : Calls Tryz.prog 96 #[.string ⟨#[48]⟩] w fun e w' => e = .returned (.int .i64 0) ∧ Below w.heap.size w w' :=
  number_ok ⟨#[48]⟩ 0 (by decide) (by decide) (by decide) (by kernel_rfl) (by kernel_rfl) w hV
theorem w_node (w : World) (hV : Vars w) : Calls Tryz.prog 67 #[.string ⟨#[48, 32, 48]⟩] w fun e w' => e = .returned (.agg #[.int .i64 0, .int .i64 0]) ∧ Below w.heap.size w w' :=
  seg_node_ok ⟨#[48, 32, 48]⟩ ⟨#[48]⟩ ⟨#[48]⟩ 0 0 (by decide) (by kernel_rfl) ⟨w_num⟩ ⟨w_num⟩ w hV
theorem w_parse (w : World) (hV : Vars w) : Calls Tryz.prog 31 #[.string ⟨#[48, 32, 48, 44, 48, 32, 48]⟩] w fun e w' => e = .returned (.tuple #[.agg #[.int .i64 0, .int .i64 0, .int .i64 0, .int .i64 0], .int .i64 140]) ∧ Below w.heap.size w w' :=
  segp_none ⟨#[48, 32, 48, 44, 48, 32, 48]⟩ ⟨#[48, 32, 48]⟩ ⟨#[48, 32, 48]⟩ 0 0 0 0 (by decide) (by kernel_rfl) (by decide) ⟨w_node⟩ ⟨w_node⟩ w hV
theorem w_laid (w : World) : Calls Tryz.prog 11 #[.agg #[.int .i64 2, .int .i64 0, .int .i64 1, .int .i64 5]] w fun e w' => e = .returned (.tuple #[.agg #[.int .i64 1, .int .i64 5, .int .i64 2, .int .i64 0], .int .i64 0]) ∧ Below w.heap.size w w' := laid_any 2 0 1 5 w
set_option maxRecDepth 20000 in
set_option maxHeartbeats 8000000 in
theorem law_works (w : World) (hV : Vars w) :
    Calls Tryz.prog 17 #[] w fun e w' => e = .returned (.bool true) ∧ Below w.heap.size w w' := by
  have HV := Hd.mk hV
  clear hV
  go_enter Tryz.func17, Tryz.ntmps17
  go_wp2_with fail
  refine (w_turn _).mono ?_
  rintro e w1 ⟨rfl, hB⟩
  go_wp2_with fail
  refine (law_at 1 0 (by decide) (by decide) _).mono ?_
  rintro e w2 ⟨rfl, hb⟩
  have hB2 := below_on hB hb
  clear hb hB
  go_upto_region 3 with (refine wpList_store_block rfl 46 (.tmp 3) (.tmp 23) rfl w2.heap.size #[.bool (ng (1)), .int .u64 (dg (ab (1)) 0), .int .u64 (dg (ab (1)) 1), .int .u64 (dg (ab (1)) 2), .int .u64 (dg (ab (1)) 3), .bool false, .int .u64 (dg (1) 0), .int .u64 (dg (1) 1), .int .u64 (dg (1) 2), .int .u64 (dg (1) 3), .bool (ng (0)), .int .u64 (dg (ab (0)) 0), .int .u64 (dg (ab (0)) 1), .int .u64 (dg (ab (0)) 2), .int .u64 (dg (ab (0)) 3), .bool false, .int .u64 (dg (1) 0), .int .u64 (dg (1) 1), .int .u64 (dg (1) 2), .int .u64 (dg (1) 3)] rfl rfl (heap_new _ _) rfl (by kernel_rfl) rfl ?_; rintro W3 ⟨k1, k2, k3⟩)
  refine abs_wp (fun W => W.heap[w2.heap.size]? = some (.cells #[.bool (ng (1)), .int .u64 (dg (ab (1)) 0), .int .u64 (dg (ab (1)) 1), .int .u64 (dg (ab (1)) 2), .int .u64 (dg (ab (1)) 3), .bool false, .int .u64 (dg (1) 0), .int .u64 (dg (1) 1), .int .u64 (dg (1) 2), .int .u64 (dg (1) 3), .bool (ng (0)), .int .u64 (dg (ab (0)) 0), .int .u64 (dg (ab (0)) 1), .int .u64 (dg (ab (0)) 2), .int .u64 (dg (ab (0)) 3), .bool false, .int .u64 (dg (1) 0), .int .u64 (dg (1) 1), .int .u64 (dg (1) 2), .int .u64 (dg (1) 3)] 46 (0, 0)) ∧ Below w.heap.size w W) ⟨k1, (Below.alloc hB2 hB2.size _).trans (k3 _ hB2.size)⟩ fun W ⟨y0, hB⟩ => ?_
  obtain ⟨b0, hb0⟩ : ∃ b, b = w2.heap.size := ⟨_, rfl⟩
  have hb0w : w.heap.size ≤ b0 := by rw [hb0]; exact hB2.size
  rw [← hb0] at y0 ⊢
  clear k1 k2 k3 hb0 hB2
  generalize (Value.agg #[.bool (ng (1)), .int .u64 (dg (ab (1)) 0), .int .u64 (dg (ab (1)) 1), .int .u64 (dg (ab (1)) 2), .int .u64 (dg (ab (1)) 3), .bool false, .int .u64 (dg (1) 0), .int .u64 (dg (1) 1), .int .u64 (dg (1) 2), .int .u64 (dg (1) 3), .bool (ng (0)), .int .u64 (dg (ab (0)) 0), .int .u64 (dg (ab (0)) 1), .int .u64 (dg (ab (0)) 2), .int .u64 (dg (ab (0)) 3), .bool false, .int .u64 (dg (1) 0), .int .u64 (dg (1) 1), .int .u64 (dg (1) 2), .int .u64 (dg (1) 3)]) = V0
  go_wp2_with fail
  refine (rrnum_any (-1) (by decide) (by decide) _).mono ?_
  rintro e w3 ⟨v1, rfl, ⟨A, c, B, e1, rfl, g1, g2, _, _⟩, hb⟩
  have y1 := heap_below hb y0
  have hB3 := below_on hB hb
  have q1 : BigAt w3 (.agg #[.bool (ng (-1)), .slice A (dd (ab (-1))).length c]) (-1) := ⟨A, c, rfl, g1, g2⟩
  have HQ1 := Hd.mk q1
  clear hb y0 hB g1 g2 q1
  go_wp2_with fail
  refine (rrnum_any 2 (by decide) (by decide) _).mono ?_
  rintro e w4 ⟨v2, rfl, ⟨A2, c2, B2, e2, rfl, g3, g4, _, _⟩, hb⟩
  have y2 := heap_below hb y1
  have hB4 := below_on hB3 hb
  have q2 : BigAt w4 (.agg #[.bool (ng 2), .slice A2 (dd (ab 2)).length c2]) 2 := ⟨A2, c2, rfl, g3, g4⟩
  have HQ2 := Hd.mk (And.intro (HQ1.out.below hb) q2)
  clear hb y1 hB3 g3 g4 q2 HQ1
  go_wp2_with fail
  refine (w_make _ _ _ HQ2.out.1 HQ2.out.2).mono ?_
  rintro e w5 ⟨r, rfl, hr, hb⟩
  have y3 := heap_below hb y2
  have hB5 := below_on hB4 hb
  have HR := Hd.mk hr
  clear hb y2 hB4 hr HQ2
  go_wp2_with fail
  refine (w_out _ _ HR.out).mono ?_
  rintro e w6 ⟨rfl, hb⟩
  have x0 := heap_below hb y3
  have hB6 := below_on hB5 hb
  clear hb y3 hB5 HR
  have c0 := cell_at x0
  have f0 := frozen_at x0
  go_upto_region 4 with (fail)
  refine abs_wp (fun W => W.heap[b0]? = some (.cells #[.bool (ng (1)), .int .u64 (dg (ab (1)) 0), .int .u64 (dg (ab (1)) 1), .int .u64 (dg (ab (1)) 2), .int .u64 (dg (ab (1)) 3), .bool false, .int .u64 (dg (1) 0), .int .u64 (dg (1) 1), .int .u64 (dg (1) 2), .int .u64 (dg (1) 3), .bool (ng (-1)), .int .u64 (dg (ab (-1)) 0), .int .u64 (dg (ab (-1)) 1), .int .u64 (dg (ab (-1)) 2), .int .u64 (dg (ab (-1)) 3), .bool false, .int .u64 (dg (2) 0), .int .u64 (dg (2) 1), .int .u64 (dg (2) 2), .int .u64 (dg (2) 3)] 46 (0, 0)) ∧ Below w.heap.size w W) ⟨by simpa using (heap_set (heap_set (heap_set (heap_set (heap_set (heap_set (heap_set (heap_set (heap_set (heap_set x0 10 (.bool (ng (-1)))) 11 (.int .u64 (dg (ab (-1)) 0))) 12 (.int .u64 (dg (ab (-1)) 1))) 13 (.int .u64 (dg (ab (-1)) 2))) 14 (.int .u64 (dg (ab (-1)) 3))) 15 (.bool false)) 16 (.int .u64 (dg 2 0))) 17 (.int .u64 (dg 2 1))) 18 (.int .u64 (dg 2 2))) 19 (.int .u64 (dg 2 3))), by focus (repeat (first | (with_reducible exact Below.refl _ _) | (with_reducible assumption) | ((with_reducible refine Below.setCell ?_ ?_ _); rotate_left; (focus (first | omega | (simp; done) | (simp; omega)))) | ((with_reducible refine Below.alloc ?_ ?_ _); rotate_left; (focus (first | omega | (simp; done) | (simp; omega)))) | (with_reducible refine Below.drew ?_) | (refine below_on ?_ (by assumption))))⟩ fun W ⟨y0, hB7⟩ => ?_
  clear x0 hB6 c0 f0
  have HVW := Hd.mk (HV.out.below hB7)
  have HSD := Hd.mk w_side
  generalize hP1 : (Value.agg #[.bool (ng (1)), .int .u64 (dg (ab (1)) 0), .int .u64 (dg (ab (1)) 1), .int .u64 (dg (ab (1)) 2), .int .u64 (dg (ab (1)) 3), .bool false, .int .u64 (dg (1) 0), .int .u64 (dg (1) 1), .int .u64 (dg (1) 2), .int .u64 (dg (1) 3), .bool (ng (-1)), .int .u64 (dg (ab (-1)) 0), .int .u64 (dg (ab (-1)) 1), .int .u64 (dg (ab (-1)) 2), .int .u64 (dg (ab (-1)) 3), .bool false, .int .u64 (dg (2) 0), .int .u64 (dg (2) 1), .int .u64 (dg (2) 2), .int .u64 (dg (2) 3)]) = V1 at *
  refine region_qt 7 (by kernel_rfl) (by kernel_rfl) fun X _ mk hmk hcl => ?_
  simp only [List.take_succ_cons, List.take_zero, List.drop_succ_cons, List.drop_zero]
  go_big_quiet_step ((go_at_call 44; exact (law_of _ _ _ _ _).mono fun e w' h => ⟨h.1, hcl _ _ h.2⟩))
  refine wpQuiet_load_point (.tmp 3) rfl (by kernel_rfl) b0 rfl (fun y => heap_below (hmk y) y0) rfl ?_
  rw [hP1]
  simp only [Act.put, List.setIfInBounds_toArray, List.set_cons_succ, List.set_cons_zero]
  repeat (go_big_quiet_step ((go_at_call 19; exact (HSD.out _ (HVW.out.below (hmk _))).mono fun e w' h => ⟨h.1, hcl _ _ h.2⟩)))
  refine wpQuiet_nil ?_
  rintro _ ⟨x, rfl⟩
  have hx := hmk x
  clear hcl hmk
  generalize mk x = W8 at hx
  have hB8 := below_on hB7 hx
  clear hx y0 hB7 HVW HSD hP1
  go_upto_region 10 with (first
    | (go_at_call 44; refine (law_of _ _ _ _ _).mono ?_; rintro e w' ⟨rfl, hb⟩; have hB8 : Below w.heap.size w _ := below_on (by have := hB8.size; focus (repeat (first | (with_reducible exact Below.refl _ _) | (with_reducible assumption) | ((with_reducible refine Below.setCell ?_ ?_ _); rotate_left; (focus (first | omega | (simp; done) | (simp; omega)))) | ((with_reducible refine Below.alloc ?_ ?_ _); rotate_left; (focus (first | omega | (simp; done) | (simp; omega)))) | (with_reducible refine Below.drew ?_) | (refine below_on ?_ (by assumption))))) hb; clear hb)
    | (go_at_call 35; refine (law_at _ _ (by decide) (by decide) _).mono ?_; rintro e w' ⟨rfl, hb⟩; have hB8 : Below w.heap.size w _ := below_on (by have := hB8.size; focus (repeat (first | (with_reducible exact Below.refl _ _) | (with_reducible assumption) | ((with_reducible refine Below.setCell ?_ ?_ _); rotate_left; (focus (first | omega | (simp; done) | (simp; omega)))) | ((with_reducible refine Below.alloc ?_ ?_ _); rotate_left; (focus (first | omega | (simp; done) | (simp; omega)))) | (with_reducible refine Below.drew ?_) | (refine below_on ?_ (by assumption))))) hb; clear hb)
    | (go_at_call 20; with_reducible refine (w_on _ (HV.out.below (by have := hB8.size; focus (repeat (first | (with_reducible exact Below.refl _ _) | (with_reducible assumption) | ((with_reducible refine Below.setCell ?_ ?_ _); rotate_left; (focus (first | omega | (simp; done) | (simp; omega)))) | ((with_reducible refine Below.alloc ?_ ?_ _); rotate_left; (focus (first | omega | (simp; done) | (simp; omega)))) | (with_reducible refine Below.drew ?_) | (refine below_on ?_ (by assumption))))))).mono ?_; rintro e w' ⟨rfl, hb⟩; have hB8 : Below w.heap.size w _ := below_on (by have := hB8.size; focus (repeat (first | (with_reducible exact Below.refl _ _) | (with_reducible assumption) | ((with_reducible refine Below.setCell ?_ ?_ _); rotate_left; (focus (first | omega | (simp; done) | (simp; omega)))) | ((with_reducible refine Below.alloc ?_ ?_ _); rotate_left; (focus (first | omega | (simp; done) | (simp; omega)))) | (with_reducible refine Below.drew ?_) | (refine below_on ?_ (by assumption))))) hb; clear hb)
    | (go_at_call 20; refine (w_off _ (HV.out.below (by have := hB8.size; focus (repeat (first | (with_reducible exact Below.refl _ _) | (with_reducible assumption) | ((with_reducible refine Below.setCell ?_ ?_ _); rotate_left; (focus (first | omega | (simp; done) | (simp; omega)))) | ((with_reducible refine Below.alloc ?_ ?_ _); rotate_left; (focus (first | omega | (simp; done) | (simp; omega)))) | (with_reducible refine Below.drew ?_) | (refine below_on ?_ (by assumption))))))).mono ?_; rintro e w' ⟨rfl, hb⟩; have hB8 : Below w.heap.size w _ := below_on (by have := hB8.size; focus (repeat (first | (with_reducible exact Below.refl _ _) | (with_reducible assumption) | ((with_reducible refine Below.setCell ?_ ?_ _); rotate_left; (focus (first | omega | (simp; done) | (simp; omega)))) | ((with_reducible refine Below.alloc ?_ ?_ _); rotate_left; (focus (first | omega | (simp; done) | (simp; omega)))) | (with_reducible refine Below.drew ?_) | (refine below_on ?_ (by assumption))))) hb; clear hb)
    | (go_at_call 30; refine (w_text _ (HV.out.below (by have := hB8.size; focus (repeat (first | (with_reducible exact Below.refl _ _) | (with_reducible assumption) | ((with_reducible refine Below.setCell ?_ ?_ _); rotate_left; (focus (first | omega | (simp; done) | (simp; omega)))) | ((with_reducible refine Below.alloc ?_ ?_ _); rotate_left; (focus (first | omega | (simp; done) | (simp; omega)))) | (with_reducible refine Below.drew ?_) | (refine below_on ?_ (by assumption))))))).mono ?_; rintro e w' ⟨rfl, hb⟩; have hB8 : Below w.heap.size w _ := below_on (by have := hB8.size; focus (repeat (first | (with_reducible exact Below.refl _ _) | (with_reducible assumption) | ((with_reducible refine Below.setCell ?_ ?_ _); rotate_left; (focus (first | omega | (simp; done) | (simp; omega)))) | ((with_reducible refine Below.alloc ?_ ?_ _); rotate_left; (focus (first | omega | (simp; done) | (simp; omega)))) | (with_reducible refine Below.drew ?_) | (refine below_on ?_ (by assumption))))) hb; clear hb)
    | (go_at_call 31; refine (w_parse _ (HV.out.below (by have := hB8.size; focus (repeat (first | (with_reducible exact Below.refl _ _) | (with_reducible assumption) | ((with_reducible refine Below.setCell ?_ ?_ _); rotate_left; (focus (first | omega | (simp; done) | (simp; omega)))) | ((with_reducible refine Below.alloc ?_ ?_ _); rotate_left; (focus (first | omega | (simp; done) | (simp; omega)))) | (with_reducible refine Below.drew ?_) | (refine below_on ?_ (by assumption))))))).mono ?_; rintro e w' ⟨rfl, hb⟩; have hB8 : Below w.heap.size w _ := below_on (by have := hB8.size; focus (repeat (first | (with_reducible exact Below.refl _ _) | (with_reducible assumption) | ((with_reducible refine Below.setCell ?_ ?_ _); rotate_left; (focus (first | omega | (simp; done) | (simp; omega)))) | ((with_reducible refine Below.alloc ?_ ?_ _); rotate_left; (focus (first | omega | (simp; done) | (simp; omega)))) | (with_reducible refine Below.drew ?_) | (refine below_on ?_ (by assumption))))) hb; clear hb)
    | (go_at_call 11; refine (w_laid _).mono ?_; rintro e wl ⟨rfl, hb⟩; have hB8 : Below w.heap.size w _ := below_on (by have := hB8.size; focus (repeat (first | (with_reducible exact Below.refl _ _) | (with_reducible assumption) | ((with_reducible refine Below.setCell ?_ ?_ _); rotate_left; (focus (first | omega | (simp; done) | (simp; omega)))) | ((with_reducible refine Below.alloc ?_ ?_ _); rotate_left; (focus (first | omega | (simp; done) | (simp; omega)))) | (with_reducible refine Below.drew ?_) | (refine below_on ?_ (by assumption))))) hb; clear hb))
  have hsl := hB8.size
  refine abs_wp (fun W => W.heap[wl.heap.size]? = some (.cells #[.int .i64 1, .int .i64 5, .int .i64 2, .int .i64 0] 25 (0, 0)) ∧ Below w.heap.size w W) ⟨heap_new _ _, by focus (repeat (first | (with_reducible exact Below.refl _ _) | (with_reducible assumption) | ((with_reducible refine Below.setCell ?_ ?_ _); rotate_left; (focus (first | omega | (simp; done) | (simp; omega)))) | ((with_reducible refine Below.alloc ?_ ?_ _); rotate_left; (focus (first | omega | (simp; done) | (simp; omega)))) | (with_reducible refine Below.drew ?_) | (refine below_on ?_ (by assumption))))⟩ fun W ⟨y0, hB9⟩ => ?_
  clear hB8
  refine region_qt 46 (by kernel_rfl) (by kernel_rfl) fun X _ mk hmk hcl => ?_
  have c0 := mk_cell hmk y0
  simp only [List.take_succ_cons, List.take_zero, List.drop_succ_cons, List.drop_zero]
  repeat (go_big_quiet_step (first | (go_at_call 13; exact (law_num _ _).mono fun e w' h => ⟨h.1, ⟨_, h.2.symm⟩⟩) | (go_at_call 44; exact (law_of _ _ _ _ _).mono fun e w' h => ⟨h.1, hcl _ _ h.2⟩)))
  refine wpQuiet_nil ?_
  rintro _ ⟨x, rfl⟩
  clear c0
  have hx := hmk x
  clear hcl hmk
  generalize mk x = W10 at hx
  have hB10 := below_on hB9 hx
  clear hx y0 hB9
  go_wp2
  go_ret
  exact ⟨rfl, hB10⟩
end Go.Proofs.YtbhfnfokihdjjaaGreatDoor

namespace Go.Proofs.YtbhfnfokihdjjaaGreatDoor
open Go.RowKit Go.BigFrame
set_option maxRecDepth 20000 in
set_option maxHeartbeats 8000000 in
theorem turns_true (ax ay bx by_ cx cy : Int) (hp : segB ax ay bx by_ = true) (w : World) (hV : Vars w) :
    Calls Tryz.prog 3 #[.agg #[.int .i64 ax, .int .i64 ay, .int .i64 bx, .int .i64 by_], .agg #[.int .i64 cx, .int .i64 cy]] w fun e w' => e = .returned (.bool true) ∧ Below w.heap.size w w' := by
  have HV := Hd.mk hV
  obtain ⟨T, hT⟩ : ∃ T, (if nodeB ax ay && (nodeB bx by_ && nodeB cx cy) then turnZ ax ay bx by_ cx cy else 0) = T := ⟨_, rfl⟩
  obtain ⟨E, hE⟩ : ∃ E : Int, (if nodeB ax ay && (nodeB bx by_ && nodeB cx cy) then 0 else 2) = E := ⟨_, rfl⟩
  obtain ⟨l0, l1, l2, l3, hL⟩ : ∃ l0 l1 l2 l3 : Int, (if backB ax ay bx by_ then (.agg #[.int .i64 bx, .int .i64 by_, .int .i64 ax, .int .i64 ay] : Value) else .agg #[.int .i64 ax, .int .i64 ay, .int .i64 bx, .int .i64 by_]) = .agg #[.int .i64 l0, .int .i64 l1, .int .i64 l2, .int .i64 l3] := by split <;> exact ⟨_, _, _, _, rfl⟩
  have HT : Hd (∀ w : World, Calls Tryz.prog 10 #[.agg #[.int .i64 ax, .int .i64 ay], .agg #[.int .i64 bx, .int .i64 by_], .agg #[.int .i64 cx, .int .i64 cy]] w fun e w' => e = .returned (.tuple #[.int .i64 T, .int .i64 E]) ∧ Below w.heap.size w w') := ⟨fun w => by have h := turn_any ax ay bx by_ cx cy w; rw [hT, hE] at h; exact h⟩
  have HRL : Hd (∀ w : World, Calls Tryz.prog 15 #[.agg #[.int .i64 ax, .int .i64 ay, .int .i64 bx, .int .i64 by_]] w fun e w' => e = .returned (.agg #[.int .i64 l0, .int .i64 l1, .int .i64 l2, .int .i64 l3]) ∧ Below w.heap.size w w') := ⟨fun w => by have h := rlaid_any ax ay bx by_ w; rw [hL] at h; exact h⟩
  have HTT := Hd.mk hT
  have HEE := Hd.mk hE
  clear hV hT hE
  have HLa : Hd (∀ w : World, Calls Tryz.prog 11 #[.agg #[.int .i64 ax, .int .i64 ay, .int .i64 bx, .int .i64 by_]] w fun e w' => e = .returned (.tuple #[.agg #[.int .i64 l0, .int .i64 l1, .int .i64 l2, .int .i64 l3], .int .i64 0]) ∧ Below w.heap.size w w') := ⟨fun w => by have h := laid_any ax ay bx by_ w; rw [hp, hL] at h; exact h⟩
  have HRi : Hd (∀ w : World, Calls Tryz.prog 12 #[.agg #[.int .i64 ax, .int .i64 ay, .int .i64 bx, .int .i64 by_]] w fun e w' => e = .returned (.bool true) ∧ Below w.heap.size w w') := ⟨fun w => by have h := rseg_right ax ay bx by_ w; rw [hp] at h; exact h⟩
  have HCk : Hd (∀ w : World, Calls Tryz.prog 14 #[.agg #[.int .i64 ax, .int .i64 ay, .int .i64 bx, .int .i64 by_]] w fun e w' => e = .returned (.int .i64 0) ∧ Below w.heap.size w w') := ⟨fun w => by have h := seg_check ax ay bx by_ w; rw [hp] at h; exact h⟩
  clear hp hL
  go_enter Tryz.func3, Tryz.ntmps3
  go_wp2_with fail
  refine (HT.out _).mono ?_
  rintro e w1 ⟨rfl, hb⟩
  have z01 := heap_below hb (heap_old (heap_new w (.cells #[.int .i64 ax, .int .i64 ay, .int .i64 bx, .int .i64 by_] 25)) _)
  have z11 := heap_below hb (heap_at (n := w.heap.size + 1) (by simp) (.cells #[.int .i64 cx, .int .i64 cy] 23))
  have hB1 : Below w.heap.size w w1 := below_on (by focus (repeat (first | (with_reducible exact Below.refl _ _) | (with_reducible assumption) | ((with_reducible refine Below.setCell ?_ ?_ _); rotate_left; (focus (first | omega | (simp; done) | (simp; omega)))) | ((with_reducible refine Below.alloc ?_ ?_ _); rotate_left; (focus (first | omega | (simp; done) | (simp; omega)))) | (with_reducible refine Below.drew ?_) | (refine below_on ?_ (by assumption))))) hb
  clear hb
  have c0 := cell_at z01
  have f0 := frozen_at z01
  have c1 := cell_at z11
  have f1 := frozen_at z11
  go_wp2_with fail
  refine (HLa.out _).mono ?_
  rintro e w2 ⟨rfl, hb⟩
  clear c0 f0 c1 f1
  have z02 := heap_below hb z01
  have z12 := heap_below hb z11
  have hB2 := below_on hB1 hb
  clear hb z01 z11 hB1
  have c0 := cell_at z02
  have f0 := frozen_at z02
  have c1 := cell_at z12
  have f1 := frozen_at z12
  have hsz := hB2.size
  go_upto_region 3 with (fail)
  clear c0 f0 c1 f1
  obtain ⟨b2, hb2⟩ : ∃ b, b = w2.heap.size := ⟨_, rfl⟩
  refine abs_wp (fun W => W.heap[w.heap.size]? = some (.cells #[.int .i64 ax, .int .i64 ay, .int .i64 bx, .int .i64 by_] 25 (0, 0)) ∧ W.heap[w.heap.size + 1]? = some (.cells #[.int .i64 cx, .int .i64 cy] 23 (0, 0)) ∧ W.heap[w2.heap.size]? = some (.cells #[.int .i64 l0, .int .i64 l1, .int .i64 l2, .int .i64 l3] 25 (0, 0)) ∧ Below w.heap.size w W) ⟨heap_old z02 _, heap_old z12 _, heap_new w2 _, hB2.alloc hsz _⟩ fun W ⟨z0a, z1a, z2a, hBa⟩ => ?_
  rw [← hb2] at z2a ⊢
  clear z02 z12 hB2 hsz hb2
  have c0 := cell_at z0a
  have f0 := frozen_at z0a
  have c1 := cell_at z1a
  have f1 := frozen_at z1a
  have c2 := cell_at z2a
  have f2 := frozen_at z2a
  go_wp2_with fail
  refine (HRi.out _).mono ?_
  rintro e w3 ⟨rfl, hb⟩
  clear c0 f0 c1 f1 c2 f2
  have z03 := heap_below hb z0a
  have z13 := heap_below hb z1a
  have z23 := heap_below hb z2a
  have hB3 := below_on hBa hb
  clear hb z0a z1a z2a hBa
  have c0 := cell_at z03
  have f0 := frozen_at z03
  have c1 := cell_at z13
  have f1 := frozen_at z13
  have c2 := cell_at z23
  have f2 := frozen_at z23
  go_wp2_with fail
  refine (HCk.out _).mono ?_
  rintro e w4 ⟨rfl, hb⟩
  clear c0 f0 c1 f1 c2 f2
  have z04 := heap_below hb z03
  have z14 := heap_below hb z13
  have z24 := heap_below hb z23
  have hB4 := below_on hB3 hb
  clear hb z03 z13 z23 hB3
  have c0 := cell_at z04
  have f0 := frozen_at z04
  have c1 := cell_at z14
  have f1 := frozen_at z14
  have c2 := cell_at z24
  have f2 := frozen_at z24
  go_upto_region 8 with (go_at_call 13; refine (law_num _ _).mono ?_; rintro e w' ⟨rfl, rfl⟩)
  clear c0 f0 c1 f1 c2 f2
  refine region_qt 26 (by kernel_rfl) (by kernel_rfl) fun X _ mk hmk hcl => ?_
  have c0 := mk_cell hmk z04
  have c2 := mk_cell hmk z24
  simp only [List.take_succ_cons, List.take_zero, List.drop_succ_cons, List.drop_zero]
  repeat (go_big_quiet_step (first | (go_at_call 13; exact (law_num _ _).mono fun e w' h => ⟨h.1, ⟨_, h.2.symm⟩⟩) | (go_at_call 15; exact (HRL.out _).mono fun e w' h => ⟨h.1, hcl _ _ h.2⟩)))
  refine wpQuiet_nil ?_
  rintro _ ⟨x, rfl⟩
  clear c0 c2
  have hb := hmk x
  clear hcl hmk
  generalize mk x = w5 at hb
  have z05 := heap_below hb z04
  have z15 := heap_below hb z14
  have z25 := heap_below hb z24
  have hB5 := below_on hB4 hb
  clear hb z04 z14 z24 hB4
  go_upto_region 10 with (fail)
  clear HLa HRi HCk HRL HT
  cases h0 : nodeB ax ay with
  | false =>
    have HN0 := Hd.mk h0
    obtain rfl : T = 0 := by have := HTT.out; rw [h0] at this; exact this.symm
    obtain rfl : E = 2 := by have := HEE.out; rw [h0] at this; exact this.symm
    clear h0
    have c0 := cell_at z05
    have f0 := frozen_at z05
    have c1 := cell_at z15
    have f1 := frozen_at z15
    have c2 := cell_at z25
    have f2 := frozen_at z25
    go_wp2_with fail
    refine (rnode_v ax ay false HN0.out _).mono ?_
    rintro e w6 ⟨rfl, hb⟩
    clear c0 f0 c1 f1 c2 f2
    have z06 := heap_below hb z05
    have z16 := heap_below hb z15
    have z26 := heap_below hb z25
    have hB6 := below_on hB5 hb
    clear hb z05 z15 z25 hB5
    have c0 := cell_at z06
    have f0 := frozen_at z06
    have c1 := cell_at z16
    have f1 := frozen_at z16
    have c2 := cell_at z26
    have f2 := frozen_at z26
    go_wp2_with (go_at_call 13; refine (law_num _ _).mono ?_; rintro e w' ⟨rfl, rfl⟩)
    refine (law_works _ (HV.out.below hB6)).mono ?_
    rintro e wz ⟨rfl, hb⟩
    have hBz := below_on hB6 hb
    clear c0 f0 c1 f1 c2 f2
    clear hb hB6 z06 z16 z26
    go_wp2
    go_ret
    exact ⟨rfl, hBz⟩
  | true =>
    have HN0 := Hd.mk h0
    cases h1 : nodeB bx by_ with
    | false =>
      have HN1 := Hd.mk h1
      obtain rfl : T = 0 := by have := HTT.out; rw [h0, h1] at this; exact this.symm
      obtain rfl : E = 2 := by have := HEE.out; rw [h0, h1] at this; exact this.symm
      clear h0 h1
      have c0 := cell_at z05
      have f0 := frozen_at z05
      have c1 := cell_at z15
      have f1 := frozen_at z15
      have c2 := cell_at z25
      have f2 := frozen_at z25
      go_wp2_with fail
      refine (rnode_v ax ay true HN0.out _).mono ?_
      rintro e w6 ⟨rfl, hb⟩
      clear c0 f0 c1 f1 c2 f2
      have z06 := heap_below hb z05
      have z16 := heap_below hb z15
      have z26 := heap_below hb z25
      have hB6 := below_on hB5 hb
      clear hb z05 z15 z25 hB5
      have c0 := cell_at z06
      have f0 := frozen_at z06
      have c1 := cell_at z16
      have f1 := frozen_at z16
      have c2 := cell_at z26
      have f2 := frozen_at z26
      go_wp2_with fail
      refine (rnode_v bx by_ false HN1.out _).mono ?_
      rintro e w7 ⟨rfl, hb⟩
      clear c0 f0 c1 f1 c2 f2
      have z07 := heap_below hb z06
      have z17 := heap_below hb z16
      have z27 := heap_below hb z26
      have hB7 := below_on hB6 hb
      clear hb z06 z16 z26 hB6
      have c0 := cell_at z07
      have f0 := frozen_at z07
      have c1 := cell_at z17
      have f1 := frozen_at z17
      have c2 := cell_at z27
      have f2 := frozen_at z27
      go_wp2_with (go_at_call 13; refine (law_num _ _).mono ?_; rintro e w' ⟨rfl, rfl⟩)
      refine (law_works _ (HV.out.below hB7)).mono ?_
      rintro e wz ⟨rfl, hb⟩
      have hBz := below_on hB7 hb
      clear c0 f0 c1 f1 c2 f2
      clear hb hB7 z07 z17 z27
      go_wp2
      go_ret
      exact ⟨rfl, hBz⟩
    | true =>
      have HN1 := Hd.mk h1
      cases h2 : nodeB cx cy with
      | false =>
        have HN2 := Hd.mk h2
        obtain rfl : T = 0 := by have := HTT.out; rw [h0, h1, h2] at this; exact this.symm
        obtain rfl : E = 2 := by have := HEE.out; rw [h0, h1, h2] at this; exact this.symm
        clear h0 h1 h2
        have c0 := cell_at z05
        have f0 := frozen_at z05
        have c1 := cell_at z15
        have f1 := frozen_at z15
        have c2 := cell_at z25
        have f2 := frozen_at z25
        go_wp2_with fail
        refine (rnode_v ax ay true HN0.out _).mono ?_
        rintro e w6 ⟨rfl, hb⟩
        clear c0 f0 c1 f1 c2 f2
        have z06 := heap_below hb z05
        have z16 := heap_below hb z15
        have z26 := heap_below hb z25
        have hB6 := below_on hB5 hb
        clear hb z05 z15 z25 hB5
        have c0 := cell_at z06
        have f0 := frozen_at z06
        have c1 := cell_at z16
        have f1 := frozen_at z16
        have c2 := cell_at z26
        have f2 := frozen_at z26
        go_wp2_with fail
        refine (rnode_v bx by_ true HN1.out _).mono ?_
        rintro e w7 ⟨rfl, hb⟩
        clear c0 f0 c1 f1 c2 f2
        have z07 := heap_below hb z06
        have z17 := heap_below hb z16
        have z27 := heap_below hb z26
        have hB7 := below_on hB6 hb
        clear hb z06 z16 z26 hB6
        have c0 := cell_at z07
        have f0 := frozen_at z07
        have c1 := cell_at z17
        have f1 := frozen_at z17
        have c2 := cell_at z27
        have f2 := frozen_at z27
        go_wp2_with fail
        refine (rnode_v cx cy false HN2.out _).mono ?_
        rintro e w8 ⟨rfl, hb⟩
        clear c0 f0 c1 f1 c2 f2
        have z08 := heap_below hb z07
        have z18 := heap_below hb z17
        have z28 := heap_below hb z27
        have hB8 := below_on hB7 hb
        clear hb z07 z17 z27 hB7
        have c0 := cell_at z08
        have f0 := frozen_at z08
        have c1 := cell_at z18
        have f1 := frozen_at z18
        have c2 := cell_at z28
        have f2 := frozen_at z28
        go_wp2_with (go_at_call 13; refine (law_num _ _).mono ?_; rintro e w' ⟨rfl, rfl⟩)
        refine (law_works _ (HV.out.below hB8)).mono ?_
        rintro e wz ⟨rfl, hb⟩
        have hBz := below_on hB8 hb
        clear c0 f0 c1 f1 c2 f2
        clear hb hB8 z08 z18 z28
        go_wp2
        go_ret
        exact ⟨rfl, hBz⟩
      | true =>
        have HN2 := Hd.mk h2
        obtain rfl : T = turnZ ax ay bx by_ cx cy := by have := HTT.out; rw [h0, h1, h2] at this; exact this.symm
        obtain rfl : E = 0 := by have := HEE.out; rw [h0, h1, h2] at this; exact this.symm
        clear h0 h1 h2
        have c0 := cell_at z05
        have f0 := frozen_at z05
        have c1 := cell_at z15
        have f1 := frozen_at z15
        have c2 := cell_at z25
        have f2 := frozen_at z25
        go_wp2_with fail
        refine (rnode_v ax ay true HN0.out _).mono ?_
        rintro e w6 ⟨rfl, hb⟩
        clear c0 f0 c1 f1 c2 f2
        have z06 := heap_below hb z05
        have z16 := heap_below hb z15
        have z26 := heap_below hb z25
        have hB6 := below_on hB5 hb
        clear hb z05 z15 z25 hB5
        have c0 := cell_at z06
        have f0 := frozen_at z06
        have c1 := cell_at z16
        have f1 := frozen_at z16
        have c2 := cell_at z26
        have f2 := frozen_at z26
        go_wp2_with fail
        refine (rnode_v bx by_ true HN1.out _).mono ?_
        rintro e w7 ⟨rfl, hb⟩
        clear c0 f0 c1 f1 c2 f2
        have z07 := heap_below hb z06
        have z17 := heap_below hb z16
        have z27 := heap_below hb z26
        have hB7 := below_on hB6 hb
        clear hb z06 z16 z26 hB6
        have c0 := cell_at z07
        have f0 := frozen_at z07
        have c1 := cell_at z17
        have f1 := frozen_at z17
        have c2 := cell_at z27
        have f2 := frozen_at z27
        go_wp2_with fail
        refine (rnode_v cx cy true HN2.out _).mono ?_
        rintro e w8 ⟨rfl, hb⟩
        clear c0 f0 c1 f1 c2 f2
        have z08 := heap_below hb z07
        have z18 := heap_below hb z17
        have z28 := heap_below hb z27
        have hB8 := below_on hB7 hb
        clear hb z07 z17 z27 hB7
        have c0 := cell_at z08
        have f0 := frozen_at z08
        have c1 := cell_at z18
        have f1 := frozen_at z18
        have c2 := cell_at z28
        have f2 := frozen_at z28
        go_wp2_with fail
        refine (rturn_ok ax ay bx by_ cx cy HN0.out HN1.out HN2.out _).mono ?_
        rintro e w9 ⟨rfl, hb⟩
        clear c0 f0 c1 f1 c2 f2
        have z09 := heap_below hb z08
        have z19 := heap_below hb z18
        have z29 := heap_below hb z28
        have hB9 := below_on hB8 hb
        clear hb z08 z18 z28 hB8
        have c0 := cell_at z09
        have f0 := frozen_at z09
        have c1 := cell_at z19
        have f1 := frozen_at z19
        have c2 := cell_at z29
        have f2 := frozen_at z29
        go_wp2_with (go_at_call 13; refine (law_num _ _).mono ?_; rintro e w' ⟨rfl, rfl⟩)
        refine (law_works _ (HV.out.below hB9)).mono ?_
        rintro e wz ⟨rfl, hb⟩
        have hBz := below_on hB9 hb
        clear c0 f0 c1 f1 c2 f2
        clear hb hB9 z09 z19 z29
        go_wp2
        go_ret
        exact ⟨rfl, hBz⟩
set_option maxRecDepth 20000 in
set_option maxHeartbeats 8000000 in
theorem turns_false (ax ay bx by_ cx cy : Int) (hp : segB ax ay bx by_ = false) (w : World) (hV : Vars w) :
    Calls Tryz.prog 3 #[.agg #[.int .i64 ax, .int .i64 ay, .int .i64 bx, .int .i64 by_], .agg #[.int .i64 cx, .int .i64 cy]] w fun e w' => e = .returned (.bool true) ∧ Below w.heap.size w w' := by
  have HV := Hd.mk hV
  obtain ⟨T, hT⟩ : ∃ T, (if nodeB ax ay && (nodeB bx by_ && nodeB cx cy) then turnZ ax ay bx by_ cx cy else 0) = T := ⟨_, rfl⟩
  obtain ⟨E, hE⟩ : ∃ E : Int, (if nodeB ax ay && (nodeB bx by_ && nodeB cx cy) then 0 else 2) = E := ⟨_, rfl⟩
  obtain ⟨l0, l1, l2, l3, hL⟩ : ∃ l0 l1 l2 l3 : Int, (if backB ax ay bx by_ then (.agg #[.int .i64 bx, .int .i64 by_, .int .i64 ax, .int .i64 ay] : Value) else .agg #[.int .i64 ax, .int .i64 ay, .int .i64 bx, .int .i64 by_]) = .agg #[.int .i64 l0, .int .i64 l1, .int .i64 l2, .int .i64 l3] := by split <;> exact ⟨_, _, _, _, rfl⟩
  have HT : Hd (∀ w : World, Calls Tryz.prog 10 #[.agg #[.int .i64 ax, .int .i64 ay], .agg #[.int .i64 bx, .int .i64 by_], .agg #[.int .i64 cx, .int .i64 cy]] w fun e w' => e = .returned (.tuple #[.int .i64 T, .int .i64 E]) ∧ Below w.heap.size w w') := ⟨fun w => by have h := turn_any ax ay bx by_ cx cy w; rw [hT, hE] at h; exact h⟩
  have HRL : Hd (∀ w : World, Calls Tryz.prog 15 #[.agg #[.int .i64 ax, .int .i64 ay, .int .i64 bx, .int .i64 by_]] w fun e w' => e = .returned (.agg #[.int .i64 l0, .int .i64 l1, .int .i64 l2, .int .i64 l3]) ∧ Below w.heap.size w w') := ⟨fun w => by have h := rlaid_any ax ay bx by_ w; rw [hL] at h; exact h⟩
  have HTT := Hd.mk hT
  have HEE := Hd.mk hE
  clear hV hT hE
  have HLa : Hd (∀ w : World, Calls Tryz.prog 11 #[.agg #[.int .i64 ax, .int .i64 ay, .int .i64 bx, .int .i64 by_]] w fun e w' => e = .returned (.tuple #[.agg #[.int .i64 0, .int .i64 0, .int .i64 0, .int .i64 0], .int .i64 2]) ∧ Below w.heap.size w w') := ⟨fun w => by have h := laid_any ax ay bx by_ w; rw [hp] at h; exact h⟩
  have HRi : Hd (∀ w : World, Calls Tryz.prog 12 #[.agg #[.int .i64 ax, .int .i64 ay, .int .i64 bx, .int .i64 by_]] w fun e w' => e = .returned (.bool false) ∧ Below w.heap.size w w') := ⟨fun w => by have h := rseg_right ax ay bx by_ w; rw [hp] at h; exact h⟩
  have HCk : Hd (∀ w : World, Calls Tryz.prog 14 #[.agg #[.int .i64 ax, .int .i64 ay, .int .i64 bx, .int .i64 by_]] w fun e w' => e = .returned (.int .i64 2) ∧ Below w.heap.size w w') := ⟨fun w => by have h := seg_check ax ay bx by_ w; rw [hp] at h; exact h⟩
  clear hp hL
  go_enter Tryz.func3, Tryz.ntmps3
  go_wp2_with fail
  refine (HT.out _).mono ?_
  rintro e w1 ⟨rfl, hb⟩
  have z01 := heap_below hb (heap_old (heap_new w (.cells #[.int .i64 ax, .int .i64 ay, .int .i64 bx, .int .i64 by_] 25)) _)
  have z11 := heap_below hb (heap_at (n := w.heap.size + 1) (by simp) (.cells #[.int .i64 cx, .int .i64 cy] 23))
  have hB1 : Below w.heap.size w w1 := below_on (by focus (repeat (first | (with_reducible exact Below.refl _ _) | (with_reducible assumption) | ((with_reducible refine Below.setCell ?_ ?_ _); rotate_left; (focus (first | omega | (simp; done) | (simp; omega)))) | ((with_reducible refine Below.alloc ?_ ?_ _); rotate_left; (focus (first | omega | (simp; done) | (simp; omega)))) | (with_reducible refine Below.drew ?_) | (refine below_on ?_ (by assumption))))) hb
  clear hb
  have c0 := cell_at z01
  have f0 := frozen_at z01
  have c1 := cell_at z11
  have f1 := frozen_at z11
  go_wp2_with fail
  refine (HLa.out _).mono ?_
  rintro e w2 ⟨rfl, hb⟩
  clear c0 f0 c1 f1
  have z02 := heap_below hb z01
  have z12 := heap_below hb z11
  have hB2 := below_on hB1 hb
  clear hb z01 z11 hB1
  have c0 := cell_at z02
  have f0 := frozen_at z02
  have c1 := cell_at z12
  have f1 := frozen_at z12
  have hsz := hB2.size
  go_upto_region 3 with (fail)
  clear c0 f0 c1 f1
  obtain ⟨b2, hb2⟩ : ∃ b, b = w2.heap.size := ⟨_, rfl⟩
  refine abs_wp (fun W => W.heap[w.heap.size]? = some (.cells #[.int .i64 ax, .int .i64 ay, .int .i64 bx, .int .i64 by_] 25 (0, 0)) ∧ W.heap[w.heap.size + 1]? = some (.cells #[.int .i64 cx, .int .i64 cy] 23 (0, 0)) ∧ W.heap[w2.heap.size]? = some (.cells #[.int .i64 0, .int .i64 0, .int .i64 0, .int .i64 0] 25 (0, 0)) ∧ Below w.heap.size w W) ⟨heap_old z02 _, heap_old z12 _, heap_new w2 _, hB2.alloc hsz _⟩ fun W ⟨z0a, z1a, z2a, hBa⟩ => ?_
  rw [← hb2] at z2a ⊢
  clear z02 z12 hB2 hsz hb2
  have c0 := cell_at z0a
  have f0 := frozen_at z0a
  have c1 := cell_at z1a
  have f1 := frozen_at z1a
  have c2 := cell_at z2a
  have f2 := frozen_at z2a
  go_wp2_with fail
  refine (HRi.out _).mono ?_
  rintro e w3 ⟨rfl, hb⟩
  clear c0 f0 c1 f1 c2 f2
  have z03 := heap_below hb z0a
  have z13 := heap_below hb z1a
  have z23 := heap_below hb z2a
  have hB3 := below_on hBa hb
  clear hb z0a z1a z2a hBa
  have c0 := cell_at z03
  have f0 := frozen_at z03
  have c1 := cell_at z13
  have f1 := frozen_at z13
  have c2 := cell_at z23
  have f2 := frozen_at z23
  go_wp2_with fail
  refine (HCk.out _).mono ?_
  rintro e w4 ⟨rfl, hb⟩
  clear c0 f0 c1 f1 c2 f2
  have z04 := heap_below hb z03
  have z14 := heap_below hb z13
  have z24 := heap_below hb z23
  have hB4 := below_on hB3 hb
  clear hb z03 z13 z23 hB3
  have c0 := cell_at z04
  have f0 := frozen_at z04
  have c1 := cell_at z14
  have f1 := frozen_at z14
  have c2 := cell_at z24
  have f2 := frozen_at z24
  go_upto_region 8 with (go_at_call 13; refine (law_num _ _).mono ?_; rintro e w' ⟨rfl, rfl⟩)
  clear c0 f0 c1 f1 c2 f2
  refine region_qt 26 (by kernel_rfl) (by kernel_rfl) fun X _ mk hmk hcl => ?_
  have c0 := mk_cell hmk z04
  have c2 := mk_cell hmk z24
  simp only [List.take_succ_cons, List.take_zero, List.drop_succ_cons, List.drop_zero]
  repeat (go_big_quiet_step (first | (go_at_call 13; exact (law_num _ _).mono fun e w' h => ⟨h.1, ⟨_, h.2.symm⟩⟩) | (go_at_call 15; exact (HRL.out _).mono fun e w' h => ⟨h.1, hcl _ _ h.2⟩)))
  refine wpQuiet_nil ?_
  rintro _ ⟨x, rfl⟩
  clear c0 c2
  have hb := hmk x
  clear hcl hmk
  generalize mk x = w5 at hb
  have z05 := heap_below hb z04
  have z15 := heap_below hb z14
  have z25 := heap_below hb z24
  have hB5 := below_on hB4 hb
  clear hb z04 z14 z24 hB4
  go_upto_region 10 with (fail)
  clear HLa HRi HCk HRL HT
  cases h0 : nodeB ax ay with
  | false =>
    have HN0 := Hd.mk h0
    obtain rfl : T = 0 := by have := HTT.out; rw [h0] at this; exact this.symm
    obtain rfl : E = 2 := by have := HEE.out; rw [h0] at this; exact this.symm
    clear h0
    have c0 := cell_at z05
    have f0 := frozen_at z05
    have c1 := cell_at z15
    have f1 := frozen_at z15
    have c2 := cell_at z25
    have f2 := frozen_at z25
    go_wp2_with fail
    refine (rnode_v ax ay false HN0.out _).mono ?_
    rintro e w6 ⟨rfl, hb⟩
    clear c0 f0 c1 f1 c2 f2
    have z06 := heap_below hb z05
    have z16 := heap_below hb z15
    have z26 := heap_below hb z25
    have hB6 := below_on hB5 hb
    clear hb z05 z15 z25 hB5
    have c0 := cell_at z06
    have f0 := frozen_at z06
    have c1 := cell_at z16
    have f1 := frozen_at z16
    have c2 := cell_at z26
    have f2 := frozen_at z26
    go_wp2_with (go_at_call 13; refine (law_num _ _).mono ?_; rintro e w' ⟨rfl, rfl⟩)
    refine (law_works _ (HV.out.below hB6)).mono ?_
    rintro e wz ⟨rfl, hb⟩
    have hBz := below_on hB6 hb
    clear c0 f0 c1 f1 c2 f2
    clear hb hB6 z06 z16 z26
    go_wp2
    go_ret
    exact ⟨rfl, hBz⟩
  | true =>
    have HN0 := Hd.mk h0
    cases h1 : nodeB bx by_ with
    | false =>
      have HN1 := Hd.mk h1
      obtain rfl : T = 0 := by have := HTT.out; rw [h0, h1] at this; exact this.symm
      obtain rfl : E = 2 := by have := HEE.out; rw [h0, h1] at this; exact this.symm
      clear h0 h1
      have c0 := cell_at z05
      have f0 := frozen_at z05
      have c1 := cell_at z15
      have f1 := frozen_at z15
      have c2 := cell_at z25
      have f2 := frozen_at z25
      go_wp2_with fail
      refine (rnode_v ax ay true HN0.out _).mono ?_
      rintro e w6 ⟨rfl, hb⟩
      clear c0 f0 c1 f1 c2 f2
      have z06 := heap_below hb z05
      have z16 := heap_below hb z15
      have z26 := heap_below hb z25
      have hB6 := below_on hB5 hb
      clear hb z05 z15 z25 hB5
      have c0 := cell_at z06
      have f0 := frozen_at z06
      have c1 := cell_at z16
      have f1 := frozen_at z16
      have c2 := cell_at z26
      have f2 := frozen_at z26
      go_wp2_with fail
      refine (rnode_v bx by_ false HN1.out _).mono ?_
      rintro e w7 ⟨rfl, hb⟩
      clear c0 f0 c1 f1 c2 f2
      have z07 := heap_below hb z06
      have z17 := heap_below hb z16
      have z27 := heap_below hb z26
      have hB7 := below_on hB6 hb
      clear hb z06 z16 z26 hB6
      have c0 := cell_at z07
      have f0 := frozen_at z07
      have c1 := cell_at z17
      have f1 := frozen_at z17
      have c2 := cell_at z27
      have f2 := frozen_at z27
      go_wp2_with (go_at_call 13; refine (law_num _ _).mono ?_; rintro e w' ⟨rfl, rfl⟩)
      refine (law_works _ (HV.out.below hB7)).mono ?_
      rintro e wz ⟨rfl, hb⟩
      have hBz := below_on hB7 hb
      clear c0 f0 c1 f1 c2 f2
      clear hb hB7 z07 z17 z27
      go_wp2
      go_ret
      exact ⟨rfl, hBz⟩
    | true =>
      have HN1 := Hd.mk h1
      cases h2 : nodeB cx cy with
      | false =>
        have HN2 := Hd.mk h2
        obtain rfl : T = 0 := by have := HTT.out; rw [h0, h1, h2] at this; exact this.symm
        obtain rfl : E = 2 := by have := HEE.out; rw [h0, h1, h2] at this; exact this.symm
        clear h0 h1 h2
        have c0 := cell_at z05
        have f0 := frozen_at z05
        have c1 := cell_at z15
        have f1 := frozen_at z15
        have c2 := cell_at z25
        have f2 := frozen_at z25
        go_wp2_with fail
        refine (rnode_v ax ay true HN0.out _).mono ?_
        rintro e w6 ⟨rfl, hb⟩
        clear c0 f0 c1 f1 c2 f2
        have z06 := heap_below hb z05
        have z16 := heap_below hb z15
        have z26 := heap_below hb z25
        have hB6 := below_on hB5 hb
        clear hb z05 z15 z25 hB5
        have c0 := cell_at z06
        have f0 := frozen_at z06
        have c1 := cell_at z16
        have f1 := frozen_at z16
        have c2 := cell_at z26
        have f2 := frozen_at z26
        go_wp2_with fail
        refine (rnode_v bx by_ true HN1.out _).mono ?_
        rintro e w7 ⟨rfl, hb⟩
        clear c0 f0 c1 f1 c2 f2
        have z07 := heap_below hb z06
        have z17 := heap_below hb z16
        have z27 := heap_below hb z26
        have hB7 := below_on hB6 hb
        clear hb z06 z16 z26 hB6
        have c0 := cell_at z07
        have f0 := frozen_at z07
        have c1 := cell_at z17
        have f1 := frozen_at z17
        have c2 := cell_at z27
        have f2 := frozen_at z27
        go_wp2_with fail
        refine (rnode_v cx cy false HN2.out _).mono ?_
        rintro e w8 ⟨rfl, hb⟩
        clear c0 f0 c1 f1 c2 f2
        have z08 := heap_below hb z07
        have z18 := heap_below hb z17
        have z28 := heap_below hb z27
        have hB8 := below_on hB7 hb
        clear hb z07 z17 z27 hB7
        have c0 := cell_at z08
        have f0 := frozen_at z08
        have c1 := cell_at z18
        have f1 := frozen_at z18
        have c2 := cell_at z28
        have f2 := frozen_at z28
        go_wp2_with (go_at_call 13; refine (law_num _ _).mono ?_; rintro e w' ⟨rfl, rfl⟩)
        refine (law_works _ (HV.out.below hB8)).mono ?_
        rintro e wz ⟨rfl, hb⟩
        have hBz := below_on hB8 hb
        clear c0 f0 c1 f1 c2 f2
        clear hb hB8 z08 z18 z28
        go_wp2
        go_ret
        exact ⟨rfl, hBz⟩
      | true =>
        have HN2 := Hd.mk h2
        obtain rfl : T = turnZ ax ay bx by_ cx cy := by have := HTT.out; rw [h0, h1, h2] at this; exact this.symm
        obtain rfl : E = 0 := by have := HEE.out; rw [h0, h1, h2] at this; exact this.symm
        clear h0 h1 h2
        have c0 := cell_at z05
        have f0 := frozen_at z05
        have c1 := cell_at z15
        have f1 := frozen_at z15
        have c2 := cell_at z25
        have f2 := frozen_at z25
        go_wp2_with fail
        refine (rnode_v ax ay true HN0.out _).mono ?_
        rintro e w6 ⟨rfl, hb⟩
        clear c0 f0 c1 f1 c2 f2
        have z06 := heap_below hb z05
        have z16 := heap_below hb z15
        have z26 := heap_below hb z25
        have hB6 := below_on hB5 hb
        clear hb z05 z15 z25 hB5
        have c0 := cell_at z06
        have f0 := frozen_at z06
        have c1 := cell_at z16
        have f1 := frozen_at z16
        have c2 := cell_at z26
        have f2 := frozen_at z26
        go_wp2_with fail
        refine (rnode_v bx by_ true HN1.out _).mono ?_
        rintro e w7 ⟨rfl, hb⟩
        clear c0 f0 c1 f1 c2 f2
        have z07 := heap_below hb z06
        have z17 := heap_below hb z16
        have z27 := heap_below hb z26
        have hB7 := below_on hB6 hb
        clear hb z06 z16 z26 hB6
        have c0 := cell_at z07
        have f0 := frozen_at z07
        have c1 := cell_at z17
        have f1 := frozen_at z17
        have c2 := cell_at z27
        have f2 := frozen_at z27
        go_wp2_with fail
        refine (rnode_v cx cy true HN2.out _).mono ?_
        rintro e w8 ⟨rfl, hb⟩
        clear c0 f0 c1 f1 c2 f2
        have z08 := heap_below hb z07
        have z18 := heap_below hb z17
        have z28 := heap_below hb z27
        have hB8 := below_on hB7 hb
        clear hb z07 z17 z27 hB7
        have c0 := cell_at z08
        have f0 := frozen_at z08
        have c1 := cell_at z18
        have f1 := frozen_at z18
        have c2 := cell_at z28
        have f2 := frozen_at z28
        go_wp2_with fail
        refine (rturn_ok ax ay bx by_ cx cy HN0.out HN1.out HN2.out _).mono ?_
        rintro e w9 ⟨rfl, hb⟩
        clear c0 f0 c1 f1 c2 f2
        have z09 := heap_below hb z08
        have z19 := heap_below hb z18
        have z29 := heap_below hb z28
        have hB9 := below_on hB8 hb
        clear hb z08 z18 z28 hB8
        have c0 := cell_at z09
        have f0 := frozen_at z09
        have c1 := cell_at z19
        have f1 := frozen_at z19
        have c2 := cell_at z29
        have f2 := frozen_at z29
        go_wp2_with (go_at_call 13; refine (law_num _ _).mono ?_; rintro e w' ⟨rfl, rfl⟩)
        refine (law_works _ (HV.out.below hB9)).mono ?_
        rintro e wz ⟨rfl, hb⟩
        have hBz := below_on hB9 hb
        clear c0 f0 c1 f1 c2 f2
        clear hb hB9 z09 z19 z29
        go_wp2
        go_ret
        exact ⟨rfl, hBz⟩
theorem turns_any (ax ay bx by_ cx cy : Int) (w : World) (hV : Vars w) :
    Calls Tryz.prog 3 #[.agg #[.int .i64 ax, .int .i64 ay, .int .i64 bx, .int .i64 by_], .agg #[.int .i64 cx, .int .i64 cy]] w fun e w' => e = .returned (.bool true) ∧ Below w.heap.size w w' := by
  cases h : segB ax ay bx by_
  · exact turns_false ax ay bx by_ cx cy h w hV
  · exact turns_true ax ay bx by_ cx cy h w hV
end Go.Proofs.YtbhfnfokihdjjaaGreatDoor
