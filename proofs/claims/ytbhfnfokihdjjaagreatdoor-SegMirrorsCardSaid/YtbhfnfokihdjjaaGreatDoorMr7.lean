/-
  The law SegMirrors: any segment, any point. Conditions stand in each theorem.
-/
import Derived.Test.YtbhfnfokihdjjaaGreatDoorHl1
import Derived.Test.YtbhfnfokihdjjaaGreatDoorHl2
import Derived.Test.YtbhfnfokihdjjaaGreatDoorMr2
import Derived.Test.YtbhfnfokihdjjaaGreatDoorMr6
namespace Go.Proofs.YtbhfnfokihdjjaaGreatDoor
open Go.RowKit Go.BigFrame
set_option maxRecDepth 20000 in
set_option maxHeartbeats 4000000 in
theorem mirrors_w1 (ax ay bx by_ : Int) (P : Array Value) (_hP : P.size = 20) (HRi : Hd (∀ w : World, Calls Tryz.prog 12 #[.agg #[.int .i64 ax, .int .i64 ay, .int .i64 bx, .int .i64 by_]] w fun e w' => e = .returned (.bool false) ∧ Below w.heap.size w w')) (w : World) (hV : Vars w) :
    Calls Tryz.prog 6 #[.agg #[.int .i64 ax, .int .i64 ay, .int .i64 bx, .int .i64 by_], .agg P] w fun e w' => e = .returned (.bool true) ∧ Below w.heap.size w w' := by
  have HV := Hd.mk hV
  clear hV
  go_enter Tryz.func6, Tryz.ntmps6
  go_upto_region 1 with (fail)
  refine abs_wp (fun W => W.heap[w.heap.size]? = some (.cells #[.int .i64 ax, .int .i64 ay, .int .i64 bx, .int .i64 by_] 25 (0, 0)) ∧ W.heap[w.heap.size + 1]? = some (.cells P 46 (0, 0)) ∧ Below w.heap.size w W) ⟨heap_old (heap_new _ _) _, heap_at (by simp) _, by focus (repeat (first | (with_reducible exact Below.refl _ _) | (with_reducible assumption) | ((with_reducible refine Below.setCell ?_ ?_ _); rotate_left; (focus (first | omega | (simp; done) | (simp; omega)))) | ((with_reducible refine Below.alloc ?_ ?_ _); rotate_left; (focus (first | omega | (simp; done) | (simp; omega)))) | (with_reducible refine Below.drew ?_) | (refine below_on ?_ (by assumption))))⟩ fun W ⟨z0, z1, hB⟩ => ?_
  have c0 := cell_at z0
  go_wp2_with fail
  refine (HRi.out _).mono ?_
  rintro r w1 ⟨rfl, hb⟩
  have y0 := heap_below hb z0
  have y1 := heap_below hb z1
  have hB1 := below_on hB hb
  clear hb z0 z1 hB c0
  go_wp2_with fail
  refine (law_works _ (HV.out.below hB1)).mono ?_
  rintro r wz ⟨rfl, hb⟩
  have hF := below_on hB1 hb
  go_wp2
  go_ret
  exact ⟨rfl, hF⟩
set_option maxRecDepth 20000 in
set_option maxHeartbeats 4000000 in
theorem mirrors_w2 (ax ay bx by_ : Int) (P : Array Value) (hP : P.size = 20) (HRi : Hd (∀ w : World, Calls Tryz.prog 12 #[.agg #[.int .i64 ax, .int .i64 ay, .int .i64 bx, .int .i64 by_]] w fun e w' => e = .returned (.bool true) ∧ Below w.heap.size w w')) (HP : Hd (∀ w : World, Calls Tryz.prog 21 #[.agg P] w fun e w' => e = .returned (.bool false) ∧ Below w.heap.size w w')) (w : World) (hV : Vars w) :
    Calls Tryz.prog 6 #[.agg #[.int .i64 ax, .int .i64 ay, .int .i64 bx, .int .i64 by_], .agg P] w fun e w' => e = .returned (.bool true) ∧ Below w.heap.size w w' := by
  have HV := Hd.mk hV
  clear hV
  go_enter Tryz.func6, Tryz.ntmps6
  go_upto_region 1 with (fail)
  refine abs_wp (fun W => W.heap[w.heap.size]? = some (.cells #[.int .i64 ax, .int .i64 ay, .int .i64 bx, .int .i64 by_] 25 (0, 0)) ∧ W.heap[w.heap.size + 1]? = some (.cells P 46 (0, 0)) ∧ Below w.heap.size w W) ⟨heap_old (heap_new _ _) _, heap_at (by simp) _, by focus (repeat (first | (with_reducible exact Below.refl _ _) | (with_reducible assumption) | ((with_reducible refine Below.setCell ?_ ?_ _); rotate_left; (focus (first | omega | (simp; done) | (simp; omega)))) | ((with_reducible refine Below.alloc ?_ ?_ _); rotate_left; (focus (first | omega | (simp; done) | (simp; omega)))) | (with_reducible refine Below.drew ?_) | (refine below_on ?_ (by assumption))))⟩ fun W ⟨z0, z1, hB⟩ => ?_
  have c0 := cell_at z0
  go_wp2_with fail
  refine (HRi.out _).mono ?_
  rintro r w1 ⟨rfl, hb⟩
  have y0 := heap_below hb z0
  have y1 := heap_below hb z1
  have hB1 := below_on hB hb
  clear hb z0 z1 hB c0
  go_wp2_with (refine wpList_load_point (.tmp 3) rfl rfl _ rfl y1 hP ?_)
  refine (HP.out _).mono ?_
  rintro r w2 ⟨rfl, hb⟩
  have z0 := heap_below hb y0
  have z1 := heap_below hb y1
  have hB2 := below_on hB1 hb
  clear hb y0 y1 hB1
  go_wp2_with fail
  refine (law_works _ (HV.out.below hB2)).mono ?_
  rintro r wz ⟨rfl, hb⟩
  have hF := below_on hB2 hb
  go_wp2
  go_ret
  exact ⟨rfl, hF⟩
set_option maxRecDepth 20000 in
set_option maxHeartbeats 4000000 in
theorem mirrors_w3 (ax ay bx by_ : Int) (P P2 : Array Value) (hP : P.size = 20) (m n : Int) (o : Bool) (hn : wrap64 (-n) = m) (HRi : Hd (∀ w : World, Calls Tryz.prog 12 #[.agg #[.int .i64 ax, .int .i64 ay, .int .i64 bx, .int .i64 by_]] w fun e w' => e = .returned (.bool true) ∧ Below w.heap.size w w')) (HP : Hd (∀ w : World, Calls Tryz.prog 21 #[.agg P] w fun e w' => e = .returned (.bool true) ∧ Below w.heap.size w w'))
    (HA : Hd (∀ w : World, Vars w → Calls Tryz.prog 27 #[.agg #[.int .i64 ax, .int .i64 ay, .int .i64 bx, .int .i64 by_], .agg P] w fun e w' => e = .returned (.tuple #[.int .i64 m, .bool o, .bool true]) ∧ Below w.heap.size w w')) (HA2 : Hd (∀ w : World, Vars w → Calls Tryz.prog 27 #[.agg #[.int .i64 ay, .int .i64 ax, .int .i64 by_, .int .i64 bx], .agg P2] w fun e w' => e = .returned (.tuple #[.int .i64 n, .bool o, .bool true]) ∧ Below w.heap.size w w'))
    (HSW : Hd (∀ w : World, Calls Tryz.prog 29 #[.agg P] w fun e w' => e = .returned (.agg P2) ∧ Below w.heap.size w w')) (w : World) (hV : Vars w) :
    Calls Tryz.prog 6 #[.agg #[.int .i64 ax, .int .i64 ay, .int .i64 bx, .int .i64 by_], .agg P] w fun e w' => e = .returned (.bool true) ∧ Below w.heap.size w w' := by
  have HV := Hd.mk hV
  clear hV
  go_enter Tryz.func6, Tryz.ntmps6
  go_upto_region 1 with (fail)
  refine abs_wp (fun W => W.heap[w.heap.size]? = some (.cells #[.int .i64 ax, .int .i64 ay, .int .i64 bx, .int .i64 by_] 25 (0, 0)) ∧ W.heap[w.heap.size + 1]? = some (.cells P 46 (0, 0)) ∧ Below w.heap.size w W) ⟨heap_old (heap_new _ _) _, heap_at (by simp) _, by focus (repeat (first | (with_reducible exact Below.refl _ _) | (with_reducible assumption) | ((with_reducible refine Below.setCell ?_ ?_ _); rotate_left; (focus (first | omega | (simp; done) | (simp; omega)))) | ((with_reducible refine Below.alloc ?_ ?_ _); rotate_left; (focus (first | omega | (simp; done) | (simp; omega)))) | (with_reducible refine Below.drew ?_) | (refine below_on ?_ (by assumption))))⟩ fun W ⟨z0, z1, hB⟩ => ?_
  have c0 := cell_at z0
  go_wp2_with fail
  refine (HRi.out _).mono ?_
  rintro r w1 ⟨rfl, hb⟩
  have y0 := heap_below hb z0
  have y1 := heap_below hb z1
  have hB1 := below_on hB hb
  clear hb z0 z1 hB c0
  go_wp2_with (refine wpList_load_point (.tmp 3) rfl rfl _ rfl y1 hP ?_)
  refine (HP.out _).mono ?_
  rintro r w2 ⟨rfl, hb⟩
  have z0 := heap_below hb y0
  have z1 := heap_below hb y1
  have hB2 := below_on hB1 hb
  clear hb y0 y1 hB1
  have c0 := cell_at z0
  go_wp2_with (refine wpList_load_point (.tmp 3) rfl rfl _ rfl z1 hP ?_)
  refine (HA.out _ (HV.out.below hB2)).mono ?_
  rintro r w3 ⟨rfl, hb⟩
  have y0 := heap_below hb z0
  have y1 := heap_below hb z1
  have hB3 := below_on hB2 hb
  clear hb z0 z1 hB2 c0 HA
  go_upto_region 4 with (fail)
  have HVW := Hd.mk (HV.out.below hB3)
  refine region_qt 11 (by kernel_rfl) (by kernel_rfl) fun X _ mk hmk hcl => ?_
  have c0 := mk_cell hmk y0
  simp only [List.take_succ_cons, List.take_zero, List.drop_succ_cons, List.drop_zero]
  repeat (go_big_quiet_step ((go_at_call 28; exact (rseg_swapped _ _ _ _ _).mono fun e w' h => ⟨h.1, hcl _ _ h.2⟩)))
  refine wpQuiet_load_point (.tmp 3) rfl (by kernel_rfl) _ rfl (fun y => heap_below (hmk y) y1) hP ?_
  simp only [Act.put, List.setIfInBounds_toArray, List.set_cons_succ, List.set_cons_zero]
  repeat (go_big_quiet_step (first
    | (go_at_call 29; exact (HSW.out _).mono fun e w' h => ⟨h.1, hcl _ _ h.2⟩)
    | (go_at_call 27; exact (HA2.out _ (HVW.out.below (hmk _))).mono fun e w' h => ⟨h.1, hcl _ _ h.2⟩)))
  refine wpQuiet_nil ?_
  rintro _ ⟨x, rfl⟩
  clear c0
  have hx := hmk x
  clear hcl hmk
  generalize mk x = W4 at hx
  have hB4 := below_on hB3 hx
  clear hx y0 y1 hB3 HVW
  go_wp2_with fail
  refine (law_works _ (HV.out.below hB4)).mono ?_
  rintro r wz ⟨rfl, hb⟩
  have hF := below_on hB4 hb
  go_wp2
  go_ret
  exact ⟨rfl, hF⟩
theorem mirrors_any (ax ay bx by_ : Int) (p q r s : Bool × Nat) (hp : p.2 < 2 ^ 256) (hq : q.2 < 2 ^ 256) (hr : r.2 < 2 ^ 256) (hs : s.2 < 2 ^ 256) (w : World) (hV : Vars w) :
    Calls Tryz.prog 6 #[.agg #[.int .i64 ax, .int .i64 ay, .int .i64 bx, .int .i64 by_], .agg #[.bool p.1, .int .u64 (dg (p.2) 0), .int .u64 (dg (p.2) 1), .int .u64 (dg (p.2) 2), .int .u64 (dg (p.2) 3), .bool q.1, .int .u64 (dg (q.2) 0), .int .u64 (dg (q.2) 1), .int .u64 (dg (q.2) 2), .int .u64 (dg (q.2) 3), .bool r.1, .int .u64 (dg (r.2) 0), .int .u64 (dg (r.2) 1), .int .u64 (dg (r.2) 2), .int .u64 (dg (r.2) 3), .bool s.1, .int .u64 (dg (s.2) 0), .int .u64 (dg (s.2) 1), .int .u64 (dg (s.2) 2), .int .u64 (dg (s.2) 3)]] w fun e w' => e = .returned (.bool true) ∧ Below w.heap.size w w' := by
  have hri := rseg_right ax ay bx by_
  cases hg : segB ax ay bx by_ with
  | false =>
    rw [hg] at hri
    exact mirrors_w1 ax ay bx by_ _ rfl ⟨hri⟩ w hV
  | true =>
    rw [hg] at hri
    by_cases ho : okPt p q r s
    · have hpr := rpright_p p q r s hp hq hr hs true ⟨fun _ => ho, fun _ => rfl⟩
      have hpt := pt_of hp hq hr hs ho.1 ho.2.1 ho.2.2.1 ho.2.2.2
      rw [pnt_value ho.1 ho.2.1] at hpr ⊢
      generalize zof p.1 p.2 = X at *
      generalize q.2 = D at *
      generalize zof r.1 r.2 = Y at *
      generalize s.2 = E at *
      have hpt2 : Pt Y E X D := ⟨hpt.y, hpt.x, hpt.dy, hpt.dx⟩
      have hg2 : segB ay ax by_ bx = true := by
        unfold segB nodeB at hg ⊢
        simp only [Bool.and_eq_true] at hg ⊢
        obtain ⟨⟨h1, h2⟩, ⟨h3, h4⟩, h5⟩ := hg
        refine ⟨⟨h2, h1⟩, ⟨h4, h3⟩, ?_⟩
        rw [Bool.and_comm]
        exact h5
      have hne : ax ≠ bx ∨ ay ≠ by_ := by
        unfold segB at hg
        simp only [Bool.and_eq_true] at hg
        have h5 := hg.2.2
        simp only [Bool.not_eq_true', Bool.and_eq_false_imp, beq_iff_eq, beq_eq_false_iff_ne] at h5
        by_cases h : ax = bx
        · exact Or.inr (h5 h)
        · exact Or.inl h
      have hr := sgI_range ((bx - ax) * ((Y - ay * E) * D) - (by_ - ay) * ((X - ax * D) * E))
      have hv : -1 ≤ sideV ax ay (bx - ax) (by_ - ay) X D Y E ∧ sideV ax ay (bx - ax) (by_ - ay) X D Y E ≤ 1 := hr
      refine mirrors_w3 ax ay bx by_ _ _ rfl (sideV ax ay (bx - ax) (by_ - ay) X D Y E) (sideV ay ax (by_ - ay) (bx - ax) Y E X D) (onB ax ay bx by_ X D Y E) ?_ ⟨hri⟩ ⟨hpr⟩ ⟨fun w hw => ?_⟩ ⟨fun w hw => ?_⟩ ⟨fun w => rpnt_swapped X D Y E w⟩ w hV
      · rw [side_swap, Int.neg_neg]
        unfold wrap64
        omega
      · exact asked_any ax ay bx by_ _ rfl _ 0 0 _ (by unfold wrap64; omega) (fun w hw => seg_side_ok ax ay bx by_ X D Y E hg hpt w hw) (fun w hw => seg_on_ok ax ay bx by_ X D Y E hg hpt w hw) w hw
      · have h := asked_any ay ax by_ bx _ rfl _ 0 0 _ (by unfold wrap64; omega) (fun w hw => seg_side_ok ay ax by_ bx Y E X D hg2 hpt2 w hw) (fun w hw => seg_on_ok ay ax by_ bx Y E X D hg2 hpt2 w hw) w hw
        rw [on_swap ax ay bx by_ X D Y E hpt.x.pos hpt.y.pos hne] at h
        exact h
    · have hpr := rpright_p p q r s hp hq hr hs false ⟨fun h => (by cases h), fun h => absurd h ho⟩
      exact mirrors_w2 ax ay bx by_ _ rfl ⟨hri⟩ ⟨hpr⟩ w hV
end Go.Proofs.YtbhfnfokihdjjaaGreatDoor
