/-
  The references: a segment and a point moved. Conditions stand in each theorem.
-/
import Derived.Test.YtbhfnfokihdjjaaGreatDoorMv2
namespace Go.Proofs.YtbhfnfokihdjjaaGreatDoor
open Go.RowKit Go.BigFrame
set_option maxRecDepth 20000 in
set_option maxHeartbeats 4000000 in
theorem rsmoved_n0 (ax ay bx by_ dx dy : Int) (d0 : decide (dx < -67108864) = true) (w : World) :
    Calls Tryz.prog 25 #[.agg #[.int .i64 ax, .int .i64 ay, .int .i64 bx, .int .i64 by_], .int .i64 dx, .int .i64 dy] w fun e w' => e = .returned (.tuple #[.agg #[.int .i64 0, .int .i64 0, .int .i64 0, .int .i64 0], .bool false]) ∧ Below w.heap.size w w' := by
  go_enter Tryz.func25, Tryz.ntmps25
  go_upto_region 1 with (fail)
  refine abs_wp (fun W => W.heap[w.heap.size]? = some (.cells #[.int .i64 ax, .int .i64 ay, .int .i64 bx, .int .i64 by_] 25 (0, 0)) ∧ W.heap[w.heap.size + 1]? = some (.cells #[.int .i64 0, .int .i64 0, .int .i64 0, .int .i64 0] 25 (0, 0)) ∧ Below w.heap.size w W) ⟨heap_old (heap_new _ _) _, heap_at (by simp) _, by focus (repeat (first | (with_reducible exact Below.refl _ _) | (with_reducible assumption) | ((with_reducible refine Below.setCell ?_ ?_ _); rotate_left; (focus (first | omega | (simp; done) | (simp; omega)))) | ((with_reducible refine Below.alloc ?_ ?_ _); rotate_left; (focus (first | omega | (simp; done) | (simp; omega)))) | (with_reducible refine Below.drew ?_) | (refine below_on ?_ (by assumption))))⟩ fun W ⟨z0, z1, hB⟩ => ?_
  have c1 := cell_at z1
  have f1 := frozen_at z1
  go_wp2
  obtain ⟨l1, l2, l3⟩ := laid_four (w.heap.size + 1) W (.int .i64 0) (.int .i64 0) (.int .i64 0) (.int .i64 0)
  have c2 := cell_at (l1 z1 rfl)
  refine bodyPost_ret (by first | (simp [results, Tryz.results25, go_sem, c2]; done) | (simp [results, Tryz.results25, go_sem, c2]; rfl)) rfl ⟨rfl, hB.trans (l3 w.heap.size (by omega))⟩
set_option maxRecDepth 20000 in
set_option maxHeartbeats 4000000 in
theorem rsmoved_n1 (ax ay bx by_ dx dy : Int) (d0 : decide (dx < -67108864) = false) (d1 : decide (dx > 67108864) = true) (w : World) :
    Calls Tryz.prog 25 #[.agg #[.int .i64 ax, .int .i64 ay, .int .i64 bx, .int .i64 by_], .int .i64 dx, .int .i64 dy] w fun e w' => e = .returned (.tuple #[.agg #[.int .i64 0, .int .i64 0, .int .i64 0, .int .i64 0], .bool false]) ∧ Below w.heap.size w w' := by
  go_enter Tryz.func25, Tryz.ntmps25
  go_upto_region 1 with (fail)
  refine abs_wp (fun W => W.heap[w.heap.size]? = some (.cells #[.int .i64 ax, .int .i64 ay, .int .i64 bx, .int .i64 by_] 25 (0, 0)) ∧ W.heap[w.heap.size + 1]? = some (.cells #[.int .i64 0, .int .i64 0, .int .i64 0, .int .i64 0] 25 (0, 0)) ∧ Below w.heap.size w W) ⟨heap_old (heap_new _ _) _, heap_at (by simp) _, by focus (repeat (first | (with_reducible exact Below.refl _ _) | (with_reducible assumption) | ((with_reducible refine Below.setCell ?_ ?_ _); rotate_left; (focus (first | omega | (simp; done) | (simp; omega)))) | ((with_reducible refine Below.alloc ?_ ?_ _); rotate_left; (focus (first | omega | (simp; done) | (simp; omega)))) | (with_reducible refine Below.drew ?_) | (refine below_on ?_ (by assumption))))⟩ fun W ⟨z0, z1, hB⟩ => ?_
  have c1 := cell_at z1
  have f1 := frozen_at z1
  go_wp2
  obtain ⟨l1, l2, l3⟩ := laid_four (w.heap.size + 1) W (.int .i64 0) (.int .i64 0) (.int .i64 0) (.int .i64 0)
  have c2 := cell_at (l1 z1 rfl)
  refine bodyPost_ret (by first | (simp [results, Tryz.results25, go_sem, c2]; done) | (simp [results, Tryz.results25, go_sem, c2]; rfl)) rfl ⟨rfl, hB.trans (l3 w.heap.size (by omega))⟩
set_option maxRecDepth 20000 in
set_option maxHeartbeats 4000000 in
theorem rsmoved_n2 (ax ay bx by_ dx dy : Int) (d0 : decide (dx < -67108864) = false) (d1 : decide (dx > 67108864) = false) (d2 : decide (dy < -67108864) = true) (w : World) :
    Calls Tryz.prog 25 #[.agg #[.int .i64 ax, .int .i64 ay, .int .i64 bx, .int .i64 by_], .int .i64 dx, .int .i64 dy] w fun e w' => e = .returned (.tuple #[.agg #[.int .i64 0, .int .i64 0, .int .i64 0, .int .i64 0], .bool false]) ∧ Below w.heap.size w w' := by
  go_enter Tryz.func25, Tryz.ntmps25
  go_upto_region 1 with (fail)
  refine abs_wp (fun W => W.heap[w.heap.size]? = some (.cells #[.int .i64 ax, .int .i64 ay, .int .i64 bx, .int .i64 by_] 25 (0, 0)) ∧ W.heap[w.heap.size + 1]? = some (.cells #[.int .i64 0, .int .i64 0, .int .i64 0, .int .i64 0] 25 (0, 0)) ∧ Below w.heap.size w W) ⟨heap_old (heap_new _ _) _, heap_at (by simp) _, by focus (repeat (first | (with_reducible exact Below.refl _ _) | (with_reducible assumption) | ((with_reducible refine Below.setCell ?_ ?_ _); rotate_left; (focus (first | omega | (simp; done) | (simp; omega)))) | ((with_reducible refine Below.alloc ?_ ?_ _); rotate_left; (focus (first | omega | (simp; done) | (simp; omega)))) | (with_reducible refine Below.drew ?_) | (refine below_on ?_ (by assumption))))⟩ fun W ⟨z0, z1, hB⟩ => ?_
  have c1 := cell_at z1
  have f1 := frozen_at z1
  go_wp2
  obtain ⟨l1, l2, l3⟩ := laid_four (w.heap.size + 1) W (.int .i64 0) (.int .i64 0) (.int .i64 0) (.int .i64 0)
  have c2 := cell_at (l1 z1 rfl)
  refine bodyPost_ret (by first | (simp [results, Tryz.results25, go_sem, c2]; done) | (simp [results, Tryz.results25, go_sem, c2]; rfl)) rfl ⟨rfl, hB.trans (l3 w.heap.size (by omega))⟩
set_option maxRecDepth 20000 in
set_option maxHeartbeats 4000000 in
theorem rsmoved_n3 (ax ay bx by_ dx dy : Int) (d0 : decide (dx < -67108864) = false) (d1 : decide (dx > 67108864) = false) (d2 : decide (dy < -67108864) = false) (d3 : decide (dy > 67108864) = true) (w : World) :
    Calls Tryz.prog 25 #[.agg #[.int .i64 ax, .int .i64 ay, .int .i64 bx, .int .i64 by_], .int .i64 dx, .int .i64 dy] w fun e w' => e = .returned (.tuple #[.agg #[.int .i64 0, .int .i64 0, .int .i64 0, .int .i64 0], .bool false]) ∧ Below w.heap.size w w' := by
  go_enter Tryz.func25, Tryz.ntmps25
  go_upto_region 1 with (fail)
  refine abs_wp (fun W => W.heap[w.heap.size]? = some (.cells #[.int .i64 ax, .int .i64 ay, .int .i64 bx, .int .i64 by_] 25 (0, 0)) ∧ W.heap[w.heap.size + 1]? = some (.cells #[.int .i64 0, .int .i64 0, .int .i64 0, .int .i64 0] 25 (0, 0)) ∧ Below w.heap.size w W) ⟨heap_old (heap_new _ _) _, heap_at (by simp) _, by focus (repeat (first | (with_reducible exact Below.refl _ _) | (with_reducible assumption) | ((with_reducible refine Below.setCell ?_ ?_ _); rotate_left; (focus (first | omega | (simp; done) | (simp; omega)))) | ((with_reducible refine Below.alloc ?_ ?_ _); rotate_left; (focus (first | omega | (simp; done) | (simp; omega)))) | (with_reducible refine Below.drew ?_) | (refine below_on ?_ (by assumption))))⟩ fun W ⟨z0, z1, hB⟩ => ?_
  have c1 := cell_at z1
  have f1 := frozen_at z1
  go_wp2
  obtain ⟨l1, l2, l3⟩ := laid_four (w.heap.size + 1) W (.int .i64 0) (.int .i64 0) (.int .i64 0) (.int .i64 0)
  have c2 := cell_at (l1 z1 rfl)
  refine bodyPost_ret (by first | (simp [results, Tryz.results25, go_sem, c2]; done) | (simp [results, Tryz.results25, go_sem, c2]; rfl)) rfl ⟨rfl, hB.trans (l3 w.heap.size (by omega))⟩
set_option maxRecDepth 20000 in
set_option maxHeartbeats 4000000 in
theorem rsmoved_n4 (ax ay bx by_ dx dy : Int) (d0 : decide (dx < -67108864) = false) (d1 : decide (dx > 67108864) = false) (d2 : decide (dy < -67108864) = false) (d3 : decide (dy > 67108864) = false) (HRi : Hd (∀ w : World, Calls Tryz.prog 12 #[.agg #[.int .i64 ax, .int .i64 ay, .int .i64 bx, .int .i64 by_]] w fun e w' => e = .returned (.bool false) ∧ Below w.heap.size w w')) (w : World) :
    Calls Tryz.prog 25 #[.agg #[.int .i64 ax, .int .i64 ay, .int .i64 bx, .int .i64 by_], .int .i64 dx, .int .i64 dy] w fun e w' => e = .returned (.tuple #[.agg #[.int .i64 0, .int .i64 0, .int .i64 0, .int .i64 0], .bool false]) ∧ Below w.heap.size w w' := by
  go_enter Tryz.func25, Tryz.ntmps25
  go_upto_region 1 with (fail)
  refine abs_wp (fun W => W.heap[w.heap.size]? = some (.cells #[.int .i64 ax, .int .i64 ay, .int .i64 bx, .int .i64 by_] 25 (0, 0)) ∧ W.heap[w.heap.size + 1]? = some (.cells #[.int .i64 0, .int .i64 0, .int .i64 0, .int .i64 0] 25 (0, 0)) ∧ Below w.heap.size w W) ⟨heap_old (heap_new _ _) _, heap_at (by simp) _, by focus (repeat (first | (with_reducible exact Below.refl _ _) | (with_reducible assumption) | ((with_reducible refine Below.setCell ?_ ?_ _); rotate_left; (focus (first | omega | (simp; done) | (simp; omega)))) | ((with_reducible refine Below.alloc ?_ ?_ _); rotate_left; (focus (first | omega | (simp; done) | (simp; omega)))) | (with_reducible refine Below.drew ?_) | (refine below_on ?_ (by assumption))))⟩ fun W ⟨z0, z1, hB⟩ => ?_
  have c0 := cell_at z0
  go_wp2_with fail
  refine (HRi.out _).mono ?_
  rintro r w1 ⟨rfl, hb⟩
  have y0 := heap_below hb z0
  have y1 := heap_below hb z1
  have hB1 := below_on hB hb
  clear hb z0 z1 hB c0
  have c1 := cell_at y1
  have f1 := frozen_at y1
  go_wp2
  obtain ⟨l1, l2, l3⟩ := laid_four (w.heap.size + 1) w1 (.int .i64 0) (.int .i64 0) (.int .i64 0) (.int .i64 0)
  have c2 := cell_at (l1 y1 rfl)
  refine bodyPost_ret (by first | (simp [results, Tryz.results25, go_sem, c2]; done) | (simp [results, Tryz.results25, go_sem, c2]; rfl)) rfl ⟨rfl, hB1.trans (l3 w.heap.size (by omega))⟩
set_option maxRecDepth 20000 in
set_option maxHeartbeats 4000000 in
theorem rsmoved_ok (ax ay bx by_ dx dy : Int) (d0 : decide (dx < -67108864) = false) (d1 : decide (dx > 67108864) = false) (d2 : decide (dy < -67108864) = false) (d3 : decide (dy > 67108864) = false) (o : Bool) (h0 : wrap64 (ax + dx) = ax + dx) (h1 : wrap64 (ay + dy) = ay + dy) (h2 : wrap64 (bx + dx) = bx + dx) (h3 : wrap64 (by_ + dy) = by_ + dy) (HRi : Hd (∀ w : World, Calls Tryz.prog 12 #[.agg #[.int .i64 ax, .int .i64 ay, .int .i64 bx, .int .i64 by_]] w fun e w' => e = .returned (.bool true) ∧ Below w.heap.size w w')) (HRm : Hd (∀ w : World, Calls Tryz.prog 12 #[.agg #[.int .i64 (ax + dx), .int .i64 (ay + dy), .int .i64 (bx + dx), .int .i64 (by_ + dy)]] w fun e w' => e = .returned (.bool o) ∧ Below w.heap.size w w')) (w : World) :
    Calls Tryz.prog 25 #[.agg #[.int .i64 ax, .int .i64 ay, .int .i64 bx, .int .i64 by_], .int .i64 dx, .int .i64 dy] w fun e w' => e = .returned (.tuple #[.agg #[.int .i64 (ax + dx), .int .i64 (ay + dy), .int .i64 (bx + dx), .int .i64 (by_ + dy)], .bool o]) ∧ Below w.heap.size w w' := by
  go_enter Tryz.func25, Tryz.ntmps25
  go_upto_region 1 with (fail)
  refine abs_wp (fun W => W.heap[w.heap.size]? = some (.cells #[.int .i64 ax, .int .i64 ay, .int .i64 bx, .int .i64 by_] 25 (0, 0)) ∧ W.heap[w.heap.size + 1]? = some (.cells #[.int .i64 0, .int .i64 0, .int .i64 0, .int .i64 0] 25 (0, 0)) ∧ Below w.heap.size w W) ⟨heap_old (heap_new _ _) _, heap_at (by simp) _, by focus (repeat (first | (with_reducible exact Below.refl _ _) | (with_reducible assumption) | ((with_reducible refine Below.setCell ?_ ?_ _); rotate_left; (focus (first | omega | (simp; done) | (simp; omega)))) | ((with_reducible refine Below.alloc ?_ ?_ _); rotate_left; (focus (first | omega | (simp; done) | (simp; omega)))) | (with_reducible refine Below.drew ?_) | (refine below_on ?_ (by assumption))))⟩ fun W ⟨z0, z1, hB⟩ => ?_
  have c0 := cell_at z0
  go_wp2_with fail
  refine (HRi.out _).mono ?_
  rintro r w1 ⟨rfl, hb⟩
  have y0 := heap_below hb z0
  have y1 := heap_below hb z1
  have hB1 := below_on hB hb
  clear hb z0 z1 hB c0
  have c0 := cell_at y0
  go_upto_region 4 with (fail)
  simp only [h0, h1, h2, h3]
  have hsz := hB1.size
  obtain ⟨b, hb⟩ : ∃ b, b = w1.heap.size := ⟨_, rfl⟩
  refine abs_wp (fun W => W.heap[w.heap.size + 1]? = some (.cells #[.int .i64 0, .int .i64 0, .int .i64 0, .int .i64 0] 25 (0, 0)) ∧ W.heap[w1.heap.size]? = some (.cells #[.int .i64 (ax + dx), .int .i64 (ay + dy), .int .i64 (bx + dx), .int .i64 (by_ + dy)] 25 (0, 0)) ∧ Below w.heap.size w W) ⟨heap_old y1 _, heap_new _ _, by focus (repeat (first | (with_reducible exact Below.refl _ _) | (with_reducible assumption) | ((with_reducible refine Below.setCell ?_ ?_ _); rotate_left; (focus (first | omega | (simp; done) | (simp; omega)))) | ((with_reducible refine Below.alloc ?_ ?_ _); rotate_left; (focus (first | omega | (simp; done) | (simp; omega)))) | (with_reducible refine Below.drew ?_) | (refine below_on ?_ (by assumption))))⟩ fun W2 ⟨x1, x2, hB2⟩ => ?_
  rw [← hb] at x2 ⊢
  clear y0 y1 hB1 c0 hb hsz h0 h1 h2 h3
  refine region_qt 3 (by kernel_rfl) (by kernel_rfl) fun X _ mk hmk hcl => ?_
  have c2 := mk_cell hmk x2
  simp only [List.take_succ_cons, List.take_zero, List.drop_succ_cons, List.drop_zero]
  repeat (go_big_quiet_step ((go_at_call 12; exact (HRm.out _).mono fun e w' h => ⟨h.1, hcl _ _ h.2⟩)))
  refine wpQuiet_nil ?_
  rintro _ ⟨x, rfl⟩
  clear c2
  have hx := hmk x
  clear hcl hmk
  generalize mk x = W3 at hx
  have v1 := heap_below hx x1
  have hB3 := below_on hB2 hx
  clear hx x1 x2 hB2
  have c1 := cell_at v1
  have f1 := frozen_at v1
  go_wp2
  obtain ⟨l1, l2, l3⟩ := laid_four (w.heap.size + 1) W3 (.int .i64 (ax + dx)) (.int .i64 (ay + dy)) (.int .i64 (bx + dx)) (.int .i64 (by_ + dy))
  have c2 := cell_at (l1 v1 rfl)
  refine bodyPost_ret (by first | (simp [results, Tryz.results25, go_sem, c2]; done) | (simp [results, Tryz.results25, go_sem, c2]; rfl)) rfl ⟨rfl, hB3.trans (l3 w.heap.size (by omega))⟩
/-- A segment moved. -/
theorem rsmoved_any (ax ay bx by_ dx dy : Int) :
    ∃ (t0 t1 t2 t3 : Int) (a : Bool), (a = true → segB ax ay bx by_ = true ∧ segB t0 t1 t2 t3 = true ∧ t0 = ax + dx ∧ t1 = ay + dy ∧ t2 = bx + dx ∧ t3 = by_ + dy) ∧
    Hd (∀ w : World, Calls Tryz.prog 25 #[.agg #[.int .i64 ax, .int .i64 ay, .int .i64 bx, .int .i64 by_], .int .i64 dx, .int .i64 dy] w fun e w' => e = .returned (.tuple #[.agg #[.int .i64 t0, .int .i64 t1, .int .i64 t2, .int .i64 t3], .bool a]) ∧ Below w.heap.size w w') := by
  by_cases d0 : dx < -67108864
  · exact ⟨0, 0, 0, 0, false, fun h => (by cases h), ⟨fun w => rsmoved_n0 ax ay bx by_ dx dy (decide_eq_true d0) w⟩⟩
  by_cases d1 : dx > 67108864
  · exact ⟨0, 0, 0, 0, false, fun h => (by cases h), ⟨fun w => rsmoved_n1 ax ay bx by_ dx dy (decide_eq_false d0) (decide_eq_true d1) w⟩⟩
  by_cases d2 : dy < -67108864
  · exact ⟨0, 0, 0, 0, false, fun h => (by cases h), ⟨fun w => rsmoved_n2 ax ay bx by_ dx dy (decide_eq_false d0) (decide_eq_false d1) (decide_eq_true d2) w⟩⟩
  by_cases d3 : dy > 67108864
  · exact ⟨0, 0, 0, 0, false, fun h => (by cases h), ⟨fun w => rsmoved_n3 ax ay bx by_ dx dy (decide_eq_false d0) (decide_eq_false d1) (decide_eq_false d2) (decide_eq_true d3) w⟩⟩
  have hri := rseg_right ax ay bx by_
  cases hg : segB ax ay bx by_ with
  | false =>
    rw [hg] at hri
    exact ⟨0, 0, 0, 0, false, fun h => (by cases h), ⟨fun w => rsmoved_n4 ax ay bx by_ dx dy (decide_eq_false d0) (decide_eq_false d1) (decide_eq_false d2) (decide_eq_false d3) ⟨hri⟩ w⟩⟩
  | true =>
    rw [hg] at hri
    have hs2 := hg
    unfold segB at hs2
    simp only [Bool.and_eq_true] at hs2
    obtain ⟨ha, hb, _⟩ := hs2
    obtain ⟨ra1, ra2⟩ := node_range ha
    obtain ⟨rb1, rb2⟩ := node_range hb
    exact ⟨ax + dx, ay + dy, bx + dx, by_ + dy, segB (ax + dx) (ay + dy) (bx + dx) (by_ + dy), fun h => ⟨rfl, h, rfl, rfl, rfl, rfl⟩, ⟨fun w => rsmoved_ok ax ay bx by_ dx dy (decide_eq_false d0) (decide_eq_false d1) (decide_eq_false d2) (decide_eq_false d3) _ (by unfold wrap64; omega) (by unfold wrap64; omega) (by unfold wrap64; omega) (by unfold wrap64; omega) ⟨hri⟩ ⟨rseg_right _ _ _ _⟩ w⟩⟩
end Go.Proofs.YtbhfnfokihdjjaaGreatDoor
