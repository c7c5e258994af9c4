/-
  Walks of seg: Side and On where the segment or the point may not be. Conditions stand in each theorem.
-/
import Derived.Test.YtbhfnfokihdjjaaGreatDoorLm21
import Derived.Test.YtbhfnfokihdjjaaGreatDoorWh1
namespace Go.Proofs.YtbhfnfokihdjjaaGreatDoor
open Go.RowKit Go.BigFrame
set_option maxRecDepth 20000 in
set_option maxHeartbeats 2000000 in
theorem side_bad1 (ax ay bx by_ : Int) (P : Array Value) (_hP : P.size = 20) (hs : segB ax ay bx by_ = false) (w : World) :
    Calls Tryz.prog 19 #[.agg #[.int .i64 ax, .int .i64 ay, .int .i64 bx, .int .i64 by_], .agg P] w fun e w' => e = .returned (.tuple #[.int .i64 0, .int .i64 2]) ∧ Below w.heap.size w w' := by
  have hmf : ∀ (fn : Fn) (first cap : Array Value) (w : World), (Instr.makeFunc fn first cap).run Tryz.prog w = .ok (.func fn first cap) w := fun _ _ _ _ => rfl
  have HC : Hd (∀ w, Calls Tryz.prog 14 #[.agg #[.int .i64 ax, .int .i64 ay, .int .i64 bx, .int .i64 by_]] w fun e w' => e = .returned (.int .i64 2) ∧ Below w.heap.size w w') := ⟨fun w => by
    have h := seg_check ax ay bx by_ w
    rw [hs] at h
    exact h⟩
  clear hs
  go_enter_defers Tryz.func19, Tryz.ntmps19
  go_upto_region 2 with (fail)
  refine abs_wp (fun W => W.heap[w.heap.size]? = some (.cells #[.int .i64 ax, .int .i64 ay, .int .i64 bx, .int .i64 by_] 25 (0, 0)) ∧ W.heap[w.heap.size + 1]? = some (.cells P 46 (0, 0)) ∧ W.heap[w.heap.size + 1 + 1]? = some (.cells #[.int .i64 0] 3 (0, 0)) ∧ W.heap[w.heap.size + 1 + 1 + 1]? = some (.cells #[.int .i64 0] 26 (0, 0)) ∧ Below w.heap.size w W) ⟨heap_old (heap_old (heap_old (heap_new w _) _) _) _, heap_old (heap_old (heap_at (by simp) _) _) _, heap_old (heap_at (by simp) _) _, heap_at (by simp) _, by focus (repeat (first | (with_reducible exact Below.refl _ _) | (with_reducible assumption) | ((with_reducible refine Below.setCell ?_ ?_ _); rotate_left; (focus (first | omega | (simp; done) | (simp; omega)))) | ((with_reducible refine Below.alloc ?_ ?_ _); rotate_left; (focus (first | omega | (simp; done) | (simp; omega)))) | (with_reducible refine Below.drew ?_) | (refine below_on ?_ (by assumption))))⟩ fun W ⟨z0, z1, z2, z3, hB⟩ => ?_
  have c0 := cell_at z0
  go_wp2_with fail
  refine (HC.out _).mono ?_
  rintro e w2 ⟨rfl, hb⟩
  have y0 := heap_below hb z0
  have y1 := heap_below hb z1
  have y2 := heap_below hb z2
  have y3 := heap_below hb z3
  have hB1 := below_on hB hb
  clear hb z0 z1 z2 z3 hB c0
  go_wp2_with (go_at_call 48; refine (seg_must_no _ _).mono ?_; rintro e w4 ⟨rfl, rfl⟩)
  refine leaves_cons (f := 46) (args := #[.pointer (some ⟨w.heap.size + 1 + 1 + 1, 0, none⟩), .func (.func 47) #[] #[.pointer (some ⟨w.heap.size + 1 + 1, 0, none⟩)]]) (by simp) (by simp [go_sem]) ?_
  refine (seg_caught_full _ _ 2 _ _ _ _ (Laid1 (w.heap.size + 1 + 1) (.int .i64 0) _) (cell_at y3 0) (frozen_at y3 0) (fun _ => rfl) (clear_side (heap_set_other y2 (by simp) _) rfl)).mono ?_
  rintro e u' w6 ⟨rfl, rfl, hL⟩
  refine abs_leaves (OutI w (w.heap.size + 1 + 1) (w.heap.size + 1 + 1 + 1) 0 2) (outI_cleared (by omega) (by omega) y2 y3 rfl rfl hB1 (laid_one ..) hL) fun W ⟨y1, y2, hB⟩ => ?_
  have c1 := cell_at y1
  have c2 := cell_at y2
  simp [Leaves, settle, results, Tryz.results19, go_sem, c1, c2]
  exact hB
set_option maxRecDepth 20000 in
set_option maxHeartbeats 2000000 in
theorem side_bad2 (ax ay bx by_ : Int) (P : Array Value) (hP : P.size = 20) (hs : segB ax ay bx by_ = true) (HR : Hd (∀ w, Calls Tryz.prog 49 #[.agg P] w fun e w' => e = .returned (.int .i64 2) ∧ Below w.heap.size w w')) (w : World) :
    Calls Tryz.prog 19 #[.agg #[.int .i64 ax, .int .i64 ay, .int .i64 bx, .int .i64 by_], .agg P] w fun e w' => e = .returned (.tuple #[.int .i64 0, .int .i64 2]) ∧ Below w.heap.size w w' := by
  have hmf : ∀ (fn : Fn) (first cap : Array Value) (w : World), (Instr.makeFunc fn first cap).run Tryz.prog w = .ok (.func fn first cap) w := fun _ _ _ _ => rfl
  have HC : Hd (∀ w, Calls Tryz.prog 14 #[.agg #[.int .i64 ax, .int .i64 ay, .int .i64 bx, .int .i64 by_]] w fun e w' => e = .returned (.int .i64 0) ∧ Below w.heap.size w w') := ⟨fun w => by
    have h := seg_check ax ay bx by_ w
    rw [hs] at h
    exact h⟩
  clear hs
  go_enter_defers Tryz.func19, Tryz.ntmps19
  go_upto_region 2 with (fail)
  refine abs_wp (fun W => W.heap[w.heap.size]? = some (.cells #[.int .i64 ax, .int .i64 ay, .int .i64 bx, .int .i64 by_] 25 (0, 0)) ∧ W.heap[w.heap.size + 1]? = some (.cells P 46 (0, 0)) ∧ W.heap[w.heap.size + 1 + 1]? = some (.cells #[.int .i64 0] 3 (0, 0)) ∧ W.heap[w.heap.size + 1 + 1 + 1]? = some (.cells #[.int .i64 0] 26 (0, 0)) ∧ Below w.heap.size w W) ⟨heap_old (heap_old (heap_old (heap_new w _) _) _) _, heap_old (heap_old (heap_at (by simp) _) _) _, heap_old (heap_at (by simp) _) _, heap_at (by simp) _, by focus (repeat (first | (with_reducible exact Below.refl _ _) | (with_reducible assumption) | ((with_reducible refine Below.setCell ?_ ?_ _); rotate_left; (focus (first | omega | (simp; done) | (simp; omega)))) | ((with_reducible refine Below.alloc ?_ ?_ _); rotate_left; (focus (first | omega | (simp; done) | (simp; omega)))) | (with_reducible refine Below.drew ?_) | (refine below_on ?_ (by assumption))))⟩ fun W ⟨z0, z1, z2, z3, hB⟩ => ?_
  have c0 := cell_at z0
  go_wp2_with fail
  refine (HC.out _).mono ?_
  rintro e w2 ⟨rfl, hb⟩
  have y0 := heap_below hb z0
  have y1 := heap_below hb z1
  have y2 := heap_below hb z2
  have y3 := heap_below hb z3
  have hB1 := below_on hB hb
  clear hb z0 z1 z2 z3 hB c0
  go_wp2_with (refine wpList_load_point (.tmp 3) rfl rfl _ rfl y1 hP ?_)
  refine (HR.out _).mono ?_
  rintro e w3 ⟨rfl, hb⟩
  have z2 := heap_below hb y2
  have z3 := heap_below hb y3
  have hB2 := below_on hB1 hb
  clear hb y0 y1 y2 y3 hB1
  go_wp2_with (go_at_call 48; refine (seg_must_no _ _).mono ?_; rintro e w4 ⟨rfl, rfl⟩)
  refine leaves_cons (f := 46) (args := #[.pointer (some ⟨w.heap.size + 1 + 1 + 1, 0, none⟩), .func (.func 47) #[] #[.pointer (some ⟨w.heap.size + 1 + 1, 0, none⟩)]]) (by simp) (by simp [go_sem]) ?_
  refine (seg_caught_full _ _ 2 _ _ _ _ (Laid1 (w.heap.size + 1 + 1) (.int .i64 0) _) (cell_at z3 0) (frozen_at z3 0) (fun _ => rfl) (clear_side (heap_set_other z2 (by simp) _) rfl)).mono ?_
  rintro e u' w6 ⟨rfl, rfl, hL⟩
  refine abs_leaves (OutI w (w.heap.size + 1 + 1) (w.heap.size + 1 + 1 + 1) 0 2) (outI_cleared (by omega) (by omega) z2 z3 rfl rfl hB2 (laid_one ..) hL) fun W ⟨y1, y2, hB⟩ => ?_
  have c1 := cell_at y1
  have c2 := cell_at y2
  simp [Leaves, settle, results, Tryz.results19, go_sem, c1, c2]
  exact hB
set_option maxRecDepth 20000 in
set_option maxHeartbeats 2000000 in
/-- On where Side tells an error, or a side that is not nought. -/
theorem on_bad (ax ay bx by_ : Int) (P : Array Value) (hP : P.size = 20) (HS : Hd (∀ w, Calls Tryz.prog 19 #[.agg #[.int .i64 ax, .int .i64 ay, .int .i64 bx, .int .i64 by_], .agg P] w fun e w' => e = .returned (.tuple #[.int .i64 0, .int .i64 2]) ∧ Below w.heap.size w w')) (w : World) :
    Calls Tryz.prog 20 #[.agg #[.int .i64 ax, .int .i64 ay, .int .i64 bx, .int .i64 by_], .agg P] w fun e w' => e = .returned (.tuple #[.bool false, .int .i64 2]) ∧ Below w.heap.size w w' := by
  go_enter Tryz.func20, Tryz.ntmps20
  go_upto_region 1 with (fail)
  refine abs_wp (fun W => W.heap[w.heap.size]? = some (.cells #[.int .i64 ax, .int .i64 ay, .int .i64 bx, .int .i64 by_] 25 (0, 0)) ∧ W.heap[w.heap.size + 1]? = some (.cells P 46 (0, 0)) ∧ Below w.heap.size w W) ⟨heap_old (heap_new w _) _, heap_at (by simp) _, by focus (repeat (first | (with_reducible exact Below.refl _ _) | (with_reducible assumption) | ((with_reducible refine Below.setCell ?_ ?_ _); rotate_left; (focus (first | omega | (simp; done) | (simp; omega)))) | ((with_reducible refine Below.alloc ?_ ?_ _); rotate_left; (focus (first | omega | (simp; done) | (simp; omega)))) | (with_reducible refine Below.drew ?_) | (refine below_on ?_ (by assumption))))⟩ fun W ⟨z0, z1, hB⟩ => ?_
  have c0 := cell_at z0
  go_wp2_with (refine wpList_load_point (.tmp 3) rfl rfl _ rfl z1 hP ?_)
  refine (HS.out _).mono ?_
  rintro e w2 ⟨rfl, hb⟩
  have hB1 := below_on hB hb
  clear hb z0 z1 hB c0
  go_wp2
  refine bodyPost_ret (by first | (simp [results, Tryz.results20, go_sem]; done) | (simp [results, Tryz.results20, go_sem]; rfl)) rfl ⟨rfl, hB1⟩
end Go.Proofs.YtbhfnfokihdjjaaGreatDoor
