/-
  The references: a point and a segment whose axes change places. Conditions stand in each theorem.
-/
import Derived.Test.YtbhfnfokihdjjaaGreatDoorSg10
import Derived.Test.YtbhfnfokihdjjaaGreatDoorWh1
namespace Go.Proofs.YtbhfnfokihdjjaaGreatDoor
open Go.RowKit Go.BigFrame
set_option maxRecDepth 20000 in
set_option maxHeartbeats 2000000 in
/-- What is asked: the side, whether it is on it, and whether both went well. -/
theorem asked_any (ax ay bx by_ : Int) (P : Array Value) (hs : P.size = 20) (t e f : Int) (o : Bool) (he : wrap64 (e + f) = e + f)
    (hS : ∀ w, Vars w → Calls Tryz.prog 19 #[.agg #[.int .i64 ax, .int .i64 ay, .int .i64 bx, .int .i64 by_], .agg P] w fun r w' => r = .returned (.tuple #[.int .i64 t, .int .i64 e]) ∧ Below w.heap.size w w')
    (hO : ∀ w, Vars w → Calls Tryz.prog 20 #[.agg #[.int .i64 ax, .int .i64 ay, .int .i64 bx, .int .i64 by_], .agg P] w fun r w' => r = .returned (.tuple #[.bool o, .int .i64 f]) ∧ Below w.heap.size w w') (w : World) (hV : Vars w) :
    Calls Tryz.prog 27 #[.agg #[.int .i64 ax, .int .i64 ay, .int .i64 bx, .int .i64 by_], .agg P] w fun r w' => r = .returned (.tuple #[.int .i64 t, .bool o, .bool (e + f == 0)]) ∧ Below w.heap.size w w' := by
  have HV := Hd.mk hV
  have HS := Hd.mk hS
  have HO := Hd.mk hO
  clear hV hS hO
  go_enter Tryz.func27, Tryz.ntmps27
  go_upto_region 1 with (fail)
  refine abs_wp (fun W => W.heap[w.heap.size]? = some (.cells #[.int .i64 ax, .int .i64 ay, .int .i64 bx, .int .i64 by_] 25 (0, 0)) ∧ W.heap[w.heap.size + 1]? = some (.cells P 46 (0, 0)) ∧ Below w.heap.size w W) ⟨heap_old (heap_new _ _) _, heap_at (by simp) _, by focus (repeat (first | (with_reducible exact Below.refl _ _) | (with_reducible assumption) | ((with_reducible refine Below.setCell ?_ ?_ _); rotate_left; (focus (first | omega | (simp; done) | (simp; omega)))) | ((with_reducible refine Below.alloc ?_ ?_ _); rotate_left; (focus (first | omega | (simp; done) | (simp; omega)))) | (with_reducible refine Below.drew ?_) | (refine below_on ?_ (by assumption))))⟩ fun W ⟨z0, z1, hB⟩ => ?_
  have c0 := cell_at z0
  have f0 := frozen_at z0
  go_wp2_with (refine wpList_load_point (.tmp 3) rfl rfl _ rfl z1 hs ?_)
  refine (HS.out _ (HV.out.below hB)).mono ?_
  rintro r w1 ⟨rfl, hb⟩
  have y0 := heap_below hb z0
  have y1 := heap_below hb z1
  have hB1 := below_on hB hb
  clear hb z0 z1 hB c0 f0
  have c0 := cell_at y0
  have f0 := frozen_at y0
  go_wp2_with (refine wpList_load_point (.tmp 3) rfl rfl _ rfl y1 hs ?_)
  refine (HO.out _ (HV.out.below hB1)).mono ?_
  rintro r w2 ⟨rfl, hb⟩
  have hB2 := below_on hB1 hb
  clear hb y0 y1 hB1 c0 f0
  go_wp2_with (go_at_call 13; refine (law_num _ _).mono ?_; rintro r w' ⟨rfl, rfl⟩)
  refine bodyPost_ret (by first | (simp [results, Tryz.results27, go_sem, he]; done) | (simp [results, Tryz.results27, go_sem, he]; rfl)) rfl ⟨by simp, hB2⟩
end Go.Proofs.YtbhfnfokihdjjaaGreatDoor

namespace Go.Proofs.YtbhfnfokihdjjaaGreatDoor
open Go.RowKit Go.BigFrame
set_option maxRecDepth 20000 in
set_option maxHeartbeats 2000000 in
theorem rseg_swapped (ax ay bx by_ : Int) (w : World) :
    Calls Tryz.prog 28 #[.agg #[.int .i64 ax, .int .i64 ay, .int .i64 bx, .int .i64 by_]] w fun r w' => r = .returned (.agg #[.int .i64 ay, .int .i64 ax, .int .i64 by_, .int .i64 bx]) ∧ Below w.heap.size w w' := by
  go_enter Tryz.func28, Tryz.ntmps28
  go_upto_region 1 with (fail)
  refine abs_wp (fun W => W.heap[w.heap.size]? = some (.cells #[.int .i64 ax, .int .i64 ay, .int .i64 bx, .int .i64 by_] 25 (0, 0)) ∧ W.heap[w.heap.size + 1]? = some (.cells #[.int .i64 0, .int .i64 0, .int .i64 0, .int .i64 0] 25 (0, 0)) ∧ Below w.heap.size w W) ⟨heap_old (heap_new _ _) _, heap_at (by simp) _, by focus (repeat (first | (with_reducible exact Below.refl _ _) | (with_reducible assumption) | ((with_reducible refine Below.setCell ?_ ?_ _); rotate_left; (focus (first | omega | (simp; done) | (simp; omega)))) | ((with_reducible refine Below.alloc ?_ ?_ _); rotate_left; (focus (first | omega | (simp; done) | (simp; omega)))) | (with_reducible refine Below.drew ?_) | (refine below_on ?_ (by assumption))))⟩ fun W ⟨z0, z1, hB⟩ => ?_
  have c0 := cell_at z0
  have f0 := frozen_at z0
  have c1 := cell_at z1
  have f1 := frozen_at z1
  go_wp2
  obtain ⟨l1, l2, l3⟩ := laid_four (w.heap.size + 1) W (.int .i64 ay) (.int .i64 ax) (.int .i64 by_) (.int .i64 bx)
  have c2 := cell_at (l1 z1 rfl)
  refine bodyPost_ret (by first | (simp [results, Tryz.results28, go_sem, c2]; done) | (simp [results, Tryz.results28, go_sem, c2]; rfl)) rfl ⟨rfl, hB.trans (l3 w.heap.size (by omega))⟩
set_option maxRecDepth 20000 in
set_option maxHeartbeats 2000000 in
theorem rpnt_swapped (n1 : Int) (k1 : Nat) (n2 : Int) (k2 : Nat) (w : World) :
    Calls Tryz.prog 29 #[.agg #[.bool (ng (n1)), .int .u64 (dg (ab (n1)) 0), .int .u64 (dg (ab (n1)) 1), .int .u64 (dg (ab (n1)) 2), .int .u64 (dg (ab (n1)) 3), .bool false, .int .u64 (dg (k1) 0), .int .u64 (dg (k1) 1), .int .u64 (dg (k1) 2), .int .u64 (dg (k1) 3), .bool (ng (n2)), .int .u64 (dg (ab (n2)) 0), .int .u64 (dg (ab (n2)) 1), .int .u64 (dg (ab (n2)) 2), .int .u64 (dg (ab (n2)) 3), .bool false, .int .u64 (dg (k2) 0), .int .u64 (dg (k2) 1), .int .u64 (dg (k2) 2), .int .u64 (dg (k2) 3)]] w fun r w' => r = .returned (.agg #[.bool (ng (n2)), .int .u64 (dg (ab (n2)) 0), .int .u64 (dg (ab (n2)) 1), .int .u64 (dg (ab (n2)) 2), .int .u64 (dg (ab (n2)) 3), .bool false, .int .u64 (dg (k2) 0), .int .u64 (dg (k2) 1), .int .u64 (dg (k2) 2), .int .u64 (dg (k2) 3), .bool (ng (n1)), .int .u64 (dg (ab (n1)) 0), .int .u64 (dg (ab (n1)) 1), .int .u64 (dg (ab (n1)) 2), .int .u64 (dg (ab (n1)) 3), .bool false, .int .u64 (dg (k1) 0), .int .u64 (dg (k1) 1), .int .u64 (dg (k1) 2), .int .u64 (dg (k1) 3)]) ∧ Below w.heap.size w w' := by
  go_enter Tryz.func29, Tryz.ntmps29
  go_upto_region 1 with (fail)
  refine abs_wp (fun W => W.heap[w.heap.size]? = some (.cells #[.bool (ng (n1)), .int .u64 (dg (ab (n1)) 0), .int .u64 (dg (ab (n1)) 1), .int .u64 (dg (ab (n1)) 2), .int .u64 (dg (ab (n1)) 3), .bool false, .int .u64 (dg (k1) 0), .int .u64 (dg (k1) 1), .int .u64 (dg (k1) 2), .int .u64 (dg (k1) 3), .bool (ng (n2)), .int .u64 (dg (ab (n2)) 0), .int .u64 (dg (ab (n2)) 1), .int .u64 (dg (ab (n2)) 2), .int .u64 (dg (ab (n2)) 3), .bool false, .int .u64 (dg (k2) 0), .int .u64 (dg (k2) 1), .int .u64 (dg (k2) 2), .int .u64 (dg (k2) 3)] 46 (0, 0)) ∧ (∃ c, W.heap[w.heap.size + 1]? = some (.cells c 46 (0, 0)) ∧ c.size = 20) ∧ Below w.heap.size w W) ⟨heap_old (heap_new _ _) _, ⟨_, heap_at (by simp) _, rfl⟩, by focus (repeat (first | (with_reducible exact Below.refl _ _) | (with_reducible assumption) | ((with_reducible refine Below.setCell ?_ ?_ _); rotate_left; (focus (first | omega | (simp; done) | (simp; omega)))) | ((with_reducible refine Below.alloc ?_ ?_ _); rotate_left; (focus (first | omega | (simp; done) | (simp; omega)))) | (with_reducible refine Below.drew ?_) | (refine below_on ?_ (by assumption))))⟩ fun W ⟨z0, ⟨c, z1, hc⟩, hB⟩ => ?_
  have c0 := cell_at z0
  have f0 := frozen_at z0
  go_wp2_with (refine wpList_store_block rfl 46 (.tmp 2) (.tmp 7) rfl (w.heap.size + 1) #[.bool (ng (n2)), .int .u64 (dg (ab (n2)) 0), .int .u64 (dg (ab (n2)) 1), .int .u64 (dg (ab (n2)) 2), .int .u64 (dg (ab (n2)) 3), .bool false, .int .u64 (dg (k2) 0), .int .u64 (dg (k2) 1), .int .u64 (dg (k2) 2), .int .u64 (dg (k2) 3), .bool (ng (n1)), .int .u64 (dg (ab (n1)) 0), .int .u64 (dg (ab (n1)) 1), .int .u64 (dg (ab (n1)) 2), .int .u64 (dg (ab (n1)) 3), .bool false, .int .u64 (dg (k1) 0), .int .u64 (dg (k1) 1), .int .u64 (dg (k1) 2), .int .u64 (dg (k1) 3)] rfl rfl z1 (by rw [hc]; rfl) (by kernel_rfl) rfl ?_; rintro W3 ⟨k1, k2, k3⟩)
  refine bodyPost_ret (by simp [results, Tryz.results29, asAddr, Act.put, load_point k1 rfl] <;> rfl) rfl ⟨rfl, hB.trans (k3 w.heap.size (by omega))⟩
end Go.Proofs.YtbhfnfokihdjjaaGreatDoor
