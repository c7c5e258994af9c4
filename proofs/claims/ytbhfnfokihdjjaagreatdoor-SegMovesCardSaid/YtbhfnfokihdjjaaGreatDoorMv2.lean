/-
  The references: a point that is too great for one; a point and a segment moved. Conditions stand in each theorem.
-/
import Derived.Test.YtbhfnfokihdjjaaGreatDoorMr6
import Derived.Test.YtbhfnfokihdjjaaGreatDoorMv0
import Derived.Test.YtbhfnfokihdjjaaGreatDoorMv1
namespace Go.Proofs.YtbhfnfokihdjjaaGreatDoor
open Go.RowKit Go.BigFrame
theorem zero20 : (#[.bool false, .int .u64 0, .int .u64 0, .int .u64 0, .int .u64 0, .bool false, .int .u64 0, .int .u64 0, .int .u64 0, .int .u64 0, .bool false, .int .u64 0, .int .u64 0, .int .u64 0, .int .u64 0, .bool false, .int .u64 0, .int .u64 0, .int .u64 0, .int .u64 0] : Array Value) = #[.bool (ng (0)), .int .u64 (dg (ab (0)) 0), .int .u64 (dg (ab (0)) 1), .int .u64 (dg (ab (0)) 2), .int .u64 (dg (ab (0)) 3), .bool false, .int .u64 (dg (0) 0), .int .u64 (dg (0) 1), .int .u64 (dg (0) 2), .int .u64 (dg (0) 3), .bool (ng (0)), .int .u64 (dg (ab (0)) 0), .int .u64 (dg (ab (0)) 1), .int .u64 (dg (ab (0)) 2), .int .u64 (dg (ab (0)) 3), .bool false, .int .u64 (dg (0) 0), .int .u64 (dg (0) 1), .int .u64 (dg (0) 2), .int .u64 (dg (0) 3)] := by kernel_rfl
set_option maxRecDepth 20000 in
set_option maxHeartbeats 4000000 in
theorem rpout_n1 (n1 : Int) (k1 : Nat) (n2 : Int) (k2 : Nat) (h1 : ab n1 < 2 ^ 256) (h2 : k1 < 2 ^ 256) (h3 : ab n2 < 2 ^ 256) (h4 : k2 < 2 ^ 256) (f1 : rfitsB n1 k1 = false) (u : Value) (w : World) (hu : PntAt w u n1 k1 n2 k2) :
    Calls Tryz.prog 61 #[u] w fun e w' => e = .returned (.tuple #[.agg #[.bool false, .int .u64 0, .int .u64 0, .int .u64 0, .int .u64 0, .bool false, .int .u64 0, .int .u64 0, .int .u64 0, .int .u64 0, .bool false, .int .u64 0, .int .u64 0, .int .u64 0, .int .u64 0, .bool false, .int .u64 0, .int .u64 0, .int .u64 0, .int .u64 0], .int .i64 110]) ∧ Below w.heap.size w w' := by
  have HA : Hd (∀ (v : Value) (w : World), RatAt w v n1 (k1 : Int) → Calls Tryz.prog 41 #[v] w fun e w' => e = .returned (.tuple #[.agg #[.bool (ng (n1)), .int .u64 (dg (ab (n1)) 0), .int .u64 (dg (ab (n1)) 1), .int .u64 (dg (ab (n1)) 2), .int .u64 (dg (ab (n1)) 3), .bool false, .int .u64 (dg (k1) 0), .int .u64 (dg (k1) 1), .int .u64 (dg (k1) 2), .int .u64 (dg (k1) 3)], .int .i64 0]) ∧ Below w.heap.size w w') := ⟨fun v w h => rrout_ok n1 k1 h1 h2 v w h⟩
  have HB : Hd (∀ (v : Value) (w : World), RatAt w v n2 (k2 : Int) → Calls Tryz.prog 41 #[v] w fun e w' => e = .returned (.tuple #[.agg #[.bool (ng (n2)), .int .u64 (dg (ab (n2)) 0), .int .u64 (dg (ab (n2)) 1), .int .u64 (dg (ab (n2)) 2), .int .u64 (dg (ab (n2)) 3), .bool false, .int .u64 (dg (k2) 0), .int .u64 (dg (k2) 1), .int .u64 (dg (k2) 2), .int .u64 (dg (k2) 3)], .int .i64 0]) ∧ Below w.heap.size w w') := ⟨fun v w h => rrout_ok n2 k2 h3 h4 v w h⟩
  have HF1 : Hd (∀ (v : Value) (w : World), RatAt w v n1 (k1 : Int) → Calls Tryz.prog 54 #[v] w fun e w' => e = .returned (.bool false) ∧ Below w.heap.size w w') := ⟨fun v w h => by
    have g := rfits_any n1 k1 v w h
    rw [f1] at g
    exact g⟩
  obtain ⟨A, c, B, e, A2, c2, B2, e2, rfl, hr1, hr2⟩ := hu
  have HR := Hd.mk (And.intro hr1 hr2)
  clear h1 h2 h3 h4 hr1 hr2 f1
  go_enter Tryz.func61, Tryz.ntmps61
  go_wp2_with fail
  refine (HA.out _ _ (HR.out.1.below (by focus (repeat (first | (with_reducible exact Below.refl _ _) | (with_reducible assumption) | ((with_reducible refine Below.setCell ?_ ?_ _); rotate_left; (focus (first | omega | (simp; done) | (simp; omega)))) | ((with_reducible refine Below.alloc ?_ ?_ _); rotate_left; (focus (first | omega | (simp; done) | (simp; omega)))) | (with_reducible refine Below.drew ?_) | (refine below_on ?_ (by assumption))))))).mono ?_
  rintro x1 w1 ⟨rfl, hb⟩
  have z0 := heap_below hb (heap_old (heap_new w (.cells #[.bool (ng n1), .slice A (dd (ab n1)).length c, .bool (ng (k1 : Int)), .slice B (dd (ab (k1 : Int))).length e, .bool (ng n2), .slice A2 (dd (ab n2)).length c2, .bool (ng (k2 : Int)), .slice B2 (dd (ab (k2 : Int))).length e2] 57)) _)
  have z1 := heap_below hb (heap_at (n := w.heap.size + 1) (by simp) (.cells #[.bool false, .int .u64 0, .int .u64 0, .int .u64 0, .int .u64 0, .bool false, .int .u64 0, .int .u64 0, .int .u64 0, .int .u64 0, .bool false, .int .u64 0, .int .u64 0, .int .u64 0, .int .u64 0, .bool false, .int .u64 0, .int .u64 0, .int .u64 0, .int .u64 0] 46))
  have hB : Below w.heap.size w w1 := below_on (by focus (repeat (first | (with_reducible exact Below.refl _ _) | (with_reducible assumption) | ((with_reducible refine Below.setCell ?_ ?_ _); rotate_left; (focus (first | omega | (simp; done) | (simp; omega)))) | ((with_reducible refine Below.alloc ?_ ?_ _); rotate_left; (focus (first | omega | (simp; done) | (simp; omega)))) | (with_reducible refine Below.drew ?_) | (refine below_on ?_ (by assumption))))) hb
  clear hb
  have s1 := lt_of_block z1
  go_upto_region 2 with (refine wpList_store_block rfl 44 (.tmp 4) (.tmp 12) rfl w1.heap.size #[.bool (ng (n1)), .int .u64 (dg (ab (n1)) 0), .int .u64 (dg (ab (n1)) 1), .int .u64 (dg (ab (n1)) 2), .int .u64 (dg (ab (n1)) 3), .bool false, .int .u64 (dg (k1) 0), .int .u64 (dg (k1) 1), .int .u64 (dg (k1) 2), .int .u64 (dg (k1) 3)] rfl rfl (heap_new _ _) rfl (by kernel_rfl) rfl ?_; rintro W3 ⟨q1, q2, q3⟩)
  refine abs_wp (fun W => W.heap[w.heap.size]? = some (.cells #[.bool (ng n1), .slice A (dd (ab n1)).length c, .bool (ng (k1 : Int)), .slice B (dd (ab (k1 : Int))).length e, .bool (ng n2), .slice A2 (dd (ab n2)).length c2, .bool (ng (k2 : Int)), .slice B2 (dd (ab (k2 : Int))).length e2] 57 (0, 0)) ∧ W.heap[w.heap.size + 1]? = some (.cells #[.bool false, .int .u64 0, .int .u64 0, .int .u64 0, .int .u64 0, .bool false, .int .u64 0, .int .u64 0, .int .u64 0, .int .u64 0, .bool false, .int .u64 0, .int .u64 0, .int .u64 0, .int .u64 0, .bool false, .int .u64 0, .int .u64 0, .int .u64 0, .int .u64 0] 46 (0, 0)) ∧ W.heap[w1.heap.size]? = some (.cells #[.bool (ng (n1)), .int .u64 (dg (ab (n1)) 0), .int .u64 (dg (ab (n1)) 1), .int .u64 (dg (ab (n1)) 2), .int .u64 (dg (ab (n1)) 3), .bool false, .int .u64 (dg (k1) 0), .int .u64 (dg (k1) 1), .int .u64 (dg (k1) 2), .int .u64 (dg (k1) 3)] 44 (0, 0)) ∧ Below w.heap.size w W) ⟨q2 _ _ (by omega) (heap_old z0 _), q2 _ _ (by omega) (heap_old z1 _), q1, (Below.alloc hB hB.size _).trans (q3 _ hB.size)⟩ fun W ⟨y0, y1, y2, hB2⟩ => ?_
  obtain ⟨b1, hb1⟩ : ∃ b1, b1 = w1.heap.size := ⟨_, rfl⟩
  rw [← hb1] at y2 s1 ⊢
  clear z0 z1 hB hb1 q1 q2 q3
  generalize (Value.tuple #[.agg #[.bool (ng (n1)), .int .u64 (dg (ab (n1)) 0), .int .u64 (dg (ab (n1)) 1), .int .u64 (dg (ab (n1)) 2), .int .u64 (dg (ab (n1)) 3), .bool false, .int .u64 (dg (k1) 0), .int .u64 (dg (k1) 1), .int .u64 (dg (k1) 2), .int .u64 (dg (k1) 3)], .int .i64 0]) = T1
  generalize (.agg #[.bool (ng (n1)), .int .u64 (dg (ab (n1)) 0), .int .u64 (dg (ab (n1)) 1), .int .u64 (dg (ab (n1)) 2), .int .u64 (dg (ab (n1)) 3), .bool false, .int .u64 (dg (k1) 0), .int .u64 (dg (k1) 1), .int .u64 (dg (k1) 2), .int .u64 (dg (k1) 3)] : Value) = V1
  have c0 := cell_at y0
  go_wp2_with fail
  refine (HB.out _ _ (HR.out.2.below hB2)).mono ?_
  rintro x1 w3 ⟨rfl, hb⟩
  have z0 := heap_below hb y0
  have z1 := heap_below hb y1
  have z2 := heap_below hb y2
  have hB3 := below_on hB2 hb
  clear hb y0 y1 y2 hB2 c0
  have s3 := lt_of_block z2
  go_upto_region 3 with (refine wpList_store_block rfl 44 (.tmp 6) (.tmp 18) rfl w3.heap.size #[.bool (ng (n2)), .int .u64 (dg (ab (n2)) 0), .int .u64 (dg (ab (n2)) 1), .int .u64 (dg (ab (n2)) 2), .int .u64 (dg (ab (n2)) 3), .bool false, .int .u64 (dg (k2) 0), .int .u64 (dg (k2) 1), .int .u64 (dg (k2) 2), .int .u64 (dg (k2) 3)] rfl rfl (heap_new _ _) rfl (by kernel_rfl) rfl ?_; rintro W3 ⟨q1, q2, q3⟩)
  refine abs_wp (fun W => W.heap[w.heap.size]? = some (.cells #[.bool (ng n1), .slice A (dd (ab n1)).length c, .bool (ng (k1 : Int)), .slice B (dd (ab (k1 : Int))).length e, .bool (ng n2), .slice A2 (dd (ab n2)).length c2, .bool (ng (k2 : Int)), .slice B2 (dd (ab (k2 : Int))).length e2] 57 (0, 0)) ∧ W.heap[w.heap.size + 1]? = some (.cells #[.bool false, .int .u64 0, .int .u64 0, .int .u64 0, .int .u64 0, .bool false, .int .u64 0, .int .u64 0, .int .u64 0, .int .u64 0, .bool false, .int .u64 0, .int .u64 0, .int .u64 0, .int .u64 0, .bool false, .int .u64 0, .int .u64 0, .int .u64 0, .int .u64 0] 46 (0, 0)) ∧ W.heap[b1]? = some (.cells #[.bool (ng (n1)), .int .u64 (dg (ab (n1)) 0), .int .u64 (dg (ab (n1)) 1), .int .u64 (dg (ab (n1)) 2), .int .u64 (dg (ab (n1)) 3), .bool false, .int .u64 (dg (k1) 0), .int .u64 (dg (k1) 1), .int .u64 (dg (k1) 2), .int .u64 (dg (k1) 3)] 44 (0, 0)) ∧ W.heap[w3.heap.size]? = some (.cells #[.bool (ng (n2)), .int .u64 (dg (ab (n2)) 0), .int .u64 (dg (ab (n2)) 1), .int .u64 (dg (ab (n2)) 2), .int .u64 (dg (ab (n2)) 3), .bool false, .int .u64 (dg (k2) 0), .int .u64 (dg (k2) 1), .int .u64 (dg (k2) 2), .int .u64 (dg (k2) 3)] 44 (0, 0)) ∧ Below w.heap.size w W) ⟨q2 _ _ (by omega) (heap_old z0 _), q2 _ _ (by omega) (heap_old z1 _), q2 _ _ (by have := lt_of_block z2; omega) (heap_old z2 _), q1, (Below.alloc hB3 hB3.size _).trans (q3 _ hB3.size)⟩ fun W ⟨y0, y1, y2, y3, hB4⟩ => ?_
  obtain ⟨b3, hb3⟩ : ∃ b3, b3 = w3.heap.size := ⟨_, rfl⟩
  rw [← hb3] at y3 s3 ⊢
  clear z0 z1 z2 hB3 hb3 q1 q2 q3
  generalize (Value.tuple #[.agg #[.bool (ng (n2)), .int .u64 (dg (ab (n2)) 0), .int .u64 (dg (ab (n2)) 1), .int .u64 (dg (ab (n2)) 2), .int .u64 (dg (ab (n2)) 3), .bool false, .int .u64 (dg (k2) 0), .int .u64 (dg (k2) 1), .int .u64 (dg (k2) 2), .int .u64 (dg (k2) 3)], .int .i64 0]) = T2
  generalize (.agg #[.bool (ng (n2)), .int .u64 (dg (ab (n2)) 0), .int .u64 (dg (ab (n2)) 1), .int .u64 (dg (ab (n2)) 2), .int .u64 (dg (ab (n2)) 3), .bool false, .int .u64 (dg (k2) 0), .int .u64 (dg (k2) 1), .int .u64 (dg (k2) 2), .int .u64 (dg (k2) 3)] : Value) = V2
  have c0 := cell_at y0
  go_wp2_with fail
  refine (HF1.out _ _ (HR.out.1.below hB4)).mono ?_
  rintro x1 w5 ⟨rfl, hb⟩
  have z1 := heap_below hb y1
  have hB5 := below_on hB4 hb
  clear hb y0 y1 y2 y3 hB4 c0
  go_wp2_with (refine wpList_store_block rfl 46 (.tmp 2) (.tmp 38) rfl (w.heap.size + 1) #[.bool false, .int .u64 0, .int .u64 0, .int .u64 0, .int .u64 0, .bool false, .int .u64 0, .int .u64 0, .int .u64 0, .int .u64 0, .bool false, .int .u64 0, .int .u64 0, .int .u64 0, .int .u64 0, .bool false, .int .u64 0, .int .u64 0, .int .u64 0, .int .u64 0] rfl rfl z1 rfl (by kernel_rfl) rfl ?_; rintro W2 ⟨j1, j2, j3⟩; have hF := hB5.trans (j3 _ (by omega)); clear z1 hB5 j2 j3)
  refine bodyPost_ret (by simp [results, Tryz.results61, asAddr, load_point j1 rfl] <;> rfl) rfl ⟨rfl, hF⟩
set_option maxRecDepth 20000 in
set_option maxHeartbeats 4000000 in
theorem rpout_n2 (n1 : Int) (k1 : Nat) (n2 : Int) (k2 : Nat) (h1 : ab n1 < 2 ^ 256) (h2 : k1 < 2 ^ 256) (h3 : ab n2 < 2 ^ 256) (h4 : k2 < 2 ^ 256) (f1 : rfitsB n1 k1 = true) (f2 : rfitsB n2 k2 = false) (u : Value) (w : World) (hu : PntAt w u n1 k1 n2 k2) :
    Calls Tryz.prog 61 #[u] w fun e w' => e = .returned (.tuple #[.agg #[.bool false, .int .u64 0, .int .u64 0, .int .u64 0, .int .u64 0, .bool false, .int .u64 0, .int .u64 0, .int .u64 0, .int .u64 0, .bool false, .int .u64 0, .int .u64 0, .int .u64 0, .int .u64 0, .bool false, .int .u64 0, .int .u64 0, .int .u64 0, .int .u64 0], .int .i64 110]) ∧ Below w.heap.size w w' := by
  have HA : Hd (∀ (v : Value) (w : World), RatAt w v n1 (k1 : Int) → Calls Tryz.prog 41 #[v] w fun e w' => e = .returned (.tuple #[.agg #[.bool (ng (n1)), .int .u64 (dg (ab (n1)) 0), .int .u64 (dg (ab (n1)) 1), .int .u64 (dg (ab (n1)) 2), .int .u64 (dg (ab (n1)) 3), .bool false, .int .u64 (dg (k1) 0), .int .u64 (dg (k1) 1), .int .u64 (dg (k1) 2), .int .u64 (dg (k1) 3)], .int .i64 0]) ∧ Below w.heap.size w w') := ⟨fun v w h => rrout_ok n1 k1 h1 h2 v w h⟩
  have HB : Hd (∀ (v : Value) (w : World), RatAt w v n2 (k2 : Int) → Calls Tryz.prog 41 #[v] w fun e w' => e = .returned (.tuple #[.agg #[.bool (ng (n2)), .int .u64 (dg (ab (n2)) 0), .int .u64 (dg (ab (n2)) 1), .int .u64 (dg (ab (n2)) 2), .int .u64 (dg (ab (n2)) 3), .bool false, .int .u64 (dg (k2) 0), .int .u64 (dg (k2) 1), .int .u64 (dg (k2) 2), .int .u64 (dg (k2) 3)], .int .i64 0]) ∧ Below w.heap.size w w') := ⟨fun v w h => rrout_ok n2 k2 h3 h4 v w h⟩
  have HF1 : Hd (∀ (v : Value) (w : World), RatAt w v n1 (k1 : Int) → Calls Tryz.prog 54 #[v] w fun e w' => e = .returned (.bool true) ∧ Below w.heap.size w w') := ⟨fun v w h => by
    have g := rfits_any n1 k1 v w h
    rw [f1] at g
    exact g⟩
  have HF2 : Hd (∀ (v : Value) (w : World), RatAt w v n2 (k2 : Int) → Calls Tryz.prog 54 #[v] w fun e w' => e = .returned (.bool false) ∧ Below w.heap.size w w') := ⟨fun v w h => by
    have g := rfits_any n2 k2 v w h
    rw [f2] at g
    exact g⟩
  obtain ⟨A, c, B, e, A2, c2, B2, e2, rfl, hr1, hr2⟩ := hu
  have HR := Hd.mk (And.intro hr1 hr2)
  clear h1 h2 h3 h4 hr1 hr2 f1 f2
  go_enter Tryz.func61, Tryz.ntmps61
  go_wp2_with fail
  refine (HA.out _ _ (HR.out.1.below (by focus (repeat (first | (with_reducible exact Below.refl _ _) | (with_reducible assumption) | ((with_reducible refine Below.setCell ?_ ?_ _); rotate_left; (focus (first | omega | (simp; done) | (simp; omega)))) | ((with_reducible refine Below.alloc ?_ ?_ _); rotate_left; (focus (first | omega | (simp; done) | (simp; omega)))) | (with_reducible refine Below.drew ?_) | (refine below_on ?_ (by assumption))))))).mono ?_
  rintro x1 w1 ⟨rfl, hb⟩
  have z0 := heap_below hb (heap_old (heap_new w (.cells #[.bool (ng n1), .slice A (dd (ab n1)).length c, .bool (ng (k1 : Int)), .slice B (dd (ab (k1 : Int))).length e, .bool (ng n2), .slice A2 (dd (ab n2)).length c2, .bool (ng (k2 : Int)), .slice B2 (dd (ab (k2 : Int))).length e2] 57)) _)
  have z1 := heap_below hb (heap_at (n := w.heap.size + 1) (by simp) (.cells #[.bool false, .int .u64 0, .int .u64 0, .int .u64 0, .int .u64 0, .bool false, .int .u64 0, .int .u64 0, .int .u64 0, .int .u64 0, .bool false, .int .u64 0, .int .u64 0, .int .u64 0, .int .u64 0, .bool false, .int .u64 0, .int .u64 0, .int .u64 0, .int .u64 0] 46))
  have hB : Below w.heap.size w w1 := below_on (by focus (repeat (first | (with_reducible exact Below.refl _ _) | (with_reducible assumption) | ((with_reducible refine Below.setCell ?_ ?_ _); rotate_left; (focus (first | omega | (simp; done) | (simp; omega)))) | ((with_reducible refine Below.alloc ?_ ?_ _); rotate_left; (focus (first | omega | (simp; done) | (simp; omega)))) | (with_reducible refine Below.drew ?_) | (refine below_on ?_ (by assumption))))) hb
  clear hb
  have s1 := lt_of_block z1
  go_upto_region 2 with (refine wpList_store_block rfl 44 (.tmp 4) (.tmp 12) rfl w1.heap.size #[.bool (ng (n1)), .int .u64 (dg (ab (n1)) 0), .int .u64 (dg (ab (n1)) 1), .int .u64 (dg (ab (n1)) 2), .int .u64 (dg (ab (n1)) 3), .bool false, .int .u64 (dg (k1) 0), .int .u64 (dg (k1) 1), .int .u64 (dg (k1) 2), .int .u64 (dg (k1) 3)] rfl rfl (heap_new _ _) rfl (by kernel_rfl) rfl ?_; rintro W3 ⟨q1, q2, q3⟩)
  refine abs_wp (fun W => W.heap[w.heap.size]? = some (.cells #[.bool (ng n1), .slice A (dd (ab n1)).length c, .bool (ng (k1 : Int)), .slice B (dd (ab (k1 : Int))).length e, .bool (ng n2), .slice A2 (dd (ab n2)).length c2, .bool (ng (k2 : Int)), .slice B2 (dd (ab (k2 : Int))).length e2] 57 (0, 0)) ∧ W.heap[w.heap.size + 1]? = some (.cells #[.bool false, .int .u64 0, .int .u64 0, .int .u64 0, .int .u64 0, .bool false, .int .u64 0, .int .u64 0, .int .u64 0, .int .u64 0, .bool false, .int .u64 0, .int .u64 0, .int .u64 0, .int .u64 0, .bool false, .int .u64 0, .int .u64 0, .int .u64 0, .int .u64 0] 46 (0, 0)) ∧ W.heap[w1.heap.size]? = some (.cells #[.bool (ng (n1)), .int .u64 (dg (ab (n1)) 0), .int .u64 (dg (ab (n1)) 1), .int .u64 (dg (ab (n1)) 2), .int .u64 (dg (ab (n1)) 3), .bool false, .int .u64 (dg (k1) 0), .int .u64 (dg (k1) 1), .int .u64 (dg (k1) 2), .int .u64 (dg (k1) 3)] 44 (0, 0)) ∧ Below w.heap.size w W) ⟨q2 _ _ (by omega) (heap_old z0 _), q2 _ _ (by omega) (heap_old z1 _), q1, (Below.alloc hB hB.size _).trans (q3 _ hB.size)⟩ fun W ⟨y0, y1, y2, hB2⟩ => ?_
  obtain ⟨b1, hb1⟩ : ∃ b1, b1 = w1.heap.size := ⟨_, rfl⟩
  rw [← hb1] at y2 s1 ⊢
  clear z0 z1 hB hb1 q1 q2 q3
  generalize (Value.tuple #[.agg #[.bool (ng (n1)), .int .u64 (dg (ab (n1)) 0), .int .u64 (dg (ab (n1)) 1), .int .u64 (dg (ab (n1)) 2), .int .u64 (dg (ab (n1)) 3), .bool false, .int .u64 (dg (k1) 0), .int .u64 (dg (k1) 1), .int .u64 (dg (k1) 2), .int .u64 (dg (k1) 3)], .int .i64 0]) = T1
  generalize (.agg #[.bool (ng (n1)), .int .u64 (dg (ab (n1)) 0), .int .u64 (dg (ab (n1)) 1), .int .u64 (dg (ab (n1)) 2), .int .u64 (dg (ab (n1)) 3), .bool false, .int .u64 (dg (k1) 0), .int .u64 (dg (k1) 1), .int .u64 (dg (k1) 2), .int .u64 (dg (k1) 3)] : Value) = V1
  have c0 := cell_at y0
  go_wp2_with fail
  refine (HB.out _ _ (HR.out.2.below hB2)).mono ?_
  rintro x1 w3 ⟨rfl, hb⟩
  have z0 := heap_below hb y0
  have z1 := heap_below hb y1
  have z2 := heap_below hb y2
  have hB3 := below_on hB2 hb
  clear hb y0 y1 y2 hB2 c0
  have s3 := lt_of_block z2
  go_upto_region 3 with (refine wpList_store_block rfl 44 (.tmp 6) (.tmp 18) rfl w3.heap.size #[.bool (ng (n2)), .int .u64 (dg (ab (n2)) 0), .int .u64 (dg (ab (n2)) 1), .int .u64 (dg (ab (n2)) 2), .int .u64 (dg (ab (n2)) 3), .bool false, .int .u64 (dg (k2) 0), .int .u64 (dg (k2) 1), .int .u64 (dg (k2) 2), .int .u64 (dg (k2) 3)] rfl rfl (heap_new _ _) rfl (by kernel_rfl) rfl ?_; rintro W3 ⟨q1, q2, q3⟩)
  refine abs_wp (fun W => W.heap[w.heap.size]? = some (.cells #[.bool (ng n1), .slice A (dd (ab n1)).length c, .bool (ng (k1 : Int)), .slice B (dd (ab (k1 : Int))).length e, .bool (ng n2), .slice A2 (dd (ab n2)).length c2, .bool (ng (k2 : Int)), .slice B2 (dd (ab (k2 : Int))).length e2] 57 (0, 0)) ∧ W.heap[w.heap.size + 1]? = some (.cells #[.bool false, .int .u64 0, .int .u64 0, .int .u64 0, .int .u64 0, .bool false, .int .u64 0, .int .u64 0, .int .u64 0, .int .u64 0, .bool false, .int .u64 0, .int .u64 0, .int .u64 0, .int .u64 0, .bool false, .int .u64 0, .int .u64 0, .int .u64 0, .int .u64 0] 46 (0, 0)) ∧ W.heap[b1]? = some (.cells #[.bool (ng (n1)), .int .u64 (dg (ab (n1)) 0), .int .u64 (dg (ab (n1)) 1), .int .u64 (dg (ab (n1)) 2), .int .u64 (dg (ab (n1)) 3), .bool false, .int .u64 (dg (k1) 0), .int .u64 (dg (k1) 1), .int .u64 (dg (k1) 2), .int .u64 (dg (k1) 3)] 44 (0, 0)) ∧ W.heap[w3.heap.size]? = some (.cells #[.bool (ng (n2)), .int .u64 (dg (ab (n2)) 0), .int .u64 (dg (ab (n2)) 1), .int .u64 (dg (ab (n2)) 2), .int .u64 (dg (ab (n2)) 3), .bool false, .int .u64 (dg (k2) 0), .int .u64 (dg (k2) 1), .int .u64 (dg (k2) 2), .int .u64 (dg (k2) 3)] 44 (0, 0)) ∧ Below w.heap.size w W) ⟨q2 _ _ (by omega) (heap_old z0 _), q2 _ _ (by omega) (heap_old z1 _), q2 _ _ (by have := lt_of_block z2; omega) (heap_old z2 _), q1, (Below.alloc hB3 hB3.size _).trans (q3 _ hB3.size)⟩ fun W ⟨y0, y1, y2, y3, hB4⟩ => ?_
  obtain ⟨b3, hb3⟩ : ∃ b3, b3 = w3.heap.size := ⟨_, rfl⟩
  rw [← hb3] at y3 s3 ⊢
  clear z0 z1 z2 hB3 hb3 q1 q2 q3
  generalize (Value.tuple #[.agg #[.bool (ng (n2)), .int .u64 (dg (ab (n2)) 0), .int .u64 (dg (ab (n2)) 1), .int .u64 (dg (ab (n2)) 2), .int .u64 (dg (ab (n2)) 3), .bool false, .int .u64 (dg (k2) 0), .int .u64 (dg (k2) 1), .int .u64 (dg (k2) 2), .int .u64 (dg (k2) 3)], .int .i64 0]) = T2
  generalize (.agg #[.bool (ng (n2)), .int .u64 (dg (ab (n2)) 0), .int .u64 (dg (ab (n2)) 1), .int .u64 (dg (ab (n2)) 2), .int .u64 (dg (ab (n2)) 3), .bool false, .int .u64 (dg (k2) 0), .int .u64 (dg (k2) 1), .int .u64 (dg (k2) 2), .int .u64 (dg (k2) 3)] : Value) = V2
  have c0 := cell_at y0
  go_wp2_with fail
  refine (HF1.out _ _ (HR.out.1.below hB4)).mono ?_
  rintro x1 w5 ⟨rfl, hb⟩
  have z0 := heap_below hb y0
  have z1 := heap_below hb y1
  have z2 := heap_below hb y2
  have z3 := heap_below hb y3
  have hB5 := below_on hB4 hb
  clear hb y0 y1 y2 y3 hB4 c0
  have c0 := cell_at z0
  go_wp2_with fail
  refine (HF2.out _ _ (HR.out.2.below hB5)).mono ?_
  rintro x1 w6 ⟨rfl, hb⟩
  have y1 := heap_below hb z1
  have y2 := heap_below hb z2
  have y3 := heap_below hb z3
  have hB6 := below_on hB5 hb
  clear hb z0 z1 z2 z3 hB5 c0
  clear y2 y3
  go_wp2_with (refine wpList_store_block rfl 46 (.tmp 2) (.tmp 38) rfl (w.heap.size + 1) #[.bool false, .int .u64 0, .int .u64 0, .int .u64 0, .int .u64 0, .bool false, .int .u64 0, .int .u64 0, .int .u64 0, .int .u64 0, .bool false, .int .u64 0, .int .u64 0, .int .u64 0, .int .u64 0, .bool false, .int .u64 0, .int .u64 0, .int .u64 0, .int .u64 0] rfl rfl y1 rfl (by kernel_rfl) rfl ?_; rintro W2 ⟨j1, j2, j3⟩; have hF := hB6.trans (j3 _ (by omega)); clear y1 hB6 j2 j3)
  refine bodyPost_ret (by simp [results, Tryz.results61, asAddr, load_point j1 rfl] <;> rfl) rfl ⟨rfl, hF⟩
/-- What comes of a point that may be too great. -/
theorem rpout_any (n1 : Int) (k1 : Nat) (n2 : Int) (k2 : Nat) (h1 : ab n1 < 2 ^ 256) (h2 : k1 < 2 ^ 256) (h3 : ab n2 < 2 ^ 256) (h4 : k2 < 2 ^ 256) :
    ∃ (N1 : Int) (K1 : Nat) (N2 : Int) (K2 : Nat) (e : Int), (rfitsB n1 k1 = true ∧ rfitsB n2 k2 = true ∧ N1 = n1 ∧ K1 = k1 ∧ N2 = n2 ∧ K2 = k2 ∧ e = 0 ∨ e = 110) ∧
    Hd (∀ (u : Value) (w : World), PntAt w u n1 k1 n2 k2 → Calls Tryz.prog 61 #[u] w fun x w' => x = .returned (.tuple #[.agg #[.bool (ng (N1)), .int .u64 (dg (ab (N1)) 0), .int .u64 (dg (ab (N1)) 1), .int .u64 (dg (ab (N1)) 2), .int .u64 (dg (ab (N1)) 3), .bool false, .int .u64 (dg (K1) 0), .int .u64 (dg (K1) 1), .int .u64 (dg (K1) 2), .int .u64 (dg (K1) 3), .bool (ng (N2)), .int .u64 (dg (ab (N2)) 0), .int .u64 (dg (ab (N2)) 1), .int .u64 (dg (ab (N2)) 2), .int .u64 (dg (ab (N2)) 3), .bool false, .int .u64 (dg (K2) 0), .int .u64 (dg (K2) 1), .int .u64 (dg (K2) 2), .int .u64 (dg (K2) 3)], .int .i64 e]) ∧ Below w.heap.size w w') := by
  cases f1 : rfitsB n1 k1 with
  | false =>
    refine ⟨0, 0, 0, 0, 110, .inr rfl, ⟨fun u w hu => ?_⟩⟩
    have h := rpout_n1 n1 k1 n2 k2 h1 h2 h3 h4 f1 u w hu
    rw [zero20] at h
    exact h
  | true =>
    cases f2 : rfitsB n2 k2 with
    | false =>
      refine ⟨0, 0, 0, 0, 110, .inr rfl, ⟨fun u w hu => ?_⟩⟩
      have h := rpout_n2 n1 k1 n2 k2 h1 h2 h3 h4 f1 f2 u w hu
      rw [zero20] at h
      exact h
    | true =>
      obtain ⟨g1, g2⟩ := (rfits_iff n1 k1).1 f1
      obtain ⟨g3, g4⟩ := (rfits_iff n2 k2).1 f2
      exact ⟨n1, k1, n2, k2, 0, .inl ⟨rfl, rfl, rfl, rfl, rfl, rfl, rfl⟩, ⟨fun u w hu => rpout_ok n1 k1 n2 k2 g1 g2 g3 g4 u w hu⟩⟩
end Go.Proofs.YtbhfnfokihdjjaaGreatDoor
