/-
  The law SegSides: any segment, any point. Conditions stand in each theorem.
-/
import Derived.Test.YtbhfnfokihdjjaaGreatDoorHl2
import Derived.Test.YtbhfnfokihdjjaaGreatDoorSd1
import Derived.Test.YtbhfnfokihdjjaaGreatDoorMr6
import Derived.Test.YtbhfnfokihdjjaaGreatDoorSs6
namespace Go.Proofs.YtbhfnfokihdjjaaGreatDoor
open Go.RowKit Go.BigFrame
set_option maxRecDepth 20000 in
set_option maxHeartbeats 4000000 in
theorem sides_w1 (ax ay bx by_ : Int) (P : Array Value) (hP : P.size = 20) (HS : Hd (∀ w : World, Calls Tryz.prog 19 #[.agg #[.int .i64 ax, .int .i64 ay, .int .i64 bx, .int .i64 by_], .agg P] w fun e w' => e = .returned (.tuple #[.int .i64 0, .int .i64 2]) ∧ Below w.heap.size w w')) (HO : Hd (∀ w : World, Calls Tryz.prog 20 #[.agg #[.int .i64 ax, .int .i64 ay, .int .i64 bx, .int .i64 by_], .agg P] w fun e w' => e = .returned (.tuple #[.bool false, .int .i64 2]) ∧ Below w.heap.size w w')) (HR : Hd (∀ w : World, Calls Tryz.prog 12 #[.agg #[.int .i64 ax, .int .i64 ay, .int .i64 bx, .int .i64 by_]] w fun e w' => e = .returned (.bool false) ∧ Below w.heap.size w w')) (w : World) (hV : Vars w) :
    Calls Tryz.prog 4 #[.agg #[.int .i64 ax, .int .i64 ay, .int .i64 bx, .int .i64 by_], .agg P] w fun e w' => e = .returned (.bool true) ∧ Below w.heap.size w w' := by
  have HV := Hd.mk hV
  clear hV
  go_enter Tryz.func4, Tryz.ntmps4
  go_upto_region 1 with (fail)
  refine abs_wp (fun W => W.heap[w.heap.size]? = some (.cells #[.int .i64 ax, .int .i64 ay, .int .i64 bx, .int .i64 by_] 25 (0, 0)) ∧ W.heap[w.heap.size + 1]? = some (.cells P 46 (0, 0)) ∧ Below w.heap.size w W) ⟨heap_old (heap_new _ _) _, heap_at (by simp) _, by focus (repeat (first | (with_reducible exact Below.refl _ _) | (with_reducible assumption) | ((with_reducible refine Below.setCell ?_ ?_ _); rotate_left; (focus (first | omega | (simp; done) | (simp; omega)))) | ((with_reducible refine Below.alloc ?_ ?_ _); rotate_left; (focus (first | omega | (simp; done) | (simp; omega)))) | (with_reducible refine Below.drew ?_) | (refine below_on ?_ (by assumption))))⟩ fun W ⟨z0_0, z1_0, hB_0⟩ => ?_
  have c0 := cell_at z0_0
  go_wp2_with (refine wpList_load_point (.tmp 3) rfl rfl _ rfl z1_0 hP ?_)
  refine (HS.out _).mono ?_
  rintro r w1 ⟨rfl, hb⟩
  have z0_1 := heap_below hb z0_0
  have z1_1 := heap_below hb z1_0
  have hB_1 := below_on hB_0 hb
  clear hb z0_0 z1_0 hB_0 c0
  have c0 := cell_at z0_1
  go_wp2_with (refine wpList_load_point (.tmp 3) rfl rfl _ rfl z1_1 hP ?_)
  refine (HO.out _).mono ?_
  rintro r w2 ⟨rfl, hb⟩
  have z0_2 := heap_below hb z0_1
  have z1_2 := heap_below hb z1_1
  have hB_2 := below_on hB_1 hb
  clear hb z0_1 z1_1 hB_1 c0
  have c0 := cell_at z0_2
  go_wp2_with fail
  refine (HR.out _).mono ?_
  rintro r w3 ⟨rfl, hb⟩
  have z0_3 := heap_below hb z0_2
  have z1_3 := heap_below hb z1_2
  have hB_3 := below_on hB_2 hb
  clear hb z0_2 z1_2 hB_2 c0
  go_wp2_with (go_at_call 13; refine (law_num _ _).mono ?_; rintro e w' ⟨rfl, rfl⟩)
  refine (law_works _ (HV.out.below hB_3)).mono ?_
  rintro r wz ⟨rfl, hb⟩
  have hF := below_on hB_3 hb
  go_wp2
  go_ret
  exact ⟨rfl, hF⟩
set_option maxRecDepth 20000 in
set_option maxHeartbeats 4000000 in
theorem sides_w2 (ax ay bx by_ : Int) (P : Array Value) (hP : P.size = 20) (HS : Hd (∀ w : World, Calls Tryz.prog 19 #[.agg #[.int .i64 ax, .int .i64 ay, .int .i64 bx, .int .i64 by_], .agg P] w fun e w' => e = .returned (.tuple #[.int .i64 0, .int .i64 2]) ∧ Below w.heap.size w w')) (HO : Hd (∀ w : World, Calls Tryz.prog 20 #[.agg #[.int .i64 ax, .int .i64 ay, .int .i64 bx, .int .i64 by_], .agg P] w fun e w' => e = .returned (.tuple #[.bool false, .int .i64 2]) ∧ Below w.heap.size w w')) (HR : Hd (∀ w : World, Calls Tryz.prog 12 #[.agg #[.int .i64 ax, .int .i64 ay, .int .i64 bx, .int .i64 by_]] w fun e w' => e = .returned (.bool true) ∧ Below w.heap.size w w')) (HP : Hd (∀ w : World, Calls Tryz.prog 21 #[.agg P] w fun e w' => e = .returned (.bool false) ∧ Below w.heap.size w w')) (w : World) (hV : Vars w) :
    Calls Tryz.prog 4 #[.agg #[.int .i64 ax, .int .i64 ay, .int .i64 bx, .int .i64 by_], .agg P] w fun e w' => e = .returned (.bool true) ∧ Below w.heap.size w w' := by
  have HV := Hd.mk hV
  clear hV
  go_enter Tryz.func4, Tryz.ntmps4
  go_upto_region 1 with (fail)
  refine abs_wp (fun W => W.heap[w.heap.size]? = some (.cells #[.int .i64 ax, .int .i64 ay, .int .i64 bx, .int .i64 by_] 25 (0, 0)) ∧ W.heap[w.heap.size + 1]? = some (.cells P 46 (0, 0)) ∧ Below w.heap.size w W) ⟨heap_old (heap_new _ _) _, heap_at (by simp) _, by focus (repeat (first | (with_reducible exact Below.refl _ _) | (with_reducible assumption) | ((with_reducible refine Below.setCell ?_ ?_ _); rotate_left; (focus (first | omega | (simp; done) | (simp; omega)))) | ((with_reducible refine Below.alloc ?_ ?_ _); rotate_left; (focus (first | omega | (simp; done) | (simp; omega)))) | (with_reducible refine Below.drew ?_) | (refine below_on ?_ (by assumption))))⟩ fun W ⟨z0_0, z1_0, hB_0⟩ => ?_
  have c0 := cell_at z0_0
  go_wp2_with (refine wpList_load_point (.tmp 3) rfl rfl _ rfl z1_0 hP ?_)
  refine (HS.out _).mono ?_
  rintro r w1 ⟨rfl, hb⟩
  have z0_1 := heap_below hb z0_0
  have z1_1 := heap_below hb z1_0
  have hB_1 := below_on hB_0 hb
  clear hb z0_0 z1_0 hB_0 c0
  have c0 := cell_at z0_1
  go_wp2_with (refine wpList_load_point (.tmp 3) rfl rfl _ rfl z1_1 hP ?_)
  refine (HO.out _).mono ?_
  rintro r w2 ⟨rfl, hb⟩
  have z0_2 := heap_below hb z0_1
  have z1_2 := heap_below hb z1_1
  have hB_2 := below_on hB_1 hb
  clear hb z0_1 z1_1 hB_1 c0
  have c0 := cell_at z0_2
  go_wp2_with fail
  refine (HR.out _).mono ?_
  rintro r w3 ⟨rfl, hb⟩
  have z0_3 := heap_below hb z0_2
  have z1_3 := heap_below hb z1_2
  have hB_3 := below_on hB_2 hb
  clear hb z0_2 z1_2 hB_2 c0
  go_wp2_with (refine wpList_load_point (.tmp 3) rfl rfl _ rfl z1_3 hP ?_)
  refine (HP.out _).mono ?_
  rintro r w4 ⟨rfl, hb⟩
  have z0_4 := heap_below hb z0_3
  have z1_4 := heap_below hb z1_3
  have hB_4 := below_on hB_3 hb
  clear hb z0_3 z1_3 hB_3
  go_wp2_with (go_at_call 13; refine (law_num _ _).mono ?_; rintro e w' ⟨rfl, rfl⟩)
  refine (law_works _ (HV.out.below hB_4)).mono ?_
  rintro r wz ⟨rfl, hb⟩
  have hF := below_on hB_4 hb
  go_wp2
  go_ret
  exact ⟨rfl, hF⟩
set_option maxRecDepth 20000 in
set_option maxHeartbeats 4000000 in
theorem sides_w3 (ax ay bx by_ : Int) (P : Array Value) (hP : P.size = 20) (X : Int) (D : Nat) (Y : Int) (E : Nat) (t : Int) (o : Bool)
    (HS : Hd (∀ w : World, Vars w → Calls Tryz.prog 19 #[.agg #[.int .i64 ax, .int .i64 ay, .int .i64 bx, .int .i64 by_], .agg P] w fun e w' => e = .returned (.tuple #[.int .i64 t, .int .i64 0]) ∧ Below w.heap.size w w')) (HO : Hd (∀ w : World, Vars w → Calls Tryz.prog 20 #[.agg #[.int .i64 ax, .int .i64 ay, .int .i64 bx, .int .i64 by_], .agg P] w fun e w' => e = .returned (.tuple #[.bool o, .int .i64 0]) ∧ Below w.heap.size w w')) (HR : Hd (∀ w : World, Calls Tryz.prog 12 #[.agg #[.int .i64 ax, .int .i64 ay, .int .i64 bx, .int .i64 by_]] w fun e w' => e = .returned (.bool true) ∧ Below w.heap.size w w')) (HP : Hd (∀ w : World, Calls Tryz.prog 21 #[.agg P] w fun e w' => e = .returned (.bool true) ∧ Below w.heap.size w w'))
    (HF : Hd (∀ w : World, Calls Tryz.prog 22 #[.agg P] w fun e w' => ∃ v, e = .returned v ∧ PntAt w' v X D Y E ∧ Below w.heap.size w w'))
    (HRS : Hd (∀ (u : Value) (w : World), PntAt w u X D Y E → Calls Tryz.prog 23 #[.agg #[.int .i64 ax, .int .i64 ay, .int .i64 bx, .int .i64 by_], u] w fun e w' => e = .returned (.int .i64 t) ∧ Below w.heap.size w w'))
    (HRO : Hd (∀ (u : Value) (w : World), PntAt w u X D Y E → Calls Tryz.prog 24 #[.agg #[.int .i64 ax, .int .i64 ay, .int .i64 bx, .int .i64 by_], u] w fun e w' => e = .returned (.bool o) ∧ Below w.heap.size w w')) (w : World) (hV : Vars w) :
    Calls Tryz.prog 4 #[.agg #[.int .i64 ax, .int .i64 ay, .int .i64 bx, .int .i64 by_], .agg P] w fun e w' => e = .returned (.bool true) ∧ Below w.heap.size w w' := by
  have HV := Hd.mk hV
  clear hV
  go_enter Tryz.func4, Tryz.ntmps4
  go_upto_region 1 with (fail)
  refine abs_wp (fun W => W.heap[w.heap.size]? = some (.cells #[.int .i64 ax, .int .i64 ay, .int .i64 bx, .int .i64 by_] 25 (0, 0)) ∧ W.heap[w.heap.size + 1]? = some (.cells P 46 (0, 0)) ∧ Below w.heap.size w W) ⟨heap_old (heap_new _ _) _, heap_at (by simp) _, by focus (repeat (first | (with_reducible exact Below.refl _ _) | (with_reducible assumption) | ((with_reducible refine Below.setCell ?_ ?_ _); rotate_left; (focus (first | omega | (simp; done) | (simp; omega)))) | ((with_reducible refine Below.alloc ?_ ?_ _); rotate_left; (focus (first | omega | (simp; done) | (simp; omega)))) | (with_reducible refine Below.drew ?_) | (refine below_on ?_ (by assumption))))⟩ fun W ⟨z0_0, z1_0, hB_0⟩ => ?_
  have c0 := cell_at z0_0
  go_wp2_with (refine wpList_load_point (.tmp 3) rfl rfl _ rfl z1_0 hP ?_)
  refine (HS.out _ (HV.out.below hB_0)).mono ?_
  rintro r w1 ⟨rfl, hb⟩
  have z0_1 := heap_below hb z0_0
  have z1_1 := heap_below hb z1_0
  have hB_1 := below_on hB_0 hb
  clear hb z0_0 z1_0 hB_0 c0
  have c0 := cell_at z0_1
  go_wp2_with (refine wpList_load_point (.tmp 3) rfl rfl _ rfl z1_1 hP ?_)
  refine (HO.out _ (HV.out.below hB_1)).mono ?_
  rintro r w2 ⟨rfl, hb⟩
  have z0_2 := heap_below hb z0_1
  have z1_2 := heap_below hb z1_1
  have hB_2 := below_on hB_1 hb
  clear hb z0_1 z1_1 hB_1 c0
  have c0 := cell_at z0_2
  go_wp2_with fail
  refine (HR.out _).mono ?_
  rintro r w3 ⟨rfl, hb⟩
  have z0_3 := heap_below hb z0_2
  have z1_3 := heap_below hb z1_2
  have hB_3 := below_on hB_2 hb
  clear hb z0_2 z1_2 hB_2 c0
  go_wp2_with (refine wpList_load_point (.tmp 3) rfl rfl _ rfl z1_3 hP ?_)
  refine (HP.out _).mono ?_
  rintro r w4 ⟨rfl, hb⟩
  have z0_4 := heap_below hb z0_3
  have z1_4 := heap_below hb z1_3
  have hB_4 := below_on hB_3 hb
  clear hb z0_3 z1_3 hB_3
  go_wp2_with (refine wpList_load_point (.tmp 3) rfl rfl _ rfl z1_4 hP ?_)
  refine (HF.out _).mono ?_
  rintro r w5 ⟨v, rfl, ⟨A1, c1, B1, e1, A2, c2, B2, e2, rfl, hr1, hr2⟩, hb⟩
  have z0_5 := heap_below hb z0_4
  have hB_5 := below_on hB_4 hb
  have HG := Hd.mk (And.intro hr1 hr2)
  clear hb z0_4 z1_4 hB_4 hr1 hr2
  go_upto_region 6 with (fail)
  obtain ⟨b, hb⟩ : ∃ b, b = w5.heap.size := ⟨_, rfl⟩
  have hsz := hB_5.size
  refine abs_wp (fun W => W.heap[w.heap.size]? = some (.cells #[.int .i64 ax, .int .i64 ay, .int .i64 bx, .int .i64 by_] 25 (0, 0)) ∧ W.heap[w5.heap.size]? = some (.cells #[.bool (ng X), .slice A1 (dd (ab X)).length c1, .bool (ng (D : Int)), .slice B1 (dd (ab (D : Int))).length e1, .bool (ng Y), .slice A2 (dd (ab Y)).length c2, .bool (ng (E : Int)), .slice B2 (dd (ab (E : Int))).length e2] 57 (0, 0)) ∧ (RatAt W (.agg #[.bool (ng X), .slice A1 (dd (ab X)).length c1, .bool (ng (D : Int)), .slice B1 (dd (ab (D : Int))).length e1]) X (D : Int) ∧ RatAt W (.agg #[.bool (ng Y), .slice A2 (dd (ab Y)).length c2, .bool (ng (E : Int)), .slice B2 (dd (ab (E : Int))).length e2]) Y (E : Int)) ∧ Below w.heap.size w W) ⟨heap_old z0_5 _, heap_new _ _, ⟨HG.out.1.below (by focus (repeat (first | (with_reducible exact Below.refl _ _) | (with_reducible assumption) | ((with_reducible refine Below.setCell ?_ ?_ _); rotate_left; (focus (first | omega | (simp; done) | (simp; omega)))) | ((with_reducible refine Below.alloc ?_ ?_ _); rotate_left; (focus (first | omega | (simp; done) | (simp; omega)))) | (with_reducible refine Below.drew ?_) | (refine below_on ?_ (by assumption))))), HG.out.2.below (by focus (repeat (first | (with_reducible exact Below.refl _ _) | (with_reducible assumption) | ((with_reducible refine Below.setCell ?_ ?_ _); rotate_left; (focus (first | omega | (simp; done) | (simp; omega)))) | ((with_reducible refine Below.alloc ?_ ?_ _); rotate_left; (focus (first | omega | (simp; done) | (simp; omega)))) | (with_reducible refine Below.drew ?_) | (refine below_on ?_ (by assumption)))))⟩, by focus (repeat (first | (with_reducible exact Below.refl _ _) | (with_reducible assumption) | ((with_reducible refine Below.setCell ?_ ?_ _); rotate_left; (focus (first | omega | (simp; done) | (simp; omega)))) | ((with_reducible refine Below.alloc ?_ ?_ _); rotate_left; (focus (first | omega | (simp; done) | (simp; omega)))) | (with_reducible refine Below.drew ?_) | (refine below_on ?_ (by assumption))))⟩ fun W6 ⟨z0_6, z1_6, hg, hB_6⟩ => ?_
  rw [← hb] at z1_6 ⊢
  have HQ : Hd (PntAt W6 (.agg #[.bool (ng X), .slice A1 (dd (ab X)).length c1, .bool (ng (D : Int)), .slice B1 (dd (ab (D : Int))).length e1, .bool (ng Y), .slice A2 (dd (ab Y)).length c2, .bool (ng (E : Int)), .slice B2 (dd (ab (E : Int))).length e2]) X D Y E) := ⟨⟨A1, c1, B1, e1, A2, c2, B2, e2, rfl, hg.1, hg.2⟩⟩
  clear z0_5 hB_5 hsz hb hg HG
  have c0 := cell_at z0_6
  have c1' := cell_at z1_6
  go_wp2_with fail
  refine (HRS.out _ _ HQ.out).mono ?_
  rintro r w7 ⟨rfl, hb⟩
  have z0_7 := heap_below hb z0_6
  have z1_7 := heap_below hb z1_6
  have hB_7 := below_on hB_6 hb
  have HQ := Hd.mk (HQ.out.below hb)
  clear hb z0_6 z1_6 hB_6 c0 c1'
  have c0 := cell_at z0_7
  have c1' := cell_at z1_7
  go_wp2_with fail
  refine (HRO.out _ _ HQ.out).mono ?_
  rintro r w8 ⟨rfl, hb⟩
  have hB_8 := below_on hB_7 hb
  clear hb z0_7 z1_7 hB_7 c0 c1' HQ
  go_wp2_with (go_at_call 13; refine (law_num _ _).mono ?_; rintro e w' ⟨rfl, rfl⟩)
  refine (law_works _ (HV.out.below hB_8)).mono ?_
  rintro r wz ⟨rfl, hb⟩
  have hF := below_on hB_8 hb
  go_wp2
  go_ret
  exact ⟨rfl, hF⟩
theorem sides_any (ax ay bx by_ : Int) (p q r s : Bool × Nat) (hp : p.2 < 2 ^ 256) (hq : q.2 < 2 ^ 256) (hr : r.2 < 2 ^ 256) (hs : s.2 < 2 ^ 256) (w : World) (hV : Vars w) :
    Calls Tryz.prog 4 #[.agg #[.int .i64 ax, .int .i64 ay, .int .i64 bx, .int .i64 by_], .agg #[.bool p.1, .int .u64 (dg (p.2) 0), .int .u64 (dg (p.2) 1), .int .u64 (dg (p.2) 2), .int .u64 (dg (p.2) 3), .bool q.1, .int .u64 (dg (q.2) 0), .int .u64 (dg (q.2) 1), .int .u64 (dg (q.2) 2), .int .u64 (dg (q.2) 3), .bool r.1, .int .u64 (dg (r.2) 0), .int .u64 (dg (r.2) 1), .int .u64 (dg (r.2) 2), .int .u64 (dg (r.2) 3), .bool s.1, .int .u64 (dg (s.2) 0), .int .u64 (dg (s.2) 1), .int .u64 (dg (s.2) 2), .int .u64 (dg (s.2) 3)]] w fun e w' => e = .returned (.bool true) ∧ Below w.heap.size w w' := by
  have hri := rseg_right ax ay bx by_
  cases hg : segB ax ay bx by_ with
  | false =>
    rw [hg] at hri
    have h1 := side_bad1 ax ay bx by_ #[.bool p.1, .int .u64 (dg (p.2) 0), .int .u64 (dg (p.2) 1), .int .u64 (dg (p.2) 2), .int .u64 (dg (p.2) 3), .bool q.1, .int .u64 (dg (q.2) 0), .int .u64 (dg (q.2) 1), .int .u64 (dg (q.2) 2), .int .u64 (dg (q.2) 3), .bool r.1, .int .u64 (dg (r.2) 0), .int .u64 (dg (r.2) 1), .int .u64 (dg (r.2) 2), .int .u64 (dg (r.2) 3), .bool s.1, .int .u64 (dg (s.2) 0), .int .u64 (dg (s.2) 1), .int .u64 (dg (s.2) 2), .int .u64 (dg (s.2) 3)] rfl hg
    exact sides_w1 ax ay bx by_ _ rfl ⟨h1⟩ ⟨on_bad ax ay bx by_ _ rfl ⟨h1⟩⟩ ⟨hri⟩ w hV
  | true =>
    rw [hg] at hri
    by_cases ho : okPt p q r s
    · have hpr := rpright_p p q r s hp hq hr hs true ⟨fun _ => ho, fun _ => rfl⟩
      have hpt := pt_of hp hq hr hs ho.1 ho.2.1 ho.2.2.1 ho.2.2.2
      rw [pnt_value ho.1 ho.2.1] at hpr ⊢
      generalize zof p.1 p.2 = X at *
      generalize q.2 = D at *
      generalize zof r.1 r.2 = Y at *
      generalize s.2 = E at *
      exact sides_w3 ax ay bx by_ _ rfl X D Y E _ _ ⟨fun w hw => seg_side_ok ax ay bx by_ X D Y E hg hpt w hw⟩ ⟨fun w hw => seg_on_ok ax ay bx by_ X D Y E hg hpt w hw⟩ ⟨hri⟩ ⟨hpr⟩ ⟨rpfrom_pt X D Y E hpt⟩ (rside_any ax ay bx by_ X D Y E hg hpt) (ron_any ax ay bx by_ X D Y E hg hpt) w hV
    · have hpr := rpright_p p q r s hp hq hr hs false ⟨fun h => (by cases h), fun h => absurd h ho⟩
      have hr0 := pright_p p q r s hp hq hr hs false ⟨fun h => (by cases h), fun h => absurd h ho⟩
      have h1 := side_bad2 ax ay bx by_ _ rfl hg ⟨hr0⟩
      exact sides_w2 ax ay bx by_ _ rfl ⟨h1⟩ ⟨on_bad ax ay bx by_ _ rfl ⟨h1⟩⟩ ⟨hri⟩ ⟨hpr⟩ w hV
end Go.Proofs.YtbhfnfokihdjjaaGreatDoor
