/-
  The law SegMoves: any segment, any point, any way. Conditions stand in each theorem.
-/
import Derived.Test.YtbhfnfokihdjjaaGreatDoorHl2
import Derived.Test.YtbhfnfokihdjjaaGreatDoorMr2
import Derived.Test.YtbhfnfokihdjjaaGreatDoorMv5
namespace Go.Proofs.YtbhfnfokihdjjaaGreatDoor
open Go.RowKit Go.BigFrame
set_option maxRecDepth 20000 in
set_option maxHeartbeats 4000000 in
theorem moves_walk (ax ay bx by_ t0 t1 t2 t3 dx dy : Int) (P : Array Value) (hP : P.size = 20) (N1 : Int) (K1 : Nat) (N2 : Int) (K2 : Nat) (a b o : Bool) (m : Int)
    (HSM : Hd (∀ w : World, Calls Tryz.prog 25 #[.agg #[.int .i64 ax, .int .i64 ay, .int .i64 bx, .int .i64 by_], .int .i64 dx, .int .i64 dy] w fun e w' => e = .returned (.tuple #[.agg #[.int .i64 t0, .int .i64 t1, .int .i64 t2, .int .i64 t3], .bool a]) ∧ Below w.heap.size w w')) (HPM : Hd (∀ w : World, Calls Tryz.prog 26 #[.agg P, .int .i64 dx, .int .i64 dy] w fun e w' => e = .returned (.tuple #[.agg #[.bool (ng (N1)), .int .u64 (dg (ab (N1)) 0), .int .u64 (dg (ab (N1)) 1), .int .u64 (dg (ab (N1)) 2), .int .u64 (dg (ab (N1)) 3), .bool false, .int .u64 (dg (K1) 0), .int .u64 (dg (K1) 1), .int .u64 (dg (K1) 2), .int .u64 (dg (K1) 3), .bool (ng (N2)), .int .u64 (dg (ab (N2)) 0), .int .u64 (dg (ab (N2)) 1), .int .u64 (dg (ab (N2)) 2), .int .u64 (dg (ab (N2)) 3), .bool false, .int .u64 (dg (K2) 0), .int .u64 (dg (K2) 1), .int .u64 (dg (K2) 2), .int .u64 (dg (K2) 3)], .bool b]) ∧ Below w.heap.size w w'))
    (HA : a = true → b = true → Hd (∀ w : World, Vars w → Calls Tryz.prog 27 #[.agg #[.int .i64 ax, .int .i64 ay, .int .i64 bx, .int .i64 by_], .agg P] w fun e w' => e = .returned (.tuple #[.int .i64 m, .bool o, .bool true]) ∧ Below w.heap.size w w')) (HA2 : a = true → b = true → Hd (∀ w : World, Vars w → Calls Tryz.prog 27 #[.agg #[.int .i64 t0, .int .i64 t1, .int .i64 t2, .int .i64 t3], .agg #[.bool (ng (N1)), .int .u64 (dg (ab (N1)) 0), .int .u64 (dg (ab (N1)) 1), .int .u64 (dg (ab (N1)) 2), .int .u64 (dg (ab (N1)) 3), .bool false, .int .u64 (dg (K1) 0), .int .u64 (dg (K1) 1), .int .u64 (dg (K1) 2), .int .u64 (dg (K1) 3), .bool (ng (N2)), .int .u64 (dg (ab (N2)) 0), .int .u64 (dg (ab (N2)) 1), .int .u64 (dg (ab (N2)) 2), .int .u64 (dg (ab (N2)) 3), .bool false, .int .u64 (dg (K2) 0), .int .u64 (dg (K2) 1), .int .u64 (dg (K2) 2), .int .u64 (dg (K2) 3)]] w fun e w' => e = .returned (.tuple #[.int .i64 m, .bool o, .bool true]) ∧ Below w.heap.size w w')) (w : World) (hV : Vars w) :
    Calls Tryz.prog 5 #[.agg #[.int .i64 ax, .int .i64 ay, .int .i64 bx, .int .i64 by_], .agg P, .int .i64 dx, .int .i64 dy] w fun e w' => e = .returned (.bool true) ∧ Below w.heap.size w w' := by
  have HV := Hd.mk hV
  have HH := Hd.mk (And.intro HA HA2)
  clear hV HA HA2
  go_enter Tryz.func5, Tryz.ntmps5
  go_upto_region 1 with (fail)
  refine abs_wp (fun W => W.heap[w.heap.size]? = some (.cells #[.int .i64 ax, .int .i64 ay, .int .i64 bx, .int .i64 by_] 25 (0, 0)) ∧ W.heap[w.heap.size + 1]? = some (.cells P 46 (0, 0)) ∧ Below w.heap.size w W) ⟨heap_old (heap_new _ _) _, heap_at (by simp) _, by focus (repeat (first | (with_reducible exact Below.refl _ _) | (with_reducible assumption) | ((with_reducible refine Below.setCell ?_ ?_ _); rotate_left; (focus (first | omega | (simp; done) | (simp; omega)))) | ((with_reducible refine Below.alloc ?_ ?_ _); rotate_left; (focus (first | omega | (simp; done) | (simp; omega)))) | (with_reducible refine Below.drew ?_) | (refine below_on ?_ (by assumption))))⟩ fun W ⟨z0_0, z1_0, hB_0⟩ => ?_
  have c0 := cell_at z0_0
  go_wp2_with fail
  refine (HSM.out _).mono ?_
  rintro r w1 ⟨rfl, hb⟩
  have z0_1 := heap_below hb z0_0
  have z1_1 := heap_below hb z1_0
  have hB_1 := below_on hB_0 hb
  clear hb hB_0 z0_0 z1_0 c0
  go_upto_region 2 with (fail)
  have hsz := hB_1.size
  obtain ⟨b9, hb9⟩ : ∃ b, b = w1.heap.size := ⟨_, rfl⟩
  refine abs_wp (fun W => W.heap[w.heap.size]? = some (.cells #[.int .i64 ax, .int .i64 ay, .int .i64 bx, .int .i64 by_] 25 (0, 0)) ∧ W.heap[w.heap.size + 1]? = some (.cells P 46 (0, 0)) ∧ W.heap[w1.heap.size]? = some (.cells #[.int .i64 t0, .int .i64 t1, .int .i64 t2, .int .i64 t3] 25 (0, 0)) ∧ Below w.heap.size w W) ⟨heap_old z0_1 _, heap_old z1_1 _, heap_new _ _, by focus (repeat (first | (with_reducible exact Below.refl _ _) | (with_reducible assumption) | ((with_reducible refine Below.setCell ?_ ?_ _); rotate_left; (focus (first | omega | (simp; done) | (simp; omega)))) | ((with_reducible refine Below.alloc ?_ ?_ _); rotate_left; (focus (first | omega | (simp; done) | (simp; omega)))) | (with_reducible refine Below.drew ?_) | (refine below_on ?_ (by assumption))))⟩ fun W2 ⟨z0_2, z1_2, z9_2, hB_2⟩ => ?_
  rw [← hb9] at z9_2 ⊢
  clear z0_1 z1_1 hB_1 hsz hb9
  go_wp2_with (refine wpList_load_point (.tmp 5) rfl rfl _ rfl z1_2 hP ?_)
  refine (HPM.out _).mono ?_
  rintro r w3 ⟨rfl, hb⟩
  have z0_3 := heap_below hb z0_2
  have z1_3 := heap_below hb z1_2
  have z9_3 := heap_below hb z9_2
  have hB_3 := below_on hB_2 hb
  clear hb hB_2 z0_2 z1_2 z9_2
  have hsz := hB_3.size
  have l0 := lt_of_block z0_3
  have l1 := lt_of_block z1_3
  have l9 := lt_of_block z9_3
  go_upto_region 3 with (refine wpList_store_block rfl 46 (.tmp 11) (.tmp 31) rfl w3.heap.size #[.bool (ng (N1)), .int .u64 (dg (ab (N1)) 0), .int .u64 (dg (ab (N1)) 1), .int .u64 (dg (ab (N1)) 2), .int .u64 (dg (ab (N1)) 3), .bool false, .int .u64 (dg (K1) 0), .int .u64 (dg (K1) 1), .int .u64 (dg (K1) 2), .int .u64 (dg (K1) 3), .bool (ng (N2)), .int .u64 (dg (ab (N2)) 0), .int .u64 (dg (ab (N2)) 1), .int .u64 (dg (ab (N2)) 2), .int .u64 (dg (ab (N2)) 3), .bool false, .int .u64 (dg (K2) 0), .int .u64 (dg (K2) 1), .int .u64 (dg (K2) 2), .int .u64 (dg (K2) 3)] rfl rfl (heap_new _ _) rfl (by kernel_rfl) rfl ?_; rintro W3 ⟨q1, q2, q3⟩)
  obtain ⟨b11, hb11⟩ : ∃ b, b = w3.heap.size := ⟨_, rfl⟩
  refine abs_wp (fun W => W.heap[w.heap.size]? = some (.cells #[.int .i64 ax, .int .i64 ay, .int .i64 bx, .int .i64 by_] 25 (0, 0)) ∧ W.heap[w.heap.size + 1]? = some (.cells P 46 (0, 0)) ∧ W.heap[b9]? = some (.cells #[.int .i64 t0, .int .i64 t1, .int .i64 t2, .int .i64 t3] 25 (0, 0)) ∧ W.heap[w3.heap.size]? = some (.cells #[.bool (ng (N1)), .int .u64 (dg (ab (N1)) 0), .int .u64 (dg (ab (N1)) 1), .int .u64 (dg (ab (N1)) 2), .int .u64 (dg (ab (N1)) 3), .bool false, .int .u64 (dg (K1) 0), .int .u64 (dg (K1) 1), .int .u64 (dg (K1) 2), .int .u64 (dg (K1) 3), .bool (ng (N2)), .int .u64 (dg (ab (N2)) 0), .int .u64 (dg (ab (N2)) 1), .int .u64 (dg (ab (N2)) 2), .int .u64 (dg (ab (N2)) 3), .bool false, .int .u64 (dg (K2) 0), .int .u64 (dg (K2) 1), .int .u64 (dg (K2) 2), .int .u64 (dg (K2) 3)] 46 (0, 0)) ∧ Below w.heap.size w W) ⟨q2 _ _ (by omega) (heap_old z0_3 _), q2 _ _ (by omega) (heap_old z1_3 _), q2 _ _ (by omega) (heap_old z9_3 _), q1, (Below.alloc hB_3 hsz _).trans (q3 _ hsz)⟩ fun W4 ⟨z0_4, z1_4, z9_4, z11_4, hB_4⟩ => ?_
  rw [← hb11] at z11_4 ⊢
  clear z0_3 z1_3 z9_3 hB_3 hsz hb11 q1 q2 q3 l0 l1 l9
  cases a with
  | false =>
    go_wp2_with fail
    refine (law_works _ (HV.out.below hB_4)).mono ?_
    rintro r wz ⟨rfl, hb⟩
    have hF := below_on hB_4 hb
    go_wp2
    go_ret
    exact ⟨rfl, hF⟩
  | true =>
    cases b with
    | false =>
      go_wp2_with fail
      refine (law_works _ (HV.out.below hB_4)).mono ?_
      rintro r wz ⟨rfl, hb⟩
      have hF := below_on hB_4 hb
      go_wp2
      go_ret
      exact ⟨rfl, hF⟩
    | true =>
      have hA := HH.out.1 rfl rfl
      have hA2 := HH.out.2 rfl rfl
      clear HH
      have c0 := cell_at z0_4
      go_wp2_with (refine wpList_load_point (.tmp 5) rfl rfl _ rfl z1_4 hP ?_)
      refine (hA.out _ (HV.out.below hB_4)).mono ?_
      rintro r w5 ⟨rfl, hb⟩
      have z9_5 := heap_below hb z9_4
      have z11_5 := heap_below hb z11_4
      have hB_5 := below_on hB_4 hb
      clear hb hB_4 z0_4 z1_4 z9_4 z11_4 c0 hA
      have c9 := cell_at z9_5
      go_wp2_with (refine wpList_load_point (.tmp 11) rfl rfl _ rfl z11_5 rfl ?_)
      refine (hA2.out _ (HV.out.below hB_5)).mono ?_
      rintro r w6 ⟨rfl, hb⟩
      have hB_6 := below_on hB_5 hb
      clear hb hB_5 z9_5 z11_5 c9 hA2
      go_wp2_with fail
      refine (law_works _ (HV.out.below hB_6)).mono ?_
      rintro r wz ⟨rfl, hb⟩
      have hF := below_on hB_6 hb
      go_wp2
      go_ret
      exact ⟨rfl, hF⟩
/-- A point moved. -/
theorem rpmoved_any (p q r s : Bool × Nat) (hp : p.2 < 2 ^ 256) (hq : q.2 < 2 ^ 256) (hr : r.2 < 2 ^ 256) (hs : s.2 < 2 ^ 256) (dx dy : Int) :
    ∃ (N1 : Int) (K1 : Nat) (N2 : Int) (K2 : Nat) (b : Bool), (b = true → okPt p q r s ∧ Pt N1 K1 N2 K2 ∧ N1 = zof p.1 p.2 + dx * q.2 ∧ K1 = q.2 ∧ N2 = zof r.1 r.2 + dy * s.2 ∧ K2 = s.2) ∧
    Hd (∀ w : World, Calls Tryz.prog 26 #[.agg #[.bool p.1, .int .u64 (dg (p.2) 0), .int .u64 (dg (p.2) 1), .int .u64 (dg (p.2) 2), .int .u64 (dg (p.2) 3), .bool q.1, .int .u64 (dg (q.2) 0), .int .u64 (dg (q.2) 1), .int .u64 (dg (q.2) 2), .int .u64 (dg (q.2) 3), .bool r.1, .int .u64 (dg (r.2) 0), .int .u64 (dg (r.2) 1), .int .u64 (dg (r.2) 2), .int .u64 (dg (r.2) 3), .bool s.1, .int .u64 (dg (s.2) 0), .int .u64 (dg (s.2) 1), .int .u64 (dg (s.2) 2), .int .u64 (dg (s.2) 3)], .int .i64 dx, .int .i64 dy] w fun e w' => e = .returned (.tuple #[.agg #[.bool (ng (N1)), .int .u64 (dg (ab (N1)) 0), .int .u64 (dg (ab (N1)) 1), .int .u64 (dg (ab (N1)) 2), .int .u64 (dg (ab (N1)) 3), .bool false, .int .u64 (dg (K1) 0), .int .u64 (dg (K1) 1), .int .u64 (dg (K1) 2), .int .u64 (dg (K1) 3), .bool (ng (N2)), .int .u64 (dg (ab (N2)) 0), .int .u64 (dg (ab (N2)) 1), .int .u64 (dg (ab (N2)) 2), .int .u64 (dg (ab (N2)) 3), .bool false, .int .u64 (dg (K2) 0), .int .u64 (dg (K2) 1), .int .u64 (dg (K2) 2), .int .u64 (dg (K2) 3)], .bool b]) ∧ Below w.heap.size w w') := by
  by_cases d0 : dx < -67108864
  · exact ⟨0, 0, 0, 0, false, fun h => (by cases h), ⟨fun w => by have h := rpmoved_n0 #[.bool p.1, .int .u64 (dg (p.2) 0), .int .u64 (dg (p.2) 1), .int .u64 (dg (p.2) 2), .int .u64 (dg (p.2) 3), .bool q.1, .int .u64 (dg (q.2) 0), .int .u64 (dg (q.2) 1), .int .u64 (dg (q.2) 2), .int .u64 (dg (q.2) 3), .bool r.1, .int .u64 (dg (r.2) 0), .int .u64 (dg (r.2) 1), .int .u64 (dg (r.2) 2), .int .u64 (dg (r.2) 3), .bool s.1, .int .u64 (dg (s.2) 0), .int .u64 (dg (s.2) 1), .int .u64 (dg (s.2) 2), .int .u64 (dg (s.2) 3)] dx dy (decide_eq_true d0) w; rw [zero20] at h; exact h⟩⟩
  by_cases d1 : dx > 67108864
  · exact ⟨0, 0, 0, 0, false, fun h => (by cases h), ⟨fun w => by have h := rpmoved_n1 #[.bool p.1, .int .u64 (dg (p.2) 0), .int .u64 (dg (p.2) 1), .int .u64 (dg (p.2) 2), .int .u64 (dg (p.2) 3), .bool q.1, .int .u64 (dg (q.2) 0), .int .u64 (dg (q.2) 1), .int .u64 (dg (q.2) 2), .int .u64 (dg (q.2) 3), .bool r.1, .int .u64 (dg (r.2) 0), .int .u64 (dg (r.2) 1), .int .u64 (dg (r.2) 2), .int .u64 (dg (r.2) 3), .bool s.1, .int .u64 (dg (s.2) 0), .int .u64 (dg (s.2) 1), .int .u64 (dg (s.2) 2), .int .u64 (dg (s.2) 3)] dx dy (decide_eq_false d0) (decide_eq_true d1) w; rw [zero20] at h; exact h⟩⟩
  by_cases d2 : dy < -67108864
  · exact ⟨0, 0, 0, 0, false, fun h => (by cases h), ⟨fun w => by have h := rpmoved_n2 #[.bool p.1, .int .u64 (dg (p.2) 0), .int .u64 (dg (p.2) 1), .int .u64 (dg (p.2) 2), .int .u64 (dg (p.2) 3), .bool q.1, .int .u64 (dg (q.2) 0), .int .u64 (dg (q.2) 1), .int .u64 (dg (q.2) 2), .int .u64 (dg (q.2) 3), .bool r.1, .int .u64 (dg (r.2) 0), .int .u64 (dg (r.2) 1), .int .u64 (dg (r.2) 2), .int .u64 (dg (r.2) 3), .bool s.1, .int .u64 (dg (s.2) 0), .int .u64 (dg (s.2) 1), .int .u64 (dg (s.2) 2), .int .u64 (dg (s.2) 3)] dx dy (decide_eq_false d0) (decide_eq_false d1) (decide_eq_true d2) w; rw [zero20] at h; exact h⟩⟩
  by_cases d3 : dy > 67108864
  · exact ⟨0, 0, 0, 0, false, fun h => (by cases h), ⟨fun w => by have h := rpmoved_n3 #[.bool p.1, .int .u64 (dg (p.2) 0), .int .u64 (dg (p.2) 1), .int .u64 (dg (p.2) 2), .int .u64 (dg (p.2) 3), .bool q.1, .int .u64 (dg (q.2) 0), .int .u64 (dg (q.2) 1), .int .u64 (dg (q.2) 2), .int .u64 (dg (q.2) 3), .bool r.1, .int .u64 (dg (r.2) 0), .int .u64 (dg (r.2) 1), .int .u64 (dg (r.2) 2), .int .u64 (dg (r.2) 3), .bool s.1, .int .u64 (dg (s.2) 0), .int .u64 (dg (s.2) 1), .int .u64 (dg (s.2) 2), .int .u64 (dg (s.2) 3)] dx dy (decide_eq_false d0) (decide_eq_false d1) (decide_eq_false d2) (decide_eq_true d3) w; rw [zero20] at h; exact h⟩⟩
  have e0 := decide_eq_false d0
  have e1 := decide_eq_false d1
  have e2 := decide_eq_false d2
  have e3 := decide_eq_false d3
  by_cases ho : okPt p q r s
  · have hpr := rpright_p p q r s hp hq hr hs true ⟨fun _ => ho, fun _ => rfl⟩
    have hpt := pt_of hp hq hr hs ho.1 ho.2.1 ho.2.2.1 ho.2.2.2
    rw [pnt_value ho.1 ho.2.1] at hpr ⊢
    generalize zof p.1 p.2 = X at *
    generalize q.2 = D at *
    generalize zof r.1 r.2 = Y at *
    generalize s.2 = E at *
    have addp : ∀ (Z : Int) (G : Nat) (d : Int), Rt 96 Z G → G < 2 ^ 64 → (-67108864 ≤ d ∧ d ≤ 67108864) → Nat.gcd (ab (Z + d * G)) G = 1 ∧ ab (Z + d * G) < 2 ^ 97 ∧ Hd (∀ (u v : Value) (w : World), RatAt w u Z (G : Int) → RatAt w v d 1 → Calls Tryz.prog 62 #[u, v] w fun e w' => ∃ r, e = .returned r ∧ RatAt w' r (Z + d * G) (G : Int) ∧ Below w.heap.size w w') := by
      intro Z G d hZ hG hd
      have a1 : ab (Z * ((1 : Nat) : Int)) < 2 ^ 96 := by rw [show Z * ((1 : Nat) : Int) = Z by simp]; exact hZ.nb
      have a2 : ab (d * (G : Int)) < 2 ^ 96 := ab_mul_lt (ab_small (z := d) (by omega)) (ab_cast_lt hG) (by decide)
      have a3 := ab_sum_lt a1 a2 (Nat.le_refl (96 + 1))
      have h1 : 0 < G * 1 := by have := hZ.pos; omega
      have h2 : G * 1 < 2 ^ 64 := by rw [Nat.mul_one]; exact hG
      have hl := low_moved Z d G hZ.low
      have e4 : Z * ((1 : Nat) : Int) + d * G = Z + d * G := by simp
      have a4 := a3
      rw [e4] at a4
      refine ⟨hl, a4, ⟨fun u v w hu hv => ?_⟩⟩
      have h := rradd_any Z G d 1 (lt_pow_of hZ.nb (by decide)) (lt_pow_of hG (by decide)) (ab_less (Nat.le_refl _) (ab_small (by omega)) (by decide)) (by decide) (lt_pow_of a1 (by decide)) (lt_pow_of a2 (by decide)) h1 (lt_pow_of a3 (by decide)) (lt_pow_of h2 (by decide)) u v w hu hv
      rw [e4, Nat.mul_one, (rz_low hl).1, (rz_low hl).2] at h
      exact h
    obtain ⟨lx, bx, HAX⟩ := addp X D dx hpt.x hpt.dx (by omega)
    obtain ⟨ly, by_, HAY⟩ := addp Y E dy hpt.y hpt.dy (by omega)
    obtain ⟨N1, K1, N2, K2, ep, hor, HOU⟩ := rpout_any (X + dx * D) D (Y + dy * E) E (lt_pow_of bx (by decide)) (lt_pow_of hpt.dx (by decide)) (lt_pow_of by_ (by decide)) (lt_pow_of hpt.dy (by decide))
    refine ⟨N1, K1, N2, K2, ep == 0, fun he => ?_, ⟨fun w => rpmoved_ok _ rfl X D Y E (X + dx * D) (Y + dy * E) #[.bool (ng (N1)), .int .u64 (dg (ab (N1)) 0), .int .u64 (dg (ab (N1)) 1), .int .u64 (dg (ab (N1)) 2), .int .u64 (dg (ab (N1)) 3), .bool false, .int .u64 (dg (K1) 0), .int .u64 (dg (K1) 1), .int .u64 (dg (K1) 2), .int .u64 (dg (K1) 3), .bool (ng (N2)), .int .u64 (dg (ab (N2)) 0), .int .u64 (dg (ab (N2)) 1), .int .u64 (dg (ab (N2)) 2), .int .u64 (dg (ab (N2)) 3), .bool false, .int .u64 (dg (K2) 0), .int .u64 (dg (K2) 1), .int .u64 (dg (K2) 2), .int .u64 (dg (K2) 3)] rfl rfl ep dx dy e0 e1 e2 e3 ⟨hpr⟩ ⟨rpfrom_pt X D Y E hpt⟩ (num_z dx (by omega)) (num_z dy (by omega)) HAX HAY HOU w⟩⟩
    rcases hor with ⟨f1, f2, rfl, rfl, rfl, rfl, rfl⟩ | rfl
    · obtain ⟨g1, g2⟩ := (rfits_iff _ _).1 f1
      obtain ⟨g3, g4⟩ := (rfits_iff _ _).1 f2
      exact ⟨ho, ⟨⟨hpt.x.pos, lx, g1, lt_pow_of g2 (by decide)⟩, ⟨hpt.y.pos, ly, g3, lt_pow_of g4 (by decide)⟩, g2, g4⟩, rfl, rfl, rfl, rfl⟩
    · simp at he
  · have hpr := rpright_p p q r s hp hq hr hs false ⟨fun h => (by cases h), fun h => absurd h ho⟩
    exact ⟨0, 0, 0, 0, false, fun h => (by cases h), ⟨fun w => by have h := rpmoved_n4 _ rfl dx dy e0 e1 e2 e3 ⟨hpr⟩ w; rw [zero20] at h; exact h⟩⟩
theorem moves_any (ax ay bx by_ : Int) (p q r s : Bool × Nat) (hp : p.2 < 2 ^ 256) (hq : q.2 < 2 ^ 256) (hr : r.2 < 2 ^ 256) (hs : s.2 < 2 ^ 256) (dx dy : Int) (w : World) (hV : Vars w) :
    Calls Tryz.prog 5 #[.agg #[.int .i64 ax, .int .i64 ay, .int .i64 bx, .int .i64 by_], .agg #[.bool p.1, .int .u64 (dg (p.2) 0), .int .u64 (dg (p.2) 1), .int .u64 (dg (p.2) 2), .int .u64 (dg (p.2) 3), .bool q.1, .int .u64 (dg (q.2) 0), .int .u64 (dg (q.2) 1), .int .u64 (dg (q.2) 2), .int .u64 (dg (q.2) 3), .bool r.1, .int .u64 (dg (r.2) 0), .int .u64 (dg (r.2) 1), .int .u64 (dg (r.2) 2), .int .u64 (dg (r.2) 3), .bool s.1, .int .u64 (dg (s.2) 0), .int .u64 (dg (s.2) 1), .int .u64 (dg (s.2) 2), .int .u64 (dg (s.2) 3)], .int .i64 dx, .int .i64 dy] w fun e w' => e = .returned (.bool true) ∧ Below w.heap.size w w' := by
  obtain ⟨t0, t1, t2, t3, a, ha, HSM⟩ := rsmoved_any ax ay bx by_ dx dy
  obtain ⟨N1, K1, N2, K2, b, hb, HPM⟩ := rpmoved_any p q r s hp hq hr hs dx dy
  refine moves_walk ax ay bx by_ t0 t1 t2 t3 dx dy _ rfl N1 K1 N2 K2 a b (onB ax ay bx by_ (zof p.1 p.2) q.2 (zof r.1 r.2) s.2) (sideV ax ay (bx - ax) (by_ - ay) (zof p.1 p.2) q.2 (zof r.1 r.2) s.2) HSM HPM (fun h1 h2 => ⟨fun w hw => ?_⟩) (fun h1 h2 => ⟨fun w hw => ?_⟩) w hV
  · obtain ⟨hg, _, _, _, _, _⟩ := ha h1
    obtain ⟨ho, _, _, _, _, _⟩ := hb h2
    have hpt := pt_of hp hq hr hs ho.1 ho.2.1 ho.2.2.1 ho.2.2.2
    rw [pnt_value ho.1 ho.2.1]
    exact asked_any ax ay bx by_ _ rfl _ 0 0 _ (by unfold wrap64; omega) (fun w hw => seg_side_ok ax ay bx by_ _ _ _ _ hg hpt w hw) (fun w hw => seg_on_ok ax ay bx by_ _ _ _ _ hg hpt w hw) w hw
  · obtain ⟨hg, hg2, rfl, rfl, rfl, rfl⟩ := ha h1
    obtain ⟨ho, hpt2, rfl, rfl, rfl, rfl⟩ := hb h2
    have h := asked_any (ax + dx) (ay + dy) (bx + dx) (by_ + dy) _ rfl _ 0 0 _ (by unfold wrap64; omega) (fun w hw => seg_side_ok _ _ _ _ _ _ _ _ hg2 hpt2 w hw) (fun w hw => seg_on_ok _ _ _ _ _ _ _ _ hg2 hpt2 w hw) w hw
    rw [dif_moved, dif_moved, side_moved, on_moved] at h
    exact h
end Go.Proofs.YtbhfnfokihdjjaaGreatDoor
