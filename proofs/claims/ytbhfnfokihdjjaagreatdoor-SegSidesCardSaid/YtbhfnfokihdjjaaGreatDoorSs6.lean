/-
  The references' segments by value: the side of a point that may be, whether it is on it. Conditions stand in each theorem.
-/
import Derived.Test.YtbhfnfokihdjjaaGreatDoorMr8
import Derived.Test.YtbhfnfokihdjjaaGreatDoorSs1
import Derived.Test.YtbhfnfokihdjjaaGreatDoorSs2
namespace Go.Proofs.YtbhfnfokihdjjaaGreatDoor
open Go.RowKit Go.BigFrame
theorem rrfrom_z (X : Int) (D : Nat) (hx : ab X < 2 ^ 256) (hd : D < 2 ^ 256) : Hd (∀ w, Calls Tryz.prog 55 #[.agg #[.bool (ng (X)), .int .u64 (dg (ab (X)) 0), .int .u64 (dg (ab (X)) 1), .int .u64 (dg (ab (X)) 2), .int .u64 (dg (ab (X)) 3), .bool false, .int .u64 (dg (D) 0), .int .u64 (dg (D) 1), .int .u64 (dg (D) 2), .int .u64 (dg (D) 3)]] w fun e w' => ∃ v, e = .returned v ∧ RatAt w' v X ((D : Nat) : Int) ∧ Below w.heap.size w w') := ⟨fun w => by
  have h := rrfrom_any (ng X, ab X) (false, D) hx hd w
  rw [zof_ng_ab] at h
  exact h⟩
set_option maxRecDepth 20000 in
set_option maxHeartbeats 8000000 in
theorem rpfrom_any (X : Int) (D : Nat) (Y : Int) (E : Nat) (HX : Hd (∀ w, Calls Tryz.prog 55 #[.agg #[.bool (ng (X)), .int .u64 (dg (ab (X)) 0), .int .u64 (dg (ab (X)) 1), .int .u64 (dg (ab (X)) 2), .int .u64 (dg (ab (X)) 3), .bool false, .int .u64 (dg (D) 0), .int .u64 (dg (D) 1), .int .u64 (dg (D) 2), .int .u64 (dg (D) 3)]] w fun e w' => ∃ v, e = .returned v ∧ RatAt w' v X ((D : Nat) : Int) ∧ Below w.heap.size w w')) (HY : Hd (∀ w, Calls Tryz.prog 55 #[.agg #[.bool (ng (Y)), .int .u64 (dg (ab (Y)) 0), .int .u64 (dg (ab (Y)) 1), .int .u64 (dg (ab (Y)) 2), .int .u64 (dg (ab (Y)) 3), .bool false, .int .u64 (dg (E) 0), .int .u64 (dg (E) 1), .int .u64 (dg (E) 2), .int .u64 (dg (E) 3)]] w fun e w' => ∃ v, e = .returned v ∧ RatAt w' v Y ((E : Nat) : Int) ∧ Below w.heap.size w w')) (w : World) :
    Calls Tryz.prog 22 #[.agg #[.bool (ng (X)), .int .u64 (dg (ab (X)) 0), .int .u64 (dg (ab (X)) 1), .int .u64 (dg (ab (X)) 2), .int .u64 (dg (ab (X)) 3), .bool false, .int .u64 (dg (D) 0), .int .u64 (dg (D) 1), .int .u64 (dg (D) 2), .int .u64 (dg (D) 3), .bool (ng (Y)), .int .u64 (dg (ab (Y)) 0), .int .u64 (dg (ab (Y)) 1), .int .u64 (dg (ab (Y)) 2), .int .u64 (dg (ab (Y)) 3), .bool false, .int .u64 (dg (E) 0), .int .u64 (dg (E) 1), .int .u64 (dg (E) 2), .int .u64 (dg (E) 3)]] w fun e w' => ∃ v, e = .returned v ∧ PntAt w' v X D Y E ∧ Below w.heap.size w w' := by
  go_enter Tryz.func22, Tryz.ntmps22
  go_upto_region 1 with (fail)
  refine abs_wp (fun W => W.heap[w.heap.size]? = some (.cells #[.bool (ng (X)), .int .u64 (dg (ab (X)) 0), .int .u64 (dg (ab (X)) 1), .int .u64 (dg (ab (X)) 2), .int .u64 (dg (ab (X)) 3), .bool false, .int .u64 (dg (D) 0), .int .u64 (dg (D) 1), .int .u64 (dg (D) 2), .int .u64 (dg (D) 3), .bool (ng (Y)), .int .u64 (dg (ab (Y)) 0), .int .u64 (dg (ab (Y)) 1), .int .u64 (dg (ab (Y)) 2), .int .u64 (dg (ab (Y)) 3), .bool false, .int .u64 (dg (E) 0), .int .u64 (dg (E) 1), .int .u64 (dg (E) 2), .int .u64 (dg (E) 3)] 46 (0, 0)) ∧ W.heap[w.heap.size + 1]? = some (.cells #[.bool false, .slice none 0 0, .bool false, .slice none 0 0, .bool false, .slice none 0 0, .bool false, .slice none 0 0] 57 (0, 0)) ∧ Below w.heap.size w W) ⟨heap_old (heap_new _ _) _, heap_at (by simp) _, by focus (repeat (first | (with_reducible exact Below.refl _ _) | (with_reducible assumption) | ((with_reducible refine Below.setCell ?_ ?_ _); rotate_left; (focus (first | omega | (simp; done) | (simp; omega)))) | ((with_reducible refine Below.alloc ?_ ?_ _); rotate_left; (focus (first | omega | (simp; done) | (simp; omega)))) | (with_reducible refine Below.drew ?_) | (refine below_on ?_ (by assumption))))⟩ fun W ⟨z0, z1, hB⟩ => ?_
  have HS : Hd (∀ W', Below (w.heap.size + 1) W W' → W'.cell? ⟨w.heap.size, 0, none⟩ = some (.bool (ng X)) ∧ W'.cell? ⟨w.heap.size, 1, none⟩ = some (.int .u64 (dg (ab X) 0)) ∧ W'.cell? ⟨w.heap.size, 2, none⟩ = some (.int .u64 (dg (ab X) 1)) ∧ W'.cell? ⟨w.heap.size, 3, none⟩ = some (.int .u64 (dg (ab X) 2)) ∧ W'.cell? ⟨w.heap.size, 4, none⟩ = some (.int .u64 (dg (ab X) 3)) ∧ W'.cell? ⟨w.heap.size, 5, none⟩ = some (.bool false) ∧ W'.cell? ⟨w.heap.size, 6, none⟩ = some (.int .u64 (dg D 0)) ∧ W'.cell? ⟨w.heap.size, 7, none⟩ = some (.int .u64 (dg D 1)) ∧ W'.cell? ⟨w.heap.size, 8, none⟩ = some (.int .u64 (dg D 2)) ∧ W'.cell? ⟨w.heap.size, 9, none⟩ = some (.int .u64 (dg D 3)) ∧ W'.cell? ⟨w.heap.size, 10, none⟩ = some (.bool (ng Y)) ∧ W'.cell? ⟨w.heap.size, 11, none⟩ = some (.int .u64 (dg (ab Y) 0)) ∧ W'.cell? ⟨w.heap.size, 12, none⟩ = some (.int .u64 (dg (ab Y) 1)) ∧ W'.cell? ⟨w.heap.size, 13, none⟩ = some (.int .u64 (dg (ab Y) 2)) ∧ W'.cell? ⟨w.heap.size, 14, none⟩ = some (.int .u64 (dg (ab Y) 3)) ∧ W'.cell? ⟨w.heap.size, 15, none⟩ = some (.bool false) ∧ W'.cell? ⟨w.heap.size, 16, none⟩ = some (.int .u64 (dg E 0)) ∧ W'.cell? ⟨w.heap.size, 17, none⟩ = some (.int .u64 (dg E 1)) ∧ W'.cell? ⟨w.heap.size, 18, none⟩ = some (.int .u64 (dg E 2)) ∧ W'.cell? ⟨w.heap.size, 19, none⟩ = some (.int .u64 (dg E 3))) := ⟨fun W' h => ⟨(h.cell (Nat.lt_succ_self _)).trans (cell_at z0 0), (h.cell (Nat.lt_succ_self _)).trans (cell_at z0 1), (h.cell (Nat.lt_succ_self _)).trans (cell_at z0 2), (h.cell (Nat.lt_succ_self _)).trans (cell_at z0 3), (h.cell (Nat.lt_succ_self _)).trans (cell_at z0 4), (h.cell (Nat.lt_succ_self _)).trans (cell_at z0 5), (h.cell (Nat.lt_succ_self _)).trans (cell_at z0 6), (h.cell (Nat.lt_succ_self _)).trans (cell_at z0 7), (h.cell (Nat.lt_succ_self _)).trans (cell_at z0 8), (h.cell (Nat.lt_succ_self _)).trans (cell_at z0 9), (h.cell (Nat.lt_succ_self _)).trans (cell_at z0 10), (h.cell (Nat.lt_succ_self _)).trans (cell_at z0 11), (h.cell (Nat.lt_succ_self _)).trans (cell_at z0 12), (h.cell (Nat.lt_succ_self _)).trans (cell_at z0 13), (h.cell (Nat.lt_succ_self _)).trans (cell_at z0 14), (h.cell (Nat.lt_succ_self _)).trans (cell_at z0 15), (h.cell (Nat.lt_succ_self _)).trans (cell_at z0 16), (h.cell (Nat.lt_succ_self _)).trans (cell_at z0 17), (h.cell (Nat.lt_succ_self _)).trans (cell_at z0 18), (h.cell (Nat.lt_succ_self _)).trans (cell_at z0 19)⟩⟩
  have hD0 : Below (w.heap.size + 1) W W.drew := Below.drew (Below.refl _ _)
  have hB0 : Below w.heap.size w W.drew := Below.drew hB
  have y1 : W.drew.heap[w.heap.size + 1]? = some (.cells #[.bool false, .slice none 0 0, .bool false, .slice none 0 0, .bool false, .slice none 0 0, .bool false, .slice none 0 0] 57 (0, 0)) := z1
  have hsz : w.heap.size + 1 ≤ W.heap.size := Nat.le_of_lt (lt_of_block z1)
  clear z0 z1 hB
  go_region_held3 (fun W' => W'.cell? ⟨w.heap.size, 0, none⟩ = some (.bool (ng X)) ∧ W'.cell? ⟨w.heap.size, 1, none⟩ = some (.int .u64 (dg (ab X) 0)) ∧ W'.cell? ⟨w.heap.size, 2, none⟩ = some (.int .u64 (dg (ab X) 1)) ∧ W'.cell? ⟨w.heap.size, 3, none⟩ = some (.int .u64 (dg (ab X) 2)) ∧ W'.cell? ⟨w.heap.size, 4, none⟩ = some (.int .u64 (dg (ab X) 3)) ∧ W'.cell? ⟨w.heap.size, 5, none⟩ = some (.bool false) ∧ W'.cell? ⟨w.heap.size, 6, none⟩ = some (.int .u64 (dg D 0)) ∧ W'.cell? ⟨w.heap.size, 7, none⟩ = some (.int .u64 (dg D 1)) ∧ W'.cell? ⟨w.heap.size, 8, none⟩ = some (.int .u64 (dg D 2)) ∧ W'.cell? ⟨w.heap.size, 9, none⟩ = some (.int .u64 (dg D 3)) ∧ W'.cell? ⟨w.heap.size, 10, none⟩ = some (.bool (ng Y)) ∧ W'.cell? ⟨w.heap.size, 11, none⟩ = some (.int .u64 (dg (ab Y) 0)) ∧ W'.cell? ⟨w.heap.size, 12, none⟩ = some (.int .u64 (dg (ab Y) 1)) ∧ W'.cell? ⟨w.heap.size, 13, none⟩ = some (.int .u64 (dg (ab Y) 2)) ∧ W'.cell? ⟨w.heap.size, 14, none⟩ = some (.int .u64 (dg (ab Y) 3)) ∧ W'.cell? ⟨w.heap.size, 15, none⟩ = some (.bool false) ∧ W'.cell? ⟨w.heap.size, 16, none⟩ = some (.int .u64 (dg E 0)) ∧ W'.cell? ⟨w.heap.size, 17, none⟩ = some (.int .u64 (dg E 1)) ∧ W'.cell? ⟨w.heap.size, 18, none⟩ = some (.int .u64 (dg E 2)) ∧ W'.cell? ⟨w.heap.size, 19, none⟩ = some (.int .u64 (dg E 3))) ((exact HS.out _ (by focus (repeat (first | (with_reducible exact Below.refl _ _) | (with_reducible assumption) | ((with_reducible refine Below.setCell ?_ ?_ _); rotate_left; (focus (first | omega | (simp; done) | (simp; omega)))) | ((with_reducible refine Below.alloc ?_ ?_ _); rotate_left; (focus (first | omega | (simp; done) | (simp; omega)))) | (with_reducible refine Below.drew ?_) | (refine below_on ?_ (by assumption)))))))
    ((first
      | (go_at_call 55; have hq := hV1; clear hq; refine (HY.out _).mono ?_; rintro e1 wb ⟨v2, rfl, ⟨A2, c2, B2, e2, rfl, g2⟩, hb⟩; have hR2 : RatAt wb _ Y (E : Int) := ⟨A2, c2, B2, e2, rfl, g2⟩; have hR1 := hR1.below hb; have hD2 := below_upw hsz hD1 hb; have hB2 := below_on hB1 hb; have y3 := heap_below hb y2; have q1 := cell_at y3; have q2 := frozen_at y3; clear hb)
      | (go_at_call 55; refine (HX.out _).mono ?_; rintro e1 wa ⟨v1, rfl, ⟨A, c, B, e, rfl, g1⟩, hb⟩; have hR1 : RatAt wa _ X (D : Int) := ⟨A, c, B, e, rfl, g1⟩; have hV1 := True.intro; have hD1 := below_upw hsz hD0 hb; have hB1 := below_on hB0 hb; have y2 := heap_below hb y1; clear hb)))
  obtain ⟨l1, l2, l3⟩ := laid_8 (w.heap.size + 1) wb (.bool (ng X)) (.slice A (dd (ab X)).length c) (.bool (ng (D : Int))) (.slice B (dd (ab (D : Int))).length e) (.bool (ng Y)) (.slice A2 (dd (ab Y)).length c2) (.bool (ng (E : Int))) (.slice B2 (dd (ab (E : Int))).length e2)
  have HR := Hd.mk (And.intro (hR1.other y3 no_int8 l2) (hR2.other y3 no_int8 l2))
  have hF := hB2.trans (l3 _ (by omega))
  have k1 := l1 y3 rfl
  clear l1 l2 l3 HS hD0 hB0 y1 hV1 hD1 hB1 y2 g1 g2 hR1 hR2 hD2 hB2 y3 q1 q2
  generalize ((((((((wb.setCell ⟨w.heap.size + 1, 0, none⟩ (.bool (ng X))).setCell ⟨w.heap.size + 1, 1, none⟩ (.slice A (dd (ab X)).length c)).setCell ⟨w.heap.size + 1, 2, none⟩ (.bool (ng (D : Int)))).setCell ⟨w.heap.size + 1, 3, none⟩ (.slice B (dd (ab (D : Int))).length e)).setCell ⟨w.heap.size + 1, 4, none⟩ (.bool (ng Y))).setCell ⟨w.heap.size + 1, 5, none⟩ (.slice A2 (dd (ab Y)).length c2)).setCell ⟨w.heap.size + 1, 6, none⟩ (.bool (ng (E : Int)))).setCell ⟨w.heap.size + 1, 7, none⟩ (.slice B2 (dd (ab (E : Int))).length e2)) = wz at *
  go_wp2
  refine bodyPost_ret (by simp [results, Tryz.results22, asAddr, load_rpnt k1 rfl] <;> rfl) rfl ⟨_, rfl, ⟨A, c, B, e, A2, c2, B2, e2, rfl, HR.out.1, HR.out.2⟩, hF⟩
set_option maxRecDepth 20000 in
set_option maxHeartbeats 4000000 in
theorem rpcmp_walk (n1 : Int) (k1 : Nat) (n2 : Int) (k2 : Nat) (m1 : Int) (j1 : Nat) (m2 : Int) (j2 : Nat) (x y : Int)
    (HC1 : Hd (∀ (u v : Value) (w : World), RatAt w u n1 (k1 : Int) → RatAt w v m1 (j1 : Int) → Calls Tryz.prog 58 #[u, v] w fun e w' => e = .returned (.int .i64 x) ∧ Below w.heap.size w w')) (HC2 : Hd (∀ (u v : Value) (w : World), RatAt w u n2 (k2 : Int) → RatAt w v m2 (j2 : Int) → Calls Tryz.prog 58 #[u, v] w fun e w' => e = .returned (.int .i64 y) ∧ Below w.heap.size w w'))
    (u v : Value) (w : World) (hu : PntAt w u n1 k1 n2 k2) (hv : PntAt w v m1 j1 m2 j2) :
    Calls Tryz.prog 59 #[u, v] w fun e w' => e = .returned (.int .i64 (if x == 0 then y else x)) ∧ Below w.heap.size w w' := by
  obtain ⟨A, c, B, e, A2, c2, B2, e2, rfl, hr1, hr2⟩ := hu
  obtain ⟨C, f, D, g, C2, f2, D2, g2, rfl, hs1, hs2⟩ := hv
  have HR := Hd.mk (And.intro (And.intro hr1 hr2) (And.intro hs1 hs2))
  clear hr1 hr2 hs1 hs2
  go_enter Tryz.func59, Tryz.ntmps59
  go_upto_region 1 with (fail)
  refine abs_wp (fun W => W.heap[w.heap.size]? = some (.cells #[.bool (ng n1), .slice A (dd (ab n1)).length c, .bool (ng (k1 : Int)), .slice B (dd (ab (k1 : Int))).length e, .bool (ng n2), .slice A2 (dd (ab n2)).length c2, .bool (ng (k2 : Int)), .slice B2 (dd (ab (k2 : Int))).length e2] 57 (0, 0)) ∧ W.heap[w.heap.size + 1]? = some (.cells #[.bool (ng m1), .slice C (dd (ab m1)).length f, .bool (ng (j1 : Int)), .slice D (dd (ab (j1 : Int))).length g, .bool (ng m2), .slice C2 (dd (ab m2)).length f2, .bool (ng (j2 : Int)), .slice D2 (dd (ab (j2 : Int))).length g2] 57 (0, 0)) ∧ Below w.heap.size w W) ⟨heap_old (heap_new _ _) _, heap_at (by simp) _, by focus (repeat (first | (with_reducible exact Below.refl _ _) | (with_reducible assumption) | ((with_reducible refine Below.setCell ?_ ?_ _); rotate_left; (focus (first | omega | (simp; done) | (simp; omega)))) | ((with_reducible refine Below.alloc ?_ ?_ _); rotate_left; (focus (first | omega | (simp; done) | (simp; omega)))) | (with_reducible refine Below.drew ?_) | (refine below_on ?_ (by assumption))))⟩ fun W ⟨z0, z1, hB⟩ => ?_
  have c0 := cell_at z0
  have c1 := cell_at z1
  go_wp2_with fail
  refine (HC1.out _ _ _ (HR.out.1.1.below (by focus (repeat (first | (with_reducible exact Below.refl _ _) | (with_reducible assumption) | ((with_reducible refine Below.setCell ?_ ?_ _); rotate_left; (focus (first | omega | (simp; done) | (simp; omega)))) | ((with_reducible refine Below.alloc ?_ ?_ _); rotate_left; (focus (first | omega | (simp; done) | (simp; omega)))) | (with_reducible refine Below.drew ?_) | (refine below_on ?_ (by assumption)))))) (HR.out.2.1.below (by focus (repeat (first | (with_reducible exact Below.refl _ _) | (with_reducible assumption) | ((with_reducible refine Below.setCell ?_ ?_ _); rotate_left; (focus (first | omega | (simp; done) | (simp; omega)))) | ((with_reducible refine Below.alloc ?_ ?_ _); rotate_left; (focus (first | omega | (simp; done) | (simp; omega)))) | (with_reducible refine Below.drew ?_) | (refine below_on ?_ (by assumption))))))).mono ?_
  rintro r w1 ⟨rfl, hb⟩
  have y0 := heap_below hb z0
  have y1 := heap_below hb z1
  have hB1 := below_on hB hb
  clear hb z0 z1 hB c0 c1
  by_cases hx : x = 0
  · obtain rfl := hx
    have c0 := cell_at y0
    have c1 := cell_at y1
    go_wp2_with fail
    refine (HC2.out _ _ _ (HR.out.1.2.below hB1) (HR.out.2.2.below hB1)).mono ?_
    rintro r w2 ⟨rfl, hb⟩
    have hB2 := below_on hB1 hb
    clear hb y0 y1 hB1 c0 c1
    go_wp2
    go_ret
    exact ⟨rfl, hB2⟩
  · have hx2 : (x == 0) = false := by simpa using hx
    clear y0 y1
    go_wp2
    go_ret
    exact ⟨rfl, hB1⟩
end Go.Proofs.YtbhfnfokihdjjaaGreatDoor

namespace Go.Proofs.YtbhfnfokihdjjaaGreatDoor
open Go.RowKit Go.BigFrame
/-- A fraction of the references in a block. -/
def RatIn (W : World) (b : Nat) (n d : Int) : Prop := ∃ (A : Option Addr) (c : Nat) (B : Option Addr) (e : Nat), W.heap[b]? = some (.cells #[.bool (ng n), .slice A (dd (ab n)).length c, .bool (ng d), .slice B (dd (ab d)).length e] 55 (0, 0)) ∧ (dd (ab n)).length ≤ c ∧ DigAt W A (dd (ab n)) ∧ (dd (ab d)).length ≤ e ∧ DigAt W B (dd (ab d))
theorem RatIn.below {W W1 : World} {b : Nat} {n d : Int} (h : RatIn W b n d) (hb : Below W.heap.size W W1) : RatIn W1 b n d := by
  obtain ⟨A, c, B, e, h1, h2, h3, h4, h5⟩ := h
  exact ⟨A, c, B, e, heap_below hb h1, h2, h3.below hb, h4, h5.below hb⟩
theorem rat_laid {W : World} {N : Nat} {c : Array Value} (zN : W.heap[N]? = some (.cells c 55 (0, 0))) (hc : c.size = 4) (hn : ∀ (o : Nat) (x : Int), c[o]? ≠ some (Value.int .i64 x)) {n d : Int} {A B : Option Addr} {ca cb : Nat} (h1 : (dd (ab n)).length ≤ ca) (h2 : DigAt W A (dd (ab n))) (h3 : (dd (ab d)).length ≤ cb) (h4 : DigAt W B (dd (ab d))) :
    RatIn ((((W.setCell ⟨N, 0, none⟩ (.bool (ng n))).setCell ⟨N, 1, none⟩ (.slice A (dd (ab n)).length ca)).setCell ⟨N, 2, none⟩ (.bool (ng d))).setCell ⟨N, 3, none⟩ (.slice B (dd (ab d)).length cb)) N n d ∧
    (∀ m, m ≤ N → Below m W ((((W.setCell ⟨N, 0, none⟩ (.bool (ng n))).setCell ⟨N, 1, none⟩ (.slice A (dd (ab n)).length ca)).setCell ⟨N, 2, none⟩ (.bool (ng d))).setCell ⟨N, 3, none⟩ (.slice B (dd (ab d)).length cb))) := by
  obtain ⟨l1, l2, l3⟩ := laid_four N W (.bool (ng n)) (.slice A (dd (ab n)).length ca) (.bool (ng d)) (.slice B (dd (ab d)).length cb)
  exact ⟨⟨A, ca, B, cb, l1 zN hc, h1, h2.other zN hn l2, h3, h4.other zN hn l2⟩, l3⟩
theorem rat_alloc {W : World} {n d : Int} {A B : Option Addr} {ca cb : Nat} (h1 : (dd (ab n)).length ≤ ca) (h2 : DigAt W A (dd (ab n))) (h3 : (dd (ab d)).length ≤ cb) (h4 : DigAt W B (dd (ab d))) :
    RatIn (W.alloc (.cells #[.bool (ng n), .slice A (dd (ab n)).length ca, .bool (ng d), .slice B (dd (ab d)).length cb] 55)) W.heap.size n d :=
  ⟨A, ca, B, cb, heap_new _ _, h1, h2.below (Below.alloc (Below.refl _ _) (Nat.le_refl _) _), h3, h4.below (Below.alloc (Below.refl _ _) (Nat.le_refl _) _)⟩
set_option maxRecDepth 20000 in
set_option maxHeartbeats 8000000 in
theorem rside_walk (ax ay bx by_ n1 n2 dx dy un vn xn yn c : Int) (k1 k2 ud vd xd yd : Nat)
    (HDX : Hd (∀ w : World, Calls Tryz.prog 43 #[.int .i64 (IntKind.i64.wrap (bx - ax))] w fun e w' => ∃ r, e = .returned r ∧ RatAt w' r dx 1 ∧ Below w.heap.size w w')) (HDY : Hd (∀ w : World, Calls Tryz.prog 43 #[.int .i64 (IntKind.i64.wrap (by_ - ay))] w fun e w' => ∃ r, e = .returned r ∧ RatAt w' r dy 1 ∧ Below w.heap.size w w')) (HAX : Hd (∀ w : World, Calls Tryz.prog 43 #[.int .i64 ax] w fun e w' => ∃ r, e = .returned r ∧ RatAt w' r ax 1 ∧ Below w.heap.size w w')) (HAY : Hd (∀ w : World, Calls Tryz.prog 43 #[.int .i64 ay] w fun e w' => ∃ r, e = .returned r ∧ RatAt w' r ay 1 ∧ Below w.heap.size w w'))
    (HS1 : Hd (∀ (u v : Value) (w : World), RatAt w u n2 (k2 : Int) → RatAt w v ay 1 → Calls Tryz.prog 57 #[u, v] w fun e w' => ∃ r, e = .returned r ∧ RatAt w' r un (ud : Int) ∧ Below w.heap.size w w')) (HM1 : Hd (∀ (u v : Value) (w : World), RatAt w u dx 1 → RatAt w v un (ud : Int) → Calls Tryz.prog 56 #[u, v] w fun e w' => ∃ r, e = .returned r ∧ RatAt w' r xn (xd : Int) ∧ Below w.heap.size w w'))
    (HS2 : Hd (∀ (u v : Value) (w : World), RatAt w u n1 (k1 : Int) → RatAt w v ax 1 → Calls Tryz.prog 57 #[u, v] w fun e w' => ∃ r, e = .returned r ∧ RatAt w' r vn (vd : Int) ∧ Below w.heap.size w w')) (HM2 : Hd (∀ (u v : Value) (w : World), RatAt w u dy 1 → RatAt w v vn (vd : Int) → Calls Tryz.prog 56 #[u, v] w fun e w' => ∃ r, e = .returned r ∧ RatAt w' r yn (yd : Int) ∧ Below w.heap.size w w'))
    (HCM : Hd (∀ (u v : Value) (w : World), RatAt w u xn (xd : Int) → RatAt w v yn (yd : Int) → Calls Tryz.prog 58 #[u, v] w fun e w' => e = .returned (.int .i64 c) ∧ Below w.heap.size w w'))
    (u : Value) (w : World) (hu : PntAt w u n1 k1 n2 k2) :
    Calls Tryz.prog 23 #[.agg #[.int .i64 ax, .int .i64 ay, .int .i64 bx, .int .i64 by_], u] w fun e w' => e = .returned (.int .i64 c) ∧ Below w.heap.size w w' := by
  obtain ⟨A1, c1, B1, e1, A2, c2, B2, e2, rfl, hr1, hr2⟩ := hu
  have HG := Hd.mk (And.intro hr1 hr2)
  clear hr1 hr2
  go_enter Tryz.func23, Tryz.ntmps23
  go_upto_region 1 with (fail)
  refine abs_wp (fun W => W.heap[w.heap.size]? = some (.cells #[.int .i64 ax, .int .i64 ay, .int .i64 bx, .int .i64 by_] 25 (0, 0)) ∧ W.heap[w.heap.size + 1]? = some (.cells #[.bool (ng n1), .slice A1 (dd (ab n1)).length c1, .bool (ng (k1 : Int)), .slice B1 (dd (ab (k1 : Int))).length e1, .bool (ng n2), .slice A2 (dd (ab n2)).length c2, .bool (ng (k2 : Int)), .slice B2 (dd (ab (k2 : Int))).length e2] 57 (0, 0)) ∧ Below w.heap.size w W) ⟨heap_old (heap_new _ _) _, heap_at (by simp) _, by focus (repeat (first | (with_reducible exact Below.refl _ _) | (with_reducible assumption) | ((with_reducible refine Below.setCell ?_ ?_ _); rotate_left; (focus (first | omega | (simp; done) | (simp; omega)))) | ((with_reducible refine Below.alloc ?_ ?_ _); rotate_left; (focus (first | omega | (simp; done) | (simp; omega)))) | (with_reducible refine Below.drew ?_) | (refine below_on ?_ (by assumption))))⟩ fun W ⟨z0, z1, hB⟩ => ?_
  have HG := Hd.mk (And.intro (HG.out.1.below hB) (HG.out.2.below hB))
  refine region_abs_w (fun a0 a' w' => ∃ N, ∃ v : Nat → Value, (RatIn w' N xn (xd : Int) ∧ Below W.heap.size W w') ∧ (a' = (Act.put (Act.put (Act.put (Act.put (Act.put (Act.put (Act.put (Act.put (Act.put (Act.put (Act.put (Act.put (Act.put (Act.put (Act.put (Act.put (Act.put a0 (some 7) (v 7)) (some 8) (v 8)) (some 9) (v 9)) (some 10) (v 10)) (some 11) (v 11)) (some 12) (v 12)) (some 13) (v 13)) (some 14) (v 14)) (some 15) (v 15)) (some 16) (v 16)) (some 17) (v 17)) (some 18) (v 18)) (some 19) (v 19)) (some 20) (v 20)) (some 21) (v 21)) (some 22) (v 22)) (some 5) (.pointer (some ⟨N, 0, none⟩))))) (fun KR hKR => ?_) ?_
  · have HS : Hd (∀ W', Below W.heap.size W W' → W'.cell? ⟨w.heap.size, 0, none⟩ = some (.int .i64 ax) ∧ W'.cell? ⟨w.heap.size, 1, none⟩ = some (.int .i64 ay) ∧ W'.cell? ⟨w.heap.size, 2, none⟩ = some (.int .i64 bx) ∧ W'.cell? ⟨w.heap.size, 3, none⟩ = some (.int .i64 by_) ∧ W'.cell? ⟨w.heap.size + 1, 0, none⟩ = some (.bool (ng n1)) ∧ W'.cell? ⟨w.heap.size + 1, 1, none⟩ = some (.slice A1 (dd (ab n1)).length c1) ∧ W'.cell? ⟨w.heap.size + 1, 2, none⟩ = some (.bool (ng (k1 : Int))) ∧ W'.cell? ⟨w.heap.size + 1, 3, none⟩ = some (.slice B1 (dd (ab (k1 : Int))).length e1) ∧ W'.cell? ⟨w.heap.size + 1, 4, none⟩ = some (.bool (ng n2)) ∧ W'.cell? ⟨w.heap.size + 1, 5, none⟩ = some (.slice A2 (dd (ab n2)).length c2) ∧ W'.cell? ⟨w.heap.size + 1, 6, none⟩ = some (.bool (ng (k2 : Int))) ∧ W'.cell? ⟨w.heap.size + 1, 7, none⟩ = some (.slice B2 (dd (ab (k2 : Int))).length e2)) := ⟨fun W' h => ⟨cell_at (heap_below h z0) 0, cell_at (heap_below h z0) 1, cell_at (heap_below h z0) 2, cell_at (heap_below h z0) 3, cell_at (heap_below h z1) 0, cell_at (heap_below h z1) 1, cell_at (heap_below h z1) 2, cell_at (heap_below h z1) 3, cell_at (heap_below h z1) 4, cell_at (heap_below h z1) 5, cell_at (heap_below h z1) 6, cell_at (heap_below h z1) 7⟩⟩
    have hD : Below W.heap.size W W.drew := Below.drew (Below.refl _ _)
    have hDz := hD.size
    clear hB z0 z1 
    go_region_held3 (fun W' => W'.cell? ⟨w.heap.size, 0, none⟩ = some (.int .i64 ax) ∧ W'.cell? ⟨w.heap.size, 1, none⟩ = some (.int .i64 ay) ∧ W'.cell? ⟨w.heap.size, 2, none⟩ = some (.int .i64 bx) ∧ W'.cell? ⟨w.heap.size, 3, none⟩ = some (.int .i64 by_) ∧ W'.cell? ⟨w.heap.size + 1, 0, none⟩ = some (.bool (ng n1)) ∧ W'.cell? ⟨w.heap.size + 1, 1, none⟩ = some (.slice A1 (dd (ab n1)).length c1) ∧ W'.cell? ⟨w.heap.size + 1, 2, none⟩ = some (.bool (ng (k1 : Int))) ∧ W'.cell? ⟨w.heap.size + 1, 3, none⟩ = some (.slice B1 (dd (ab (k1 : Int))).length e1) ∧ W'.cell? ⟨w.heap.size + 1, 4, none⟩ = some (.bool (ng n2)) ∧ W'.cell? ⟨w.heap.size + 1, 5, none⟩ = some (.slice A2 (dd (ab n2)).length c2) ∧ W'.cell? ⟨w.heap.size + 1, 6, none⟩ = some (.bool (ng (k2 : Int))) ∧ W'.cell? ⟨w.heap.size + 1, 7, none⟩ = some (.slice B2 (dd (ab (k2 : Int))).length e2)) ((exact HS.out _ (by focus (repeat (first | (with_reducible exact Below.refl _ _) | (with_reducible assumption) | ((with_reducible refine Below.setCell ?_ ?_ _); rotate_left; (focus (first | omega | (simp; done) | (simp; omega)))) | ((with_reducible refine Below.alloc ?_ ?_ _); rotate_left; (focus (first | omega | (simp; done) | (simp; omega)))) | (with_reducible refine Below.drew ?_) | (refine below_on ?_ (by assumption)))))))
      ((first
        | (go_at_call 43; have hq := hV1; clear hq; refine (HAY.out _).mono ?_; rintro x2 w2 ⟨v2, rfl, hV2, hb⟩; have hV3 := RatAt.below hV1 (below_on (by focus (repeat (first | (with_reducible exact Below.refl _ _) | (with_reducible assumption) | ((with_reducible refine Below.setCell ?_ ?_ _); rotate_left; (focus (first | omega | (simp; done) | (simp; omega)))) | ((with_reducible refine Below.alloc ?_ ?_ _); rotate_left; (focus (first | omega | (simp; done) | (simp; omega)))) | (with_reducible refine Below.drew ?_) | (refine below_on ?_ (by assumption))))) hb); have hD : Below W.heap.size W w2 := below_on (by focus (repeat (first | (with_reducible exact Below.refl _ _) | (with_reducible assumption) | ((with_reducible refine Below.setCell ?_ ?_ _); rotate_left; (focus (first | omega | (simp; done) | (simp; omega)))) | ((with_reducible refine Below.alloc ?_ ?_ _); rotate_left; (focus (first | omega | (simp; done) | (simp; omega)))) | (with_reducible refine Below.drew ?_) | (refine below_on ?_ (by assumption))))) hb; have hDz := hD.size; (first | (have zN := heap_below hb zN; have qN := cell_at zN; have fN := frozen_at zN; have lN := lt_of_block zN) | (have zN := heap_below hb (heap_new _ (.cells #[.bool false, .slice none 0 0, .bool false, .slice none 0 0] 55)); have qN := cell_at zN; have fN := frozen_at zN; have lN := lt_of_block zN) | skip); clear hb)
        | (go_at_call 43; refine (HDX.out _).mono ?_; rintro x1 w1 ⟨v1, rfl, hV1, hb⟩; have hD : Below W.heap.size W w1 := below_on (by focus (repeat (first | (with_reducible exact Below.refl _ _) | (with_reducible assumption) | ((with_reducible refine Below.setCell ?_ ?_ _); rotate_left; (focus (first | omega | (simp; done) | (simp; omega)))) | ((with_reducible refine Below.alloc ?_ ?_ _); rotate_left; (focus (first | omega | (simp; done) | (simp; omega)))) | (with_reducible refine Below.drew ?_) | (refine below_on ?_ (by assumption))))) hb; have hDz := hD.size; (first | (have zN := heap_below hb zN; have qN := cell_at zN; have fN := frozen_at zN; have lN := lt_of_block zN) | (have zN := heap_below hb (heap_new _ (.cells #[.bool false, .slice none 0 0, .bool false, .slice none 0 0] 55)); have qN := cell_at zN; have fN := frozen_at zN; have lN := lt_of_block zN) | skip); clear hb)
        | (go_at_call 57; refine (HS1.out _ _ _ (HG.out.2.below (by focus (repeat (first | (with_reducible exact Below.refl _ _) | (with_reducible assumption) | ((with_reducible refine Below.setCell ?_ ?_ _); rotate_left; (focus (first | omega | (simp; done) | (simp; omega)))) | ((with_reducible refine Below.alloc ?_ ?_ _); rotate_left; (focus (first | omega | (simp; done) | (simp; omega)))) | (with_reducible refine Below.drew ?_) | (refine below_on ?_ (by assumption)))))) (hV2.below (by focus (repeat (first | (with_reducible exact Below.refl _ _) | (with_reducible assumption) | ((with_reducible refine Below.setCell ?_ ?_ _); rotate_left; (focus (first | omega | (simp; done) | (simp; omega)))) | ((with_reducible refine Below.alloc ?_ ?_ _); rotate_left; (focus (first | omega | (simp; done) | (simp; omega)))) | (with_reducible refine Below.drew ?_) | (refine below_on ?_ (by assumption))))))).mono ?_; rintro x3 w3 ⟨v3, rfl, hV4, hb⟩; have hV5 := RatAt.below hV3 (below_on (by focus (repeat (first | (with_reducible exact Below.refl _ _) | (with_reducible assumption) | ((with_reducible refine Below.setCell ?_ ?_ _); rotate_left; (focus (first | omega | (simp; done) | (simp; omega)))) | ((with_reducible refine Below.alloc ?_ ?_ _); rotate_left; (focus (first | omega | (simp; done) | (simp; omega)))) | (with_reducible refine Below.drew ?_) | (refine below_on ?_ (by assumption))))) hb); have hD : Below W.heap.size W w3 := below_on (by focus (repeat (first | (with_reducible exact Below.refl _ _) | (with_reducible assumption) | ((with_reducible refine Below.setCell ?_ ?_ _); rotate_left; (focus (first | omega | (simp; done) | (simp; omega)))) | ((with_reducible refine Below.alloc ?_ ?_ _); rotate_left; (focus (first | omega | (simp; done) | (simp; omega)))) | (with_reducible refine Below.drew ?_) | (refine below_on ?_ (by assumption))))) hb; have hDz := hD.size; (first | (have zN := heap_below hb zN; have qN := cell_at zN; have fN := frozen_at zN; have lN := lt_of_block zN) | (have zN := heap_below hb (heap_new _ (.cells #[.bool false, .slice none 0 0, .bool false, .slice none 0 0] 55)); have qN := cell_at zN; have fN := frozen_at zN; have lN := lt_of_block zN) | skip); clear hb)
        | (go_at_call 56; refine (HM1.out _ _ _ (hV5.below (by focus (repeat (first | (with_reducible exact Below.refl _ _) | (with_reducible assumption) | ((with_reducible refine Below.setCell ?_ ?_ _); rotate_left; (focus (first | omega | (simp; done) | (simp; omega)))) | ((with_reducible refine Below.alloc ?_ ?_ _); rotate_left; (focus (first | omega | (simp; done) | (simp; omega)))) | (with_reducible refine Below.drew ?_) | (refine below_on ?_ (by assumption)))))) (hV4.below (by focus (repeat (first | (with_reducible exact Below.refl _ _) | (with_reducible assumption) | ((with_reducible refine Below.setCell ?_ ?_ _); rotate_left; (focus (first | omega | (simp; done) | (simp; omega)))) | ((with_reducible refine Below.alloc ?_ ?_ _); rotate_left; (focus (first | omega | (simp; done) | (simp; omega)))) | (with_reducible refine Below.drew ?_) | (refine below_on ?_ (by assumption))))))).mono ?_; rintro x4 w4 ⟨v4, rfl, ⟨A9, c9, B9, e9, rfl, r1, r2, r3, r4⟩, hb⟩; have hD : Below W.heap.size W w4 := below_on (by focus (repeat (first | (with_reducible exact Below.refl _ _) | (with_reducible assumption) | ((with_reducible refine Below.setCell ?_ ?_ _); rotate_left; (focus (first | omega | (simp; done) | (simp; omega)))) | ((with_reducible refine Below.alloc ?_ ?_ _); rotate_left; (focus (first | omega | (simp; done) | (simp; omega)))) | (with_reducible refine Below.drew ?_) | (refine below_on ?_ (by assumption))))) hb; have hDz := hD.size; (first | (have zN := heap_below hb zN; have qN := cell_at zN; have fN := frozen_at zN; have lN := lt_of_block zN) | (have zN := heap_below hb (heap_new _ (.cells #[.bool false, .slice none 0 0, .bool false, .slice none 0 0] 55)); have qN := cell_at zN; have fN := frozen_at zN; have lN := lt_of_block zN) | skip); clear hb)))
    all_goals first
      | (obtain ⟨L1, L2⟩ := rat_laid zN rfl no_int4 r1 r2 r3 r4; exact ⟨rfl, hKR _ _ ⟨_, ex_putw2 ⟨by with_reducible exact ⟨L1, hD.trans (L2 _ (by omega))⟩, by kernel_rfl⟩⟩⟩)
      | exact ⟨rfl, hKR _ _ ⟨_, ex_putw2 ⟨by with_reducible exact ⟨rat_alloc r1 r2 r3 r4, Below.alloc hD (by omega) _⟩, by kernel_rfl⟩⟩⟩
  rintro a' W2 ⟨N, v, ⟨zN, hF⟩, rfl⟩
  simp only [Act.put, List.setIfInBounds_toArray, List.set_cons_succ, List.set_cons_zero]
  have y0 := heap_below hF z0
  have y1 := heap_below hF z1
  have hB2 := below_on hB hF
  have HG := Hd.mk (And.intro (HG.out.1.below hF) (HG.out.2.below hF))
  clear z0 z1 hB hF
  go_upto_region 2 with (fail)
  refine abs_wp (fun W => W.heap[w.heap.size]? = some (.cells #[.int .i64 ax, .int .i64 ay, .int .i64 bx, .int .i64 by_] 25 (0, 0)) ∧ W.heap[w.heap.size + 1]? = some (.cells #[.bool (ng n1), .slice A1 (dd (ab n1)).length c1, .bool (ng (k1 : Int)), .slice B1 (dd (ab (k1 : Int))).length e1, .bool (ng n2), .slice A2 (dd (ab n2)).length c2, .bool (ng (k2 : Int)), .slice B2 (dd (ab (k2 : Int))).length e2] 57 (0, 0)) ∧ RatIn W N xn (xd : Int) ∧ (RatAt W (.agg #[.bool (ng n1), .slice A1 (dd (ab n1)).length c1, .bool (ng (k1 : Int)), .slice B1 (dd (ab (k1 : Int))).length e1]) n1 (k1 : Int) ∧ RatAt W (.agg #[.bool (ng n2), .slice A2 (dd (ab n2)).length c2, .bool (ng (k2 : Int)), .slice B2 (dd (ab (k2 : Int))).length e2]) n2 (k2 : Int)) ∧ Below w.heap.size w W) ⟨y0, y1, zN, HG.out, hB2⟩ fun W ⟨z0, z1, yN, hg, hB⟩ => ?_
  have HG := Hd.mk hg
  have HN := Hd.mk yN
  clear y0 y1 zN hB2 hg yN
  refine region_abs_w (fun a0 a' w' => ∃ N, ∃ v : Nat → Value, (RatIn w' N yn (yd : Int) ∧ Below W.heap.size W w') ∧ (a' = (Act.put (Act.put (Act.put (Act.put (Act.put (Act.put (Act.put (Act.put (Act.put (Act.put (Act.put (Act.put (Act.put (Act.put (Act.put (Act.put (Act.put a0 (some 23) (v 23)) (some 24) (v 24)) (some 25) (v 25)) (some 26) (v 26)) (some 27) (v 27)) (some 28) (v 28)) (some 29) (v 29)) (some 30) (v 30)) (some 31) (v 31)) (some 32) (v 32)) (some 33) (v 33)) (some 34) (v 34)) (some 35) (v 35)) (some 36) (v 36)) (some 37) (v 37)) (some 38) (v 38)) (some 6) (.pointer (some ⟨N, 0, none⟩))))) (fun KR hKR => ?_) ?_
  · have HS : Hd (∀ W', Below W.heap.size W W' → W'.cell? ⟨w.heap.size, 0, none⟩ = some (.int .i64 ax) ∧ W'.cell? ⟨w.heap.size, 1, none⟩ = some (.int .i64 ay) ∧ W'.cell? ⟨w.heap.size, 2, none⟩ = some (.int .i64 bx) ∧ W'.cell? ⟨w.heap.size, 3, none⟩ = some (.int .i64 by_) ∧ W'.cell? ⟨w.heap.size + 1, 0, none⟩ = some (.bool (ng n1)) ∧ W'.cell? ⟨w.heap.size + 1, 1, none⟩ = some (.slice A1 (dd (ab n1)).length c1) ∧ W'.cell? ⟨w.heap.size + 1, 2, none⟩ = some (.bool (ng (k1 : Int))) ∧ W'.cell? ⟨w.heap.size + 1, 3, none⟩ = some (.slice B1 (dd (ab (k1 : Int))).length e1) ∧ W'.cell? ⟨w.heap.size + 1, 4, none⟩ = some (.bool (ng n2)) ∧ W'.cell? ⟨w.heap.size + 1, 5, none⟩ = some (.slice A2 (dd (ab n2)).length c2) ∧ W'.cell? ⟨w.heap.size + 1, 6, none⟩ = some (.bool (ng (k2 : Int))) ∧ W'.cell? ⟨w.heap.size + 1, 7, none⟩ = some (.slice B2 (dd (ab (k2 : Int))).length e2)) := ⟨fun W' h => ⟨cell_at (heap_below h z0) 0, cell_at (heap_below h z0) 1, cell_at (heap_below h z0) 2, cell_at (heap_below h z0) 3, cell_at (heap_below h z1) 0, cell_at (heap_below h z1) 1, cell_at (heap_below h z1) 2, cell_at (heap_below h z1) 3, cell_at (heap_below h z1) 4, cell_at (heap_below h z1) 5, cell_at (heap_below h z1) 6, cell_at (heap_below h z1) 7⟩⟩
    have hD : Below W.heap.size W W.drew := Below.drew (Below.refl _ _)
    have hDz := hD.size
    clear hB z0 z1 
    go_region_held3 (fun W' => W'.cell? ⟨w.heap.size, 0, none⟩ = some (.int .i64 ax) ∧ W'.cell? ⟨w.heap.size, 1, none⟩ = some (.int .i64 ay) ∧ W'.cell? ⟨w.heap.size, 2, none⟩ = some (.int .i64 bx) ∧ W'.cell? ⟨w.heap.size, 3, none⟩ = some (.int .i64 by_) ∧ W'.cell? ⟨w.heap.size + 1, 0, none⟩ = some (.bool (ng n1)) ∧ W'.cell? ⟨w.heap.size + 1, 1, none⟩ = some (.slice A1 (dd (ab n1)).length c1) ∧ W'.cell? ⟨w.heap.size + 1, 2, none⟩ = some (.bool (ng (k1 : Int))) ∧ W'.cell? ⟨w.heap.size + 1, 3, none⟩ = some (.slice B1 (dd (ab (k1 : Int))).length e1) ∧ W'.cell? ⟨w.heap.size + 1, 4, none⟩ = some (.bool (ng n2)) ∧ W'.cell? ⟨w.heap.size + 1, 5, none⟩ = some (.slice A2 (dd (ab n2)).length c2) ∧ W'.cell? ⟨w.heap.size + 1, 6, none⟩ = some (.bool (ng (k2 : Int))) ∧ W'.cell? ⟨w.heap.size + 1, 7, none⟩ = some (.slice B2 (dd (ab (k2 : Int))).length e2)) ((exact HS.out _ (by focus (repeat (first | (with_reducible exact Below.refl _ _) | (with_reducible assumption) | ((with_reducible refine Below.setCell ?_ ?_ _); rotate_left; (focus (first | omega | (simp; done) | (simp; omega)))) | ((with_reducible refine Below.alloc ?_ ?_ _); rotate_left; (focus (first | omega | (simp; done) | (simp; omega)))) | (with_reducible refine Below.drew ?_) | (refine below_on ?_ (by assumption)))))))
      ((first
        | (go_at_call 43; have hq := hV1; clear hq; refine (HAX.out _).mono ?_; rintro x2 w2 ⟨v2, rfl, hV2, hb⟩; have hV3 := RatAt.below hV1 (below_on (by focus (repeat (first | (with_reducible exact Below.refl _ _) | (with_reducible assumption) | ((with_reducible refine Below.setCell ?_ ?_ _); rotate_left; (focus (first | omega | (simp; done) | (simp; omega)))) | ((with_reducible refine Below.alloc ?_ ?_ _); rotate_left; (focus (first | omega | (simp; done) | (simp; omega)))) | (with_reducible refine Below.drew ?_) | (refine below_on ?_ (by assumption))))) hb); have hD : Below W.heap.size W w2 := below_on (by focus (repeat (first | (with_reducible exact Below.refl _ _) | (with_reducible assumption) | ((with_reducible refine Below.setCell ?_ ?_ _); rotate_left; (focus (first | omega | (simp; done) | (simp; omega)))) | ((with_reducible refine Below.alloc ?_ ?_ _); rotate_left; (focus (first | omega | (simp; done) | (simp; omega)))) | (with_reducible refine Below.drew ?_) | (refine below_on ?_ (by assumption))))) hb; have hDz := hD.size; (first | (have zN := heap_below hb zN; have qN := cell_at zN; have fN := frozen_at zN; have lN := lt_of_block zN) | (have zN := heap_below hb (heap_new _ (.cells #[.bool false, .slice none 0 0, .bool false, .slice none 0 0] 55)); have qN := cell_at zN; have fN := frozen_at zN; have lN := lt_of_block zN) | skip); clear hb)
        | (go_at_call 43; refine (HDY.out _).mono ?_; rintro x1 w1 ⟨v1, rfl, hV1, hb⟩; have hD : Below W.heap.size W w1 := below_on (by focus (repeat (first | (with_reducible exact Below.refl _ _) | (with_reducible assumption) | ((with_reducible refine Below.setCell ?_ ?_ _); rotate_left; (focus (first | omega | (simp; done) | (simp; omega)))) | ((with_reducible refine Below.alloc ?_ ?_ _); rotate_left; (focus (first | omega | (simp; done) | (simp; omega)))) | (with_reducible refine Below.drew ?_) | (refine below_on ?_ (by assumption))))) hb; have hDz := hD.size; (first | (have zN := heap_below hb zN; have qN := cell_at zN; have fN := frozen_at zN; have lN := lt_of_block zN) | (have zN := heap_below hb (heap_new _ (.cells #[.bool false, .slice none 0 0, .bool false, .slice none 0 0] 55)); have qN := cell_at zN; have fN := frozen_at zN; have lN := lt_of_block zN) | skip); clear hb)
        | (go_at_call 57; refine (HS2.out _ _ _ (HG.out.1.below (by focus (repeat (first | (with_reducible exact Below.refl _ _) | (with_reducible assumption) | ((with_reducible refine Below.setCell ?_ ?_ _); rotate_left; (focus (first | omega | (simp; done) | (simp; omega)))) | ((with_reducible refine Below.alloc ?_ ?_ _); rotate_left; (focus (first | omega | (simp; done) | (simp; omega)))) | (with_reducible refine Below.drew ?_) | (refine below_on ?_ (by assumption)))))) (hV2.below (by focus (repeat (first | (with_reducible exact Below.refl _ _) | (with_reducible assumption) | ((with_reducible refine Below.setCell ?_ ?_ _); rotate_left; (focus (first | omega | (simp; done) | (simp; omega)))) | ((with_reducible refine Below.alloc ?_ ?_ _); rotate_left; (focus (first | omega | (simp; done) | (simp; omega)))) | (with_reducible refine Below.drew ?_) | (refine below_on ?_ (by assumption))))))).mono ?_; rintro x3 w3 ⟨v3, rfl, hV4, hb⟩; have hV5 := RatAt.below hV3 (below_on (by focus (repeat (first | (with_reducible exact Below.refl _ _) | (with_reducible assumption) | ((with_reducible refine Below.setCell ?_ ?_ _); rotate_left; (focus (first | omega | (simp; done) | (simp; omega)))) | ((with_reducible refine Below.alloc ?_ ?_ _); rotate_left; (focus (first | omega | (simp; done) | (simp; omega)))) | (with_reducible refine Below.drew ?_) | (refine below_on ?_ (by assumption))))) hb); have hD : Below W.heap.size W w3 := below_on (by focus (repeat (first | (with_reducible exact Below.refl _ _) | (with_reducible assumption) | ((with_reducible refine Below.setCell ?_ ?_ _); rotate_left; (focus (first | omega | (simp; done) | (simp; omega)))) | ((with_reducible refine Below.alloc ?_ ?_ _); rotate_left; (focus (first | omega | (simp; done) | (simp; omega)))) | (with_reducible refine Below.drew ?_) | (refine below_on ?_ (by assumption))))) hb; have hDz := hD.size; (first | (have zN := heap_below hb zN; have qN := cell_at zN; have fN := frozen_at zN; have lN := lt_of_block zN) | (have zN := heap_below hb (heap_new _ (.cells #[.bool false, .slice none 0 0, .bool false, .slice none 0 0] 55)); have qN := cell_at zN; have fN := frozen_at zN; have lN := lt_of_block zN) | skip); clear hb)
        | (go_at_call 56; refine (HM2.out _ _ _ (hV5.below (by focus (repeat (first | (with_reducible exact Below.refl _ _) | (with_reducible assumption) | ((with_reducible refine Below.setCell ?_ ?_ _); rotate_left; (focus (first | omega | (simp; done) | (simp; omega)))) | ((with_reducible refine Below.alloc ?_ ?_ _); rotate_left; (focus (first | omega | (simp; done) | (simp; omega)))) | (with_reducible refine Below.drew ?_) | (refine below_on ?_ (by assumption)))))) (hV4.below (by focus (repeat (first | (with_reducible exact Below.refl _ _) | (with_reducible assumption) | ((with_reducible refine Below.setCell ?_ ?_ _); rotate_left; (focus (first | omega | (simp; done) | (simp; omega)))) | ((with_reducible refine Below.alloc ?_ ?_ _); rotate_left; (focus (first | omega | (simp; done) | (simp; omega)))) | (with_reducible refine Below.drew ?_) | (refine below_on ?_ (by assumption))))))).mono ?_; rintro x4 w4 ⟨v4, rfl, ⟨A9, c9, B9, e9, rfl, r1, r2, r3, r4⟩, hb⟩; have hD : Below W.heap.size W w4 := below_on (by focus (repeat (first | (with_reducible exact Below.refl _ _) | (with_reducible assumption) | ((with_reducible refine Below.setCell ?_ ?_ _); rotate_left; (focus (first | omega | (simp; done) | (simp; omega)))) | ((with_reducible refine Below.alloc ?_ ?_ _); rotate_left; (focus (first | omega | (simp; done) | (simp; omega)))) | (with_reducible refine Below.drew ?_) | (refine below_on ?_ (by assumption))))) hb; have hDz := hD.size; (first | (have zN := heap_below hb zN; have qN := cell_at zN; have fN := frozen_at zN; have lN := lt_of_block zN) | (have zN := heap_below hb (heap_new _ (.cells #[.bool false, .slice none 0 0, .bool false, .slice none 0 0] 55)); have qN := cell_at zN; have fN := frozen_at zN; have lN := lt_of_block zN) | skip); clear hb)))
    all_goals first
      | (obtain ⟨L1, L2⟩ := rat_laid zN rfl no_int4 r1 r2 r3 r4; exact ⟨rfl, hKR _ _ ⟨_, ex_putw2 ⟨by with_reducible exact ⟨L1, hD.trans (L2 _ (by omega))⟩, by kernel_rfl⟩⟩⟩)
      | exact ⟨rfl, hKR _ _ ⟨_, ex_putw2 ⟨by with_reducible exact ⟨rat_alloc r1 r2 r3 r4, Below.alloc hD (by omega) _⟩, by kernel_rfl⟩⟩⟩
  rintro a' W4 ⟨M, v2, ⟨yM, hF⟩, rfl⟩
  simp only [Act.put, List.setIfInBounds_toArray, List.set_cons_succ, List.set_cons_zero]
  have hB4 := below_on hB hF
  have yN := HN.out.below hF
  clear z0 z1 hB hF HG HN
  obtain ⟨C1, f1, D1, g1, x1, s1, s2, s3, s4⟩ := yN
  obtain ⟨C2, f2, D2, g2, x2, t1, t2, t3, t4⟩ := yM
  have HF := Hd.mk (And.intro (And.intro s2 s4) (And.intro t2 t4))
  clear s2 s4 t2 t4
  have q1 := cell_at x1
  have q2 := cell_at x2
  go_wp2_with fail
  refine (HCM.out _ _ _ ⟨C1, f1, D1, g1, rfl, s1, HF.out.1.1, s3, HF.out.1.2⟩ ⟨C2, f2, D2, g2, rfl, t1, HF.out.2.1, t3, HF.out.2.2⟩).mono ?_
  rintro r w5 ⟨rfl, hb⟩
  have hB5 := below_on hB4 hb
  clear hb hB4 q1 q2 x1 x2 HF
  go_wp2
  go_ret
  exact ⟨rfl, hB5⟩
end Go.Proofs.YtbhfnfokihdjjaaGreatDoor

namespace Go.Proofs.YtbhfnfokihdjjaaGreatDoor
open Go.RowKit Go.BigFrame
set_option maxRecDepth 20000 in
set_option maxHeartbeats 8000000 in
theorem ron_walk (ax ay bx by_ n1 n2 a b c : Int) (k1 k2 : Nat)
    (HOA : Hd (∀ w : World, Calls Tryz.prog 60 #[.agg #[.int .i64 ax, .int .i64 ay]] w fun e w' => ∃ v, e = .returned v ∧ PntAt w' v ax 1 ay 1 ∧ Below w.heap.size w w')) (HOB : Hd (∀ w : World, Calls Tryz.prog 60 #[.agg #[.int .i64 bx, .int .i64 by_]] w fun e w' => ∃ v, e = .returned v ∧ PntAt w' v bx 1 by_ 1 ∧ Below w.heap.size w w')) (HC1 : Hd (∀ (u v : Value) (w : World), PntAt w u ax 1 ay 1 → PntAt w v n1 k1 n2 k2 → Calls Tryz.prog 59 #[u, v] w fun e w' => e = .returned (.int .i64 a) ∧ Below w.heap.size w w')) (HC2 : Hd (∀ (u v : Value) (w : World), PntAt w u n1 k1 n2 k2 → PntAt w v bx 1 by_ 1 → Calls Tryz.prog 59 #[u, v] w fun e w' => e = .returned (.int .i64 b) ∧ Below w.heap.size w w'))
    (HSD : Hd (∀ (u : Value) (w : World), PntAt w u n1 k1 n2 k2 → Calls Tryz.prog 23 #[.agg #[.int .i64 ax, .int .i64 ay, .int .i64 bx, .int .i64 by_], u] w fun e w' => e = .returned (.int .i64 c) ∧ Below w.heap.size w w'))
    (u : Value) (w : World) (hu : PntAt w u n1 k1 n2 k2) :
    Calls Tryz.prog 24 #[.agg #[.int .i64 ax, .int .i64 ay, .int .i64 bx, .int .i64 by_], u] w fun e w' => e = .returned (.bool ((c == 0) && (a == 0 || (b == 0 || a == b)))) ∧ Below w.heap.size w w' := by
  have hu2 := hu
  obtain ⟨A1, c1, B1, e1, A2, c2, B2, e2, rfl, _, _⟩ := hu
  have HG := Hd.mk hu2
  clear hu2
  go_enter Tryz.func24, Tryz.ntmps24
  go_upto_region 1 with (fail)
  refine abs_wp (fun W => W.heap[w.heap.size]? = some (.cells #[.int .i64 ax, .int .i64 ay, .int .i64 bx, .int .i64 by_] 25 (0, 0)) ∧ W.heap[w.heap.size + 1]? = some (.cells #[.bool (ng n1), .slice A1 (dd (ab n1)).length c1, .bool (ng (k1 : Int)), .slice B1 (dd (ab (k1 : Int))).length e1, .bool (ng n2), .slice A2 (dd (ab n2)).length c2, .bool (ng (k2 : Int)), .slice B2 (dd (ab (k2 : Int))).length e2] 57 (0, 0)) ∧ Below w.heap.size w W) ⟨heap_old (heap_new _ _) _, heap_at (by simp) _, by focus (repeat (first | (with_reducible exact Below.refl _ _) | (with_reducible assumption) | ((with_reducible refine Below.setCell ?_ ?_ _); rotate_left; (focus (first | omega | (simp; done) | (simp; omega)))) | ((with_reducible refine Below.alloc ?_ ?_ _); rotate_left; (focus (first | omega | (simp; done) | (simp; omega)))) | (with_reducible refine Below.drew ?_) | (refine below_on ?_ (by assumption))))⟩ fun W ⟨z0, z1, hB⟩ => ?_
  have HG := Hd.mk (HG.out.below hB)
  have HS : Hd (∀ W', Below W.heap.size W W' → W'.cell? ⟨w.heap.size, 0, none⟩ = some (.int .i64 ax) ∧ W'.cell? ⟨w.heap.size, 1, none⟩ = some (.int .i64 ay) ∧ W'.cell? ⟨w.heap.size, 2, none⟩ = some (.int .i64 bx) ∧ W'.cell? ⟨w.heap.size, 3, none⟩ = some (.int .i64 by_) ∧ W'.cell? ⟨w.heap.size + 1, 0, none⟩ = some (.bool (ng n1)) ∧ W'.cell? ⟨w.heap.size + 1, 1, none⟩ = some (.slice A1 (dd (ab n1)).length c1) ∧ W'.cell? ⟨w.heap.size + 1, 2, none⟩ = some (.bool (ng (k1 : Int))) ∧ W'.cell? ⟨w.heap.size + 1, 3, none⟩ = some (.slice B1 (dd (ab (k1 : Int))).length e1) ∧ W'.cell? ⟨w.heap.size + 1, 4, none⟩ = some (.bool (ng n2)) ∧ W'.cell? ⟨w.heap.size + 1, 5, none⟩ = some (.slice A2 (dd (ab n2)).length c2) ∧ W'.cell? ⟨w.heap.size + 1, 6, none⟩ = some (.bool (ng (k2 : Int))) ∧ W'.cell? ⟨w.heap.size + 1, 7, none⟩ = some (.slice B2 (dd (ab (k2 : Int))).length e2)) := ⟨fun W' h => ⟨cell_at (heap_below h z0) 0, cell_at (heap_below h z0) 1, cell_at (heap_below h z0) 2, cell_at (heap_below h z0) 3, cell_at (heap_below h z1) 0, cell_at (heap_below h z1) 1, cell_at (heap_below h z1) 2, cell_at (heap_below h z1) 3, cell_at (heap_below h z1) 4, cell_at (heap_below h z1) 5, cell_at (heap_below h z1) 6, cell_at (heap_below h z1) 7⟩⟩
  have hD : Below W.heap.size W W.drew := Below.drew (Below.refl _ _)
  go_region_held3 (fun W' => W'.cell? ⟨w.heap.size, 0, none⟩ = some (.int .i64 ax) ∧ W'.cell? ⟨w.heap.size, 1, none⟩ = some (.int .i64 ay) ∧ W'.cell? ⟨w.heap.size, 2, none⟩ = some (.int .i64 bx) ∧ W'.cell? ⟨w.heap.size, 3, none⟩ = some (.int .i64 by_) ∧ W'.cell? ⟨w.heap.size + 1, 0, none⟩ = some (.bool (ng n1)) ∧ W'.cell? ⟨w.heap.size + 1, 1, none⟩ = some (.slice A1 (dd (ab n1)).length c1) ∧ W'.cell? ⟨w.heap.size + 1, 2, none⟩ = some (.bool (ng (k1 : Int))) ∧ W'.cell? ⟨w.heap.size + 1, 3, none⟩ = some (.slice B1 (dd (ab (k1 : Int))).length e1) ∧ W'.cell? ⟨w.heap.size + 1, 4, none⟩ = some (.bool (ng n2)) ∧ W'.cell? ⟨w.heap.size + 1, 5, none⟩ = some (.slice A2 (dd (ab n2)).length c2) ∧ W'.cell? ⟨w.heap.size + 1, 6, none⟩ = some (.bool (ng (k2 : Int))) ∧ W'.cell? ⟨w.heap.size + 1, 7, none⟩ = some (.slice B2 (dd (ab (k2 : Int))).length e2)) ((exact HS.out _ (by focus (repeat (first | (with_reducible exact Below.refl _ _) | (with_reducible assumption) | ((with_reducible refine Below.setCell ?_ ?_ _); rotate_left; (focus (first | omega | (simp; done) | (simp; omega)))) | ((with_reducible refine Below.alloc ?_ ?_ _); rotate_left; (focus (first | omega | (simp; done) | (simp; omega)))) | (with_reducible refine Below.drew ?_) | (refine below_on ?_ (by assumption)))))))
    ((first
      | (go_at_call 60; have hq := hC1; clear hq; refine (HOB.out _).mono ?_; rintro x3 w3 ⟨v3, rfl, hV3, hb⟩; have hD : Below W.heap.size W w3 := below_on hD hb; clear hb)
      | (go_at_call 60; refine (HOA.out _).mono ?_; rintro x1 w1 ⟨v1, rfl, hV1, hb⟩; have hD : Below W.heap.size W w1 := below_on hD hb; clear hb)
      | (go_at_call 59; have hq := hV3; clear hq; refine (HC2.out _ _ _ (HG.out.below hD) hV3).mono ?_; rintro x4 w4 ⟨rfl, hb⟩; have hD : Below W.heap.size W w4 := below_on hD hb; clear hb)
      | (go_at_call 59; refine (HC1.out _ _ _ hV1 (HG.out.below hD)).mono ?_; rintro x2 w2 ⟨rfl, hb⟩; have hC1 := True.intro; have hD : Below W.heap.size W w2 := below_on hD hb; clear hb)))
  have y0 := heap_below hD z0
  have y1 := heap_below hD z1
  have hB2 := below_on hB hD
  have HG := Hd.mk (HG.out.below hD)
  clear z0 z1 hB hD HS hV1 hV3 hC1
  have q0 := cell_at y0
  have q1 := cell_at y1
  go_wp2_with fail
  refine (HSD.out _ _ HG.out).mono ?_
  rintro r w5 ⟨rfl, hb⟩
  have hB5 := below_on hB2 hb
  clear hb hB2 q0 q1 y0 y1 HG
  by_cases hc : c = 0
  · obtain rfl := hc
    by_cases ha : a = 0
    · obtain rfl := ha
      go_wp2
      go_ret
      exact ⟨rfl, hB5⟩
    · have ha2 : (a == 0) = false := by simpa using ha
      by_cases hb : b = 0
      · obtain rfl := hb
        go_wp2
        go_ret
        exact ⟨by rw [ha2]; rfl, hB5⟩
      · have hb2 : (b == 0) = false := by simpa using hb
        go_wp2
        go_ret
        exact ⟨by rw [ha2, hb2]; rfl, hB5⟩
  · have hc2 : (c == 0) = false := by simpa using hc
    go_wp2
    go_ret
    exact ⟨by rw [hc2]; rfl, hB5⟩
end Go.Proofs.YtbhfnfokihdjjaaGreatDoor

namespace Go.Proofs.YtbhfnfokihdjjaaGreatDoor
open Go.RowKit Go.BigFrame

theorem ab_mul_lt {x y : Int} {i j k : Nat} (hx : ab x < 2 ^ i) (hy : ab y < 2 ^ j) (hk : i + j ≤ k) : ab (x * y) < 2 ^ k := by
  rw [ab_mul]
  refine lt_pow_of (i := i + j) ?_ hk
  rw [Nat.pow_add]
  exact Nat.mul_lt_mul'' hx hy
theorem ab_sum_lt {x y : Int} {i k : Nat} (hx : ab x < 2 ^ i) (hy : ab y < 2 ^ i) (hk : i + 1 ≤ k) : ab (x + y) < 2 ^ k := by
  refine lt_pow_of (i := i + 1) ?_ hk
  rw [Nat.pow_succ]
  generalize 2 ^ i = P at hx hy ⊢
  unfold ab at hx hy ⊢
  omega
theorem ab_cast_lt {n k : Nat} (h : n < 2 ^ k) : ab (n : Int) < 2 ^ k := by rw [ab_nat]; exact h
theorem ab_small {z : Int} (h : -134217728 ≤ z ∧ z ≤ 134217728) : ab z < 2 ^ 28 := by unfold ab; omega
theorem ab_less {z : Int} {a i k : Nat} (h : ab z ≤ a) (ha : a < 2 ^ i) (hk : i ≤ k) : ab z < 2 ^ k := lt_pow_of (Nat.lt_of_le_of_lt h ha) hk
theorem num_z (n : Int) (h : -134217728 ≤ n ∧ n ≤ 134217728) : Hd (∀ w : World, Calls Tryz.prog 43 #[.int .i64 n] w fun e w' => ∃ r, e = .returned r ∧ RatAt w' r n 1 ∧ Below w.heap.size w w') :=
  ⟨fun w => rrnum_any n (by omega) (by omega) w⟩
theorem num_wrap (a b : Int) (ha : -67108864 ≤ a ∧ a ≤ 67108864) (hb : -67108864 ≤ b ∧ b ≤ 67108864) : Hd (∀ w : World, Calls Tryz.prog 43 #[.int .i64 (IntKind.i64.wrap (b - a))] w fun e w' => ∃ r, e = .returned r ∧ RatAt w' r (b - a) 1 ∧ Below w.heap.size w w') := by
  have e0 : wrap64 (b - a) = b - a := by unfold wrap64; omega
  have e : IntKind.i64.wrap (b - a) = b - a := by first | exact (IntWalk.i64_left _).trans e0 | exact (IntWalk.i64_left _).symm.trans e0 | (simp [IntKind.wrap]; omega)
  rw [e]
  exact num_z (b - a) (by omega)
/-- The difference of a coordinate and a node's. -/
theorem sub_node (X : Int) (D : Nat) (a : Int) (hX : ab X < 2 ^ 96) (hD : D < 2 ^ 64) (h0 : 0 < D) (ha : -67108864 ≤ a ∧ a ≤ 67108864) :
    ∃ (u : Int) (e : Nat), 0 < e ∧ e < 2 ^ 64 ∧ ab u < 2 ^ 97 ∧ u * (D : Int) = (X - a * D) * (e : Int) ∧
    Hd (∀ (p q : Value) (w : World), RatAt w p X (D : Int) → RatAt w q a 1 → Calls Tryz.prog 57 #[p, q] w fun e' w' => ∃ r, e' = .returned r ∧ RatAt w' r u (e : Int) ∧ Below w.heap.size w w') := by
  have a1 : ab (X * ((1 : Nat) : Int)) < 2 ^ 96 := by rw [show X * ((1 : Nat) : Int) = X by simp]; exact hX
  have a2 : ab (-a * (D : Int)) < 2 ^ 96 := ab_mul_lt (ab_small (z := -a) (by omega)) (ab_cast_lt hD) (by decide)
  have a3 := ab_sum_lt a1 a2 (Nat.le_refl (96 + 1))
  have h1 : 0 < D * 1 := by omega
  have h2 : D * 1 < 2 ^ 64 := by rw [Nat.mul_one]; exact hD
  refine ⟨rz (X * ((1 : Nat) : Int) + -a * D) (D * 1), rd (X * ((1 : Nat) : Int) + -a * D) (D * 1), rd_pos h1, Nat.lt_of_le_of_lt (rd_le _ _) h2, Nat.lt_of_le_of_lt (ab_rz_le _ _) a3, ?_, ⟨fun p q w hp hq => ?_⟩⟩
  · have h := rz_same (X * ((1 : Nat) : Int) + -a * D) h1
    rw [show ((D * 1 : Nat) : Int) = (D : Int) by simp] at h
    rw [h]
    congr 1
    rw [Int.neg_mul, Int.natCast_one, Int.mul_one]
    rfl
  · exact rrsub_any X D a 1 (lt_pow_of hX (by decide)) (lt_pow_of hD (by decide)) (ab_less (Nat.le_refl _) (ab_small (by omega)) (by decide)) (by decide) (lt_pow_of a1 (by decide)) (lt_pow_of a2 (by decide)) h1 (lt_pow_of a3 (by decide)) (lt_pow_of h2 (by decide)) p q w hp hq
theorem mul_node (d u : Int) (e : Nat) (hd : -134217728 ≤ d ∧ d ≤ 134217728) (hu : ab u < 2 ^ 97) (he : e < 2 ^ 64) (h0 : 0 < e) :
    ∃ (x : Int) (y : Nat), 0 < y ∧ y < 2 ^ 64 ∧ ab x < 2 ^ 125 ∧ x * (e : Int) = d * u * (y : Int) ∧
    Hd (∀ (p q : Value) (w : World), RatAt w p d 1 → RatAt w q u (e : Int) → Calls Tryz.prog 56 #[p, q] w fun e' w' => ∃ r, e' = .returned r ∧ RatAt w' r x (y : Int) ∧ Below w.heap.size w w') := by
  have a1 : ab (d * u) < 2 ^ 125 := ab_mul_lt (ab_small hd) hu (by decide)
  have h1 : 0 < 1 * e := by omega
  have h2 : 1 * e < 2 ^ 64 := by rw [Nat.one_mul]; exact he
  refine ⟨rz (d * u) (1 * e), rd (d * u) (1 * e), rd_pos h1, Nat.lt_of_le_of_lt (rd_le _ _) h2, Nat.lt_of_le_of_lt (ab_rz_le _ _) a1, ?_, ⟨fun p q w hp hq => ?_⟩⟩
  · have h := rz_same (d * u) h1
    rw [show ((1 * e : Nat) : Int) = (e : Int) by simp] at h
    exact h
  · exact rrmul_any d 1 u e (lt_pow_of (ab_small hd) (by decide)) (by decide) (lt_pow_of hu (by decide)) (lt_pow_of he (by decide)) h1 (lt_pow_of a1 (by decide)) (lt_pow_of h2 (by decide)) p q w hp hq
/-- The side of a point that may be, by the references. -/
theorem rside_any (ax ay bx by_ X : Int) (D : Nat) (Y : Int) (E : Nat) (hg : segB ax ay bx by_ = true) (hp : Pt X D Y E) :
    Hd (∀ (u : Value) (w : World), PntAt w u X D Y E → Calls Tryz.prog 23 #[.agg #[.int .i64 ax, .int .i64 ay, .int .i64 bx, .int .i64 by_], u] w fun e w' => e = .returned (.int .i64 (sideV ax ay (bx - ax) (by_ - ay) X D Y E)) ∧ Below w.heap.size w w') := by
  have hs2 := hg
  unfold segB at hs2
  simp only [Bool.and_eq_true] at hs2
  obtain ⟨ha, hb, _⟩ := hs2
  obtain ⟨ra1, ra2⟩ := node_range ha
  obtain ⟨rb1, rb2⟩ := node_range hb
  obtain ⟨un, ud, u1, u2, u3, u4, HS1⟩ := sub_node Y E ay hp.y.nb hp.dy hp.y.pos ra2
  obtain ⟨vn, vd, v1, v2, v3, v4, HS2⟩ := sub_node X D ax hp.x.nb hp.dx hp.x.pos ra1
  obtain ⟨xn, xd, x1, x2, x3, x4, HM1⟩ := mul_node (bx - ax) un ud (by omega) u3 u2 u1
  obtain ⟨yn, yd, y1, y2, y3, y4, HM2⟩ := mul_node (by_ - ay) vn vd (by omega) v3 v2 v1
  have hv := side_ref ax ay (bx - ax) (by_ - ay) X D Y E hp.x.pos hp.y.pos un vn xn yn ud vd xd yd u4 u1 v4 v1 x4 x1 y4 y1
  refine ⟨fun u w hu => ?_⟩
  refine rside_walk ax ay bx by_ X Y (bx - ax) (by_ - ay) un vn xn yn _ D E ud vd xd yd (num_wrap ax bx ra1 rb1) (num_wrap ay by_ ra2 rb2) (num_z ax (by omega)) (num_z ay (by omega)) HS1 HM1 HS2 HM2 ⟨fun u v w h1 h2 => ?_⟩ u w hu
  have h := rrcmp_any xn xd yn yd (lt_pow_of x3 (by decide)) (lt_pow_of x2 (by decide)) (lt_pow_of y3 (by decide)) (lt_pow_of y2 (by decide)) u v w h1 h2
  rw [← sgI_sgn, hv] at h
  exact h
/-- Which of two points is ahead, by the references. -/
theorem rpcmp_any (X : Int) (D : Nat) (Y : Int) (E : Nat) (X2 : Int) (D2 : Nat) (Y2 : Int) (E2 : Nat) (h1 : Pt X D Y E) (h2 : Pt X2 D2 Y2 E2) :
    Hd (∀ (u v : Value) (w : World), PntAt w u X D Y E → PntAt w v X2 D2 Y2 E2 → Calls Tryz.prog 59 #[u, v] w fun e w' => e = .returned (.int .i64 (pntC X D Y E X2 D2 Y2 E2)) ∧ Below w.heap.size w w') := by
  refine ⟨fun u v w hu hv => ?_⟩
  refine rpcmp_walk X D Y E X2 D2 Y2 E2 (sgI (X * D2 - X2 * D)) (sgI (Y * E2 - Y2 * E)) ⟨fun u v w k1 k2 => ?_⟩ ⟨fun u v w k1 k2 => ?_⟩ u v w hu hv
  · rw [sgI_sgn]
    exact rrcmp_any X D X2 D2 (lt_pow_of h1.x.nb (by decide)) (lt_pow_of h1.dx (by decide)) (lt_pow_of h2.x.nb (by decide)) (lt_pow_of h2.dx (by decide)) u v w k1 k2
  · rw [sgI_sgn]
    exact rrcmp_any Y E Y2 E2 (lt_pow_of h1.y.nb (by decide)) (lt_pow_of h1.dy (by decide)) (lt_pow_of h2.y.nb (by decide)) (lt_pow_of h2.dy (by decide)) u v w k1 k2
/-- Whether a point that may be is on a segment, by the references. -/
theorem ron_any (ax ay bx by_ X : Int) (D : Nat) (Y : Int) (E : Nat) (hg : segB ax ay bx by_ = true) (hp : Pt X D Y E) :
    Hd (∀ (u : Value) (w : World), PntAt w u X D Y E → Calls Tryz.prog 24 #[.agg #[.int .i64 ax, .int .i64 ay, .int .i64 bx, .int .i64 by_], u] w fun e w' => e = .returned (.bool (onB ax ay bx by_ X D Y E)) ∧ Below w.heap.size w w') := by
  have hs2 := hg
  unfold segB at hs2
  simp only [Bool.and_eq_true] at hs2
  obtain ⟨ha, hb, _⟩ := hs2
  obtain ⟨ra1, ra2⟩ := node_range ha
  obtain ⟨rb1, rb2⟩ := node_range hb
  refine ⟨fun u w hu => ?_⟩
  have h := ron_walk ax ay bx by_ X Y _ _ _ D E ⟨fun w => rpof_any ax ay (by omega) (by omega) w⟩ ⟨fun w => rpof_any bx by_ (by omega) (by omega) w⟩ (rpcmp_any ax 1 ay 1 X D Y E (node_pt ha) hp) (rpcmp_any X D Y E bx 1 by_ 1 hp (node_pt hb)) (rside_any ax ay bx by_ X D Y E hg hp) u w hu
  rw [on_ref (pntC_range _ _ _ _ _ _ _ _) (pntC_range _ _ _ _ _ _ _ _)] at h
  exact h
/-- The point of an api.Point that may be. -/
theorem rpfrom_pt (X : Int) (D : Nat) (Y : Int) (E : Nat) (hp : Pt X D Y E) (w : World) :
    Calls Tryz.prog 22 #[.agg #[.bool (ng (X)), .int .u64 (dg (ab (X)) 0), .int .u64 (dg (ab (X)) 1), .int .u64 (dg (ab (X)) 2), .int .u64 (dg (ab (X)) 3), .bool false, .int .u64 (dg (D) 0), .int .u64 (dg (D) 1), .int .u64 (dg (D) 2), .int .u64 (dg (D) 3), .bool (ng (Y)), .int .u64 (dg (ab (Y)) 0), .int .u64 (dg (ab (Y)) 1), .int .u64 (dg (ab (Y)) 2), .int .u64 (dg (ab (Y)) 3), .bool false, .int .u64 (dg (E) 0), .int .u64 (dg (E) 1), .int .u64 (dg (E) 2), .int .u64 (dg (E) 3)]] w fun e w' => ∃ v, e = .returned v ∧ PntAt w' v X D Y E ∧ Below w.heap.size w w' :=
  rpfrom_any X D Y E (rrfrom_z X D (lt_pow_of hp.x.nb (by decide)) (lt_pow_of hp.dx (by decide))) (rrfrom_z Y E (lt_pow_of hp.y.nb (by decide)) (lt_pow_of hp.dy (by decide))) w
end Go.Proofs.YtbhfnfokihdjjaaGreatDoor
