/-
  Walks of seg: Side, On. Conditions stand in each theorem.
-/
import Derived.Test.YtbhfnfokihdjjaaGreatDoorWg4
import Derived.Test.YtbhfnfokihdjjaaGreatDoorWg1
namespace Go.Proofs.YtbhfnfokihdjjaaGreatDoor
open Go.RowKit Go.BigFrame

theorem ex_putw2 {T : Array Value} {ds : List Deferred} {G : (Nat → Value) → Act} {R : Prop} (h : R ∧ (Act.mk T ds = G (fun i => T.getD i undef))) : ∃ v : Nat → Value, R ∧ (Act.mk T ds = G v) := ⟨_, h⟩
theorem heap_twoW (W : World) (o o2 : Obj) : ((W.alloc o).alloc o2).heap[W.heap.size + 1]? = some o2 := heap_at (by simp) _
theorem range_of {W : World} {b : Nat} {C : Array Value} {t : TypeId} {f : Nat × Nat} (h : W.heap[b]? = some (.cells C t f)) (o : Nat) (l : List Value) (hl : ∀ j v, l[j]? = some v → C[o + j]? = some v) : W.rangeAt b o l := fun j v hv => (cell_at h _).trans (hl j v hv)
/-- Two fresh fractions are laid. -/
def Two (W : World) (N M : Nat) (C1 : Int) (E1 : Nat) (C2 : Int) (E2 : Nat) (W' : World) : Prop :=
  W'.heap[N]? = some (.cells #[.bool (ng (C1)), .int .u64 (dg (ab (C1)) 0), .int .u64 (dg (ab (C1)) 1), .int .u64 (dg (ab (C1)) 2), .int .u64 (dg (ab (C1)) 3), .bool false, .int .u64 (dg (E1) 0), .int .u64 (dg (E1) 1), .int .u64 (dg (E1) 2), .int .u64 (dg (E1) 3)] 44 (0, 0)) ∧ W'.heap[M]? = some (.cells #[.bool (ng (C2)), .int .u64 (dg (ab (C2)) 0), .int .u64 (dg (ab (C2)) 1), .int .u64 (dg (ab (C2)) 2), .int .u64 (dg (ab (C2)) 3), .bool false, .int .u64 (dg (E2) 0), .int .u64 (dg (E2) 1), .int .u64 (dg (E2) 2), .int .u64 (dg (E2) 3)] 44 (0, 0)) ∧ Below W.heap.size W W'
theorem two_five {W wd : World} {A B : Nat} {c e : Array Value} {C1 : Int} {E1 : Nat} {C2 : Int} {E2 : Nat} (zA : wd.heap[A]? = some (.cells c 44 (0, 0))) (hc : c.size = 10) (zB : wd.heap[B]? = some (.cells e 44 (0, 0))) (he : e.size = 10) (hAB : A ≠ B) (hA : W.heap.size ≤ A) (hB : W.heap.size ≤ B) (hD : Below W.heap.size W wd) :
    Two W A B C1 E1 C2 E2 ((((((((((((((((((((wd.setCell ⟨A, 0, none⟩ (.bool (ng C1))).setCell ⟨A, 1, none⟩ (.int .u64 (dg (ab C1) 0))).setCell ⟨A, 2, none⟩ (.int .u64 (dg (ab C1) 1))).setCell ⟨A, 3, none⟩ (.int .u64 (dg (ab C1) 2))).setCell ⟨A, 4, none⟩ (.int .u64 (dg (ab C1) 3))).setCell ⟨A, 5, none⟩ (.bool false)).setCell ⟨A, 6, none⟩ (.int .u64 (dg E1 0))).setCell ⟨A, 7, none⟩ (.int .u64 (dg E1 1))).setCell ⟨A, 8, none⟩ (.int .u64 (dg E1 2))).setCell ⟨A, 9, none⟩ (.int .u64 (dg E1 3))).setCell ⟨B, 0, none⟩ (.bool (ng C2))).setCell ⟨B, 1, none⟩ (.int .u64 (dg (ab C2) 0))).setCell ⟨B, 2, none⟩ (.int .u64 (dg (ab C2) 1))).setCell ⟨B, 3, none⟩ (.int .u64 (dg (ab C2) 2))).setCell ⟨B, 4, none⟩ (.int .u64 (dg (ab C2) 3))).setCell ⟨B, 5, none⟩ (.bool false)).setCell ⟨B, 6, none⟩ (.int .u64 (dg E2 0))).setCell ⟨B, 7, none⟩ (.int .u64 (dg E2 1))).setCell ⟨B, 8, none⟩ (.int .u64 (dg E2 2))).setCell ⟨B, 9, none⟩ (.int .u64 (dg E2 3))) := by
  obtain ⟨l1, l2, l3⟩ := laid_10 A wd (.bool (ng C1)) (.int .u64 (dg (ab C1) 0)) (.int .u64 (dg (ab C1) 1)) (.int .u64 (dg (ab C1) 2)) (.int .u64 (dg (ab C1) 3)) (.bool false) (.int .u64 (dg E1 0)) (.int .u64 (dg E1 1)) (.int .u64 (dg E1 2)) (.int .u64 (dg E1 3))
  obtain ⟨m1, m2, m3⟩ := laid_10 B ((((((((((wd.setCell ⟨A, 0, none⟩ (.bool (ng C1))).setCell ⟨A, 1, none⟩ (.int .u64 (dg (ab C1) 0))).setCell ⟨A, 2, none⟩ (.int .u64 (dg (ab C1) 1))).setCell ⟨A, 3, none⟩ (.int .u64 (dg (ab C1) 2))).setCell ⟨A, 4, none⟩ (.int .u64 (dg (ab C1) 3))).setCell ⟨A, 5, none⟩ (.bool false)).setCell ⟨A, 6, none⟩ (.int .u64 (dg E1 0))).setCell ⟨A, 7, none⟩ (.int .u64 (dg E1 1))).setCell ⟨A, 8, none⟩ (.int .u64 (dg E1 2))).setCell ⟨A, 9, none⟩ (.int .u64 (dg E1 3))) (.bool (ng C2)) (.int .u64 (dg (ab C2) 0)) (.int .u64 (dg (ab C2) 1)) (.int .u64 (dg (ab C2) 2)) (.int .u64 (dg (ab C2) 3)) (.bool false) (.int .u64 (dg E2 0)) (.int .u64 (dg E2 1)) (.int .u64 (dg E2 2)) (.int .u64 (dg E2 3))
  exact ⟨m2 _ _ hAB (l1 zA hc), m1 (l2 _ _ (Ne.symm hAB) zB) he, hD.trans ((l3 _ hA).trans (m3 _ hB))⟩
theorem two_one {W wd : World} {C1 : Int} {E1 : Nat} {C2 : Int} {E2 : Nat} (hD : Below W.heap.size W wd) :
    Two W wd.heap.size (wd.heap.size + 1) C1 E1 C2 E2 ((wd.alloc (.cells #[.bool (ng (C1)), .int .u64 (dg (ab (C1)) 0), .int .u64 (dg (ab (C1)) 1), .int .u64 (dg (ab (C1)) 2), .int .u64 (dg (ab (C1)) 3), .bool false, .int .u64 (dg (E1) 0), .int .u64 (dg (E1) 1), .int .u64 (dg (E1) 2), .int .u64 (dg (E1) 3)] 44)).alloc (.cells #[.bool (ng (C2)), .int .u64 (dg (ab (C2)) 0), .int .u64 (dg (ab (C2)) 1), .int .u64 (dg (ab (C2)) 2), .int .u64 (dg (ab (C2)) 3), .bool false, .int .u64 (dg (E2) 0), .int .u64 (dg (E2) 1), .int .u64 (dg (E2) 2), .int .u64 (dg (E2) 3)] 44)) :=
  ⟨heap_old (heap_new _ _) _, heap_twoW _ _ _, Below.alloc (Below.alloc hD hD.size _) (Nat.le_trans hD.size (by simp)) _⟩
theorem two_two {W wd : World} {C1 : Int} {E1 : Nat} {C2 : Int} {E2 : Nat} (hD : Below W.heap.size W wd) :
    Two W (wd.heap.size + 1) wd.heap.size C1 E1 C2 E2 ((wd.alloc (.cells #[.bool (ng (C2)), .int .u64 (dg (ab (C2)) 0), .int .u64 (dg (ab (C2)) 1), .int .u64 (dg (ab (C2)) 2), .int .u64 (dg (ab (C2)) 3), .bool false, .int .u64 (dg (E2) 0), .int .u64 (dg (E2) 1), .int .u64 (dg (E2) 2), .int .u64 (dg (E2) 3)] 44)).alloc (.cells #[.bool (ng (C1)), .int .u64 (dg (ab (C1)) 0), .int .u64 (dg (ab (C1)) 1), .int .u64 (dg (ab (C1)) 2), .int .u64 (dg (ab (C1)) 3), .bool false, .int .u64 (dg (E1) 0), .int .u64 (dg (E1) 1), .int .u64 (dg (E1) 2), .int .u64 (dg (E1) 3)] 44)) :=
  ⟨heap_twoW _ _ _, heap_old (heap_new _ _) _, Below.alloc (Below.alloc hD hD.size _) (Nat.le_trans hD.size (by simp)) _⟩
theorem size_tower (wd : World) (A : Nat) (C1 : Int) (E1 : Nat) : ((((((((((wd.setCell ⟨A, 0, none⟩ (.bool (ng C1))).setCell ⟨A, 1, none⟩ (.int .u64 (dg (ab C1) 0))).setCell ⟨A, 2, none⟩ (.int .u64 (dg (ab C1) 1))).setCell ⟨A, 3, none⟩ (.int .u64 (dg (ab C1) 2))).setCell ⟨A, 4, none⟩ (.int .u64 (dg (ab C1) 3))).setCell ⟨A, 5, none⟩ (.bool false)).setCell ⟨A, 6, none⟩ (.int .u64 (dg E1 0))).setCell ⟨A, 7, none⟩ (.int .u64 (dg E1 1))).setCell ⟨A, 8, none⟩ (.int .u64 (dg E1 2))).setCell ⟨A, 9, none⟩ (.int .u64 (dg E1 3))).heap.size = wd.heap.size := by simp
theorem two_three {W wd : World} {A : Nat} {c : Array Value} {C1 : Int} {E1 : Nat} {C2 : Int} {E2 : Nat} (zA : wd.heap[A]? = some (.cells c 44 (0, 0))) (hc : c.size = 10) (hA : W.heap.size ≤ A) (hD : Below W.heap.size W wd) :
    Two W A wd.heap.size C1 E1 C2 E2 (((((((((((wd.setCell ⟨A, 0, none⟩ (.bool (ng C1))).setCell ⟨A, 1, none⟩ (.int .u64 (dg (ab C1) 0))).setCell ⟨A, 2, none⟩ (.int .u64 (dg (ab C1) 1))).setCell ⟨A, 3, none⟩ (.int .u64 (dg (ab C1) 2))).setCell ⟨A, 4, none⟩ (.int .u64 (dg (ab C1) 3))).setCell ⟨A, 5, none⟩ (.bool false)).setCell ⟨A, 6, none⟩ (.int .u64 (dg E1 0))).setCell ⟨A, 7, none⟩ (.int .u64 (dg E1 1))).setCell ⟨A, 8, none⟩ (.int .u64 (dg E1 2))).setCell ⟨A, 9, none⟩ (.int .u64 (dg E1 3))).alloc (.cells #[.bool (ng (C2)), .int .u64 (dg (ab (C2)) 0), .int .u64 (dg (ab (C2)) 1), .int .u64 (dg (ab (C2)) 2), .int .u64 (dg (ab (C2)) 3), .bool false, .int .u64 (dg (E2) 0), .int .u64 (dg (E2) 1), .int .u64 (dg (E2) 2), .int .u64 (dg (E2) 3)] 44)) := by
  obtain ⟨l1, l2, l3⟩ := laid_10 A wd (.bool (ng C1)) (.int .u64 (dg (ab C1) 0)) (.int .u64 (dg (ab C1) 1)) (.int .u64 (dg (ab C1) 2)) (.int .u64 (dg (ab C1) 3)) (.bool false) (.int .u64 (dg E1 0)) (.int .u64 (dg E1 1)) (.int .u64 (dg E1 2)) (.int .u64 (dg E1 3))
  have hB := hD.trans (l3 _ hA)
  exact ⟨heap_old (l1 zA hc) _, heap_at (size_tower wd A C1 E1) _, Below.alloc hB hB.size _⟩
theorem two_four {W wd : World} {A : Nat} {c : Array Value} {C1 : Int} {E1 : Nat} {C2 : Int} {E2 : Nat} (zA : wd.heap[A]? = some (.cells c 44 (0, 0))) (hc : c.size = 10) (hA : W.heap.size ≤ A) (hD : Below W.heap.size W wd) :
    Two W wd.heap.size A C1 E1 C2 E2 (((((((((((wd.setCell ⟨A, 0, none⟩ (.bool (ng C2))).setCell ⟨A, 1, none⟩ (.int .u64 (dg (ab C2) 0))).setCell ⟨A, 2, none⟩ (.int .u64 (dg (ab C2) 1))).setCell ⟨A, 3, none⟩ (.int .u64 (dg (ab C2) 2))).setCell ⟨A, 4, none⟩ (.int .u64 (dg (ab C2) 3))).setCell ⟨A, 5, none⟩ (.bool false)).setCell ⟨A, 6, none⟩ (.int .u64 (dg E2 0))).setCell ⟨A, 7, none⟩ (.int .u64 (dg E2 1))).setCell ⟨A, 8, none⟩ (.int .u64 (dg E2 2))).setCell ⟨A, 9, none⟩ (.int .u64 (dg E2 3))).alloc (.cells #[.bool (ng (C1)), .int .u64 (dg (ab (C1)) 0), .int .u64 (dg (ab (C1)) 1), .int .u64 (dg (ab (C1)) 2), .int .u64 (dg (ab (C1)) 3), .bool false, .int .u64 (dg (E1) 0), .int .u64 (dg (E1) 1), .int .u64 (dg (E1) 2), .int .u64 (dg (E1) 3)] 44)) := by
  obtain ⟨l1, l2, l3⟩ := laid_10 A wd (.bool (ng C2)) (.int .u64 (dg (ab C2) 0)) (.int .u64 (dg (ab C2) 1)) (.int .u64 (dg (ab C2) 2)) (.int .u64 (dg (ab C2) 3)) (.bool false) (.int .u64 (dg E2 0)) (.int .u64 (dg E2 1)) (.int .u64 (dg E2 2)) (.int .u64 (dg E2 3))
  have hB := hD.trans (l3 _ hA)
  exact ⟨heap_at (size_tower wd A C2 E2) _, heap_old (l1 zA hc) _, Below.alloc hB hB.size _⟩
set_option maxRecDepth 20000 in
set_option maxHeartbeats 8000000 in
theorem side_reg (ax ay bx by_ PX : Int) (D1 : Nat) (PY : Int) (D2 : Nat) (C1 : Int) (E1 : Nat) (C2 : Int) (E2 : Nat) (p q c : Int)
    (HCUT : Hd (∀ z d f t Z E, ((z = PX ∧ d = D1 ∧ f = ax ∧ t = bx ∧ Z = C1 ∧ E = E1) ∨ (z = PY ∧ d = D2 ∧ f = ay ∧ t = by_ ∧ Z = C2 ∧ E = E2)) → ∀ w, Vars w → Calls Tryz.prog 84 #[.agg #[.bool (ng (z)), .int .u64 (dg (ab (z)) 0), .int .u64 (dg (ab (z)) 1), .int .u64 (dg (ab (z)) 2), .int .u64 (dg (ab (z)) 3), .bool false, .int .u64 (dg (d) 0), .int .u64 (dg (d) 1), .int .u64 (dg (d) 2), .int .u64 (dg (d) 3)], .int .i64 f, .int .i64 t] w fun e w' => e = .returned (.agg #[.bool (ng (Z)), .int .u64 (dg (ab (Z)) 0), .int .u64 (dg (ab (Z)) 1), .int .u64 (dg (ab (Z)) 2), .int .u64 (dg (ab (Z)) 3), .bool false, .int .u64 (dg (E) 0), .int .u64 (dg (E) 1), .int .u64 (dg (E) 2), .int .u64 (dg (E) 3)]) ∧ Below w.heap.size w w'))
    (HCMP : Hd (∀ w, Calls Tryz.prog 82 #[.agg #[.bool (ng (C2)), .int .u64 (dg (ab (C2)) 0), .int .u64 (dg (ab (C2)) 1), .int .u64 (dg (ab (C2)) 2), .int .u64 (dg (ab (C2)) 3), .bool false, .int .u64 (dg (E2) 0), .int .u64 (dg (E2) 1), .int .u64 (dg (E2) 2), .int .u64 (dg (E2) 3)], .agg #[.bool (ng (C1)), .int .u64 (dg (ab (C1)) 0), .int .u64 (dg (ab (C1)) 1), .int .u64 (dg (ab (C1)) 2), .int .u64 (dg (ab (C1)) 3), .bool false, .int .u64 (dg (E1) 0), .int .u64 (dg (E1) 1), .int .u64 (dg (E1) 2), .int .u64 (dg (E1) 3)]] w fun e w' => e = .returned (.tuple #[.int .i64 c, .int .i64 0]) ∧ Below w.heap.size w w'))
    (HM1 : Hd (-1 ≤ c * cmpI p 0 ∧ c * cmpI p 0 ≤ 1)) (HM2 : Hd (-1 ≤ c * cmpI p 0 * cmpI q 0 ∧ c * cmpI p 0 * cmpI q 0 ≤ 1))
    (hp : (p == 0) = false) (hq : (q == 0) = false) (hp2 : wrap64 (bx - ax) = p) (hq2 : wrap64 (by_ - ay) = q)
    (w : World) (HV : Hd (Vars w)) :
    Calls Tryz.prog 50 #[.agg #[.int .i64 ax, .int .i64 ay, .int .i64 bx, .int .i64 by_], .agg #[.bool (ng (PX)), .int .u64 (dg (ab (PX)) 0), .int .u64 (dg (ab (PX)) 1), .int .u64 (dg (ab (PX)) 2), .int .u64 (dg (ab (PX)) 3), .bool false, .int .u64 (dg (D1) 0), .int .u64 (dg (D1) 1), .int .u64 (dg (D1) 2), .int .u64 (dg (D1) 3), .bool (ng (PY)), .int .u64 (dg (ab (PY)) 0), .int .u64 (dg (ab (PY)) 1), .int .u64 (dg (ab (PY)) 2), .int .u64 (dg (ab (PY)) 3), .bool false, .int .u64 (dg (D2) 0), .int .u64 (dg (D2) 1), .int .u64 (dg (D2) 2), .int .u64 (dg (D2) 3)]] w fun e w' => e = .returned (.int .i64 (c * cmpI p 0 * cmpI q 0)) ∧ Below w.heap.size w w' := by
  have HP2 := Hd.mk hp2
  have HQ2 := Hd.mk hq2
  clear hp2 hq2
  go_enter Tryz.func50, Tryz.ntmps50
  go_upto_region 1 with (fail)
  refine abs_wp (fun W => W.heap[w.heap.size]? = some (.cells #[.int .i64 ax, .int .i64 ay, .int .i64 bx, .int .i64 by_] 101 (0, 0)) ∧ W.heap[w.heap.size + 1]? = some (.cells #[.bool (ng (PX)), .int .u64 (dg (ab (PX)) 0), .int .u64 (dg (ab (PX)) 1), .int .u64 (dg (ab (PX)) 2), .int .u64 (dg (ab (PX)) 3), .bool false, .int .u64 (dg (D1) 0), .int .u64 (dg (D1) 1), .int .u64 (dg (D1) 2), .int .u64 (dg (D1) 3), .bool (ng (PY)), .int .u64 (dg (ab (PY)) 0), .int .u64 (dg (ab (PY)) 1), .int .u64 (dg (ab (PY)) 2), .int .u64 (dg (ab (PY)) 3), .bool false, .int .u64 (dg (D2) 0), .int .u64 (dg (D2) 1), .int .u64 (dg (D2) 2), .int .u64 (dg (D2) 3)] 46 (0, 0)) ∧ Below w.heap.size w W) ⟨heap_old (heap_new _ _) _, heap_at (by simp) _, by focus (repeat (first | (with_reducible exact Below.refl _ _) | (with_reducible assumption) | ((with_reducible refine Below.setCell ?_ ?_ _); rotate_left; (focus (first | omega | (simp; done) | (simp; omega)))) | ((with_reducible refine Below.alloc ?_ ?_ _); rotate_left; (focus (first | omega | (simp; done) | (simp; omega)))) | (with_reducible refine Below.drew ?_) | (refine below_on ?_ (by assumption))))⟩ fun W ⟨z0, z1, hB⟩ => ?_
  refine region_qt 19 (by kernel_rfl) (by kernel_rfl) fun X _ mk hmk hcl => ?_
  have c0 := mk_cell hmk z0
  simp only [List.take_succ_cons, List.take_zero, List.drop_succ_cons, List.drop_zero]
  repeat (go_big_quiet_step (skip))
  refine wpQuiet_nil ?_
  rintro _ ⟨x, rfl⟩
  clear c0
  have hx := hmk x
  clear hcl hmk
  generalize mk x = W1 at hx
  have y0 := heap_below hx z0
  have y1 := heap_below hx z1
  have hB1 := below_on hB hx
  clear hx z0 z1 hB
  simp only [HP2.out, HQ2.out]
  go_upto_region 10 with (fail)
  refine abs_wp (fun W => W.heap[w.heap.size]? = some (.cells #[.int .i64 ax, .int .i64 ay, .int .i64 bx, .int .i64 by_] 101 (0, 0)) ∧ W.heap[w.heap.size + 1]? = some (.cells #[.bool (ng (PX)), .int .u64 (dg (ab (PX)) 0), .int .u64 (dg (ab (PX)) 1), .int .u64 (dg (ab (PX)) 2), .int .u64 (dg (ab (PX)) 3), .bool false, .int .u64 (dg (D1) 0), .int .u64 (dg (D1) 1), .int .u64 (dg (D1) 2), .int .u64 (dg (D1) 3), .bool (ng (PY)), .int .u64 (dg (ab (PY)) 0), .int .u64 (dg (ab (PY)) 1), .int .u64 (dg (ab (PY)) 2), .int .u64 (dg (ab (PY)) 3), .bool false, .int .u64 (dg (D2) 0), .int .u64 (dg (D2) 1), .int .u64 (dg (D2) 2), .int .u64 (dg (D2) 3)] 46 (0, 0)) ∧ Below w.heap.size w W) ⟨y0, y1, hB1⟩ fun W ⟨z0, z1, hB⟩ => ?_
  clear y0 y1 hB1
  have hVW := HV.out.below hB
  have HS : Hd (∀ W', Below W.heap.size W W' → (W'.cell? ⟨w.heap.size, 0, none⟩ = some (.int .i64 ax) ∧ W'.cell? ⟨w.heap.size, 1, none⟩ = some (.int .i64 ay) ∧ W'.cell? ⟨w.heap.size, 2, none⟩ = some (.int .i64 bx) ∧ W'.cell? ⟨w.heap.size, 3, none⟩ = some (.int .i64 by_)) ∧ W'.cell? ⟨w.heap.size + 1, 0, none⟩ = some (.bool (ng PX)) ∧ W'.cell? ⟨w.heap.size + 1, 1, none⟩ = some (.int .u64 (dg (ab PX) 0)) ∧ W'.cell? ⟨w.heap.size + 1, 2, none⟩ = some (.int .u64 (dg (ab PX) 1)) ∧ W'.cell? ⟨w.heap.size + 1, 3, none⟩ = some (.int .u64 (dg (ab PX) 2)) ∧ W'.cell? ⟨w.heap.size + 1, 4, none⟩ = some (.int .u64 (dg (ab PX) 3)) ∧ W'.cell? ⟨w.heap.size + 1, 5, none⟩ = some (.bool false) ∧ W'.cell? ⟨w.heap.size + 1, 6, none⟩ = some (.int .u64 (dg D1 0)) ∧ W'.cell? ⟨w.heap.size + 1, 7, none⟩ = some (.int .u64 (dg D1 1)) ∧ W'.cell? ⟨w.heap.size + 1, 8, none⟩ = some (.int .u64 (dg D1 2)) ∧ W'.cell? ⟨w.heap.size + 1, 9, none⟩ = some (.int .u64 (dg D1 3)) ∧ W'.cell? ⟨w.heap.size + 1, 10, none⟩ = some (.bool (ng PY)) ∧ W'.cell? ⟨w.heap.size + 1, 11, none⟩ = some (.int .u64 (dg (ab PY) 0)) ∧ W'.cell? ⟨w.heap.size + 1, 12, none⟩ = some (.int .u64 (dg (ab PY) 1)) ∧ W'.cell? ⟨w.heap.size + 1, 13, none⟩ = some (.int .u64 (dg (ab PY) 2)) ∧ W'.cell? ⟨w.heap.size + 1, 14, none⟩ = some (.int .u64 (dg (ab PY) 3)) ∧ W'.cell? ⟨w.heap.size + 1, 15, none⟩ = some (.bool false) ∧ W'.cell? ⟨w.heap.size + 1, 16, none⟩ = some (.int .u64 (dg D2 0)) ∧ W'.cell? ⟨w.heap.size + 1, 17, none⟩ = some (.int .u64 (dg D2 1)) ∧ W'.cell? ⟨w.heap.size + 1, 18, none⟩ = some (.int .u64 (dg D2 2)) ∧ W'.cell? ⟨w.heap.size + 1, 19, none⟩ = some (.int .u64 (dg D2 3))) := ⟨fun W' h => by
    have y0 := heap_below h z0
    have y1 := heap_below h z1
    exact ⟨⟨cell_at y0 0, cell_at y0 1, cell_at y0 2, cell_at y0 3⟩, cell_at y1 0, cell_at y1 1, cell_at y1 2, cell_at y1 3, cell_at y1 4, cell_at y1 5, cell_at y1 6, cell_at y1 7, cell_at y1 8, cell_at y1 9, cell_at y1 10, cell_at y1 11, cell_at y1 12, cell_at y1 13, cell_at y1 14, cell_at y1 15, cell_at y1 16, cell_at y1 17, cell_at y1 18, cell_at y1 19⟩⟩
  refine region_abs_w (fun a0 a' w' => ∃ N M, ∃ v : Nat → Value, Two W N M C1 E1 C2 E2 w' ∧ (a' = (Act.put (Act.put (Act.put (Act.put (Act.put (Act.put (Act.put (Act.put (Act.put (Act.put (Act.put (Act.put (Act.put (Act.put (Act.put (Act.put (Act.put (Act.put (Act.put (Act.put (Act.put (Act.put (Act.put (Act.put a0 (some 76) (v 76)) (some 77) (v 77)) (some 78) (v 78)) (some 79) (v 79)) (some 80) (v 80)) (some 81) (v 81)) (some 82) (v 82)) (some 83) (v 83)) (some 84) (v 84)) (some 85) (v 85)) (some 86) (v 86)) (some 87) (v 87)) (some 88) (v 88)) (some 89) (v 89)) (some 90) (v 90)) (some 91) (v 91)) (some 92) (v 92)) (some 93) (v 93)) (some 94) (v 94)) (some 95) (v 95)) (some 96) (v 96)) (some 97) (v 97)) (some 11) (.pointer (some ⟨N, 0, none⟩))) (some 12) (.pointer (some ⟨M, 0, none⟩))))) (fun KR hKR => ?_) ?_
  · have hD : Below W.heap.size W W.drew := Below.drew (Below.refl _ _)
    have hsW := lt_of_block z1
    have hszd : W.drew.heap.size = W.heap.size := rfl
    clear z0 z1 hB hp hq HP2 HQ2
    go_region_held3 (fun W' => (W'.cell? ⟨w.heap.size, 0, none⟩ = some (.int .i64 ax) ∧ W'.cell? ⟨w.heap.size, 1, none⟩ = some (.int .i64 ay) ∧ W'.cell? ⟨w.heap.size, 2, none⟩ = some (.int .i64 bx) ∧ W'.cell? ⟨w.heap.size, 3, none⟩ = some (.int .i64 by_)) ∧ W'.cell? ⟨w.heap.size + 1, 0, none⟩ = some (.bool (ng PX)) ∧ W'.cell? ⟨w.heap.size + 1, 1, none⟩ = some (.int .u64 (dg (ab PX) 0)) ∧ W'.cell? ⟨w.heap.size + 1, 2, none⟩ = some (.int .u64 (dg (ab PX) 1)) ∧ W'.cell? ⟨w.heap.size + 1, 3, none⟩ = some (.int .u64 (dg (ab PX) 2)) ∧ W'.cell? ⟨w.heap.size + 1, 4, none⟩ = some (.int .u64 (dg (ab PX) 3)) ∧ W'.cell? ⟨w.heap.size + 1, 5, none⟩ = some (.bool false) ∧ W'.cell? ⟨w.heap.size + 1, 6, none⟩ = some (.int .u64 (dg D1 0)) ∧ W'.cell? ⟨w.heap.size + 1, 7, none⟩ = some (.int .u64 (dg D1 1)) ∧ W'.cell? ⟨w.heap.size + 1, 8, none⟩ = some (.int .u64 (dg D1 2)) ∧ W'.cell? ⟨w.heap.size + 1, 9, none⟩ = some (.int .u64 (dg D1 3)) ∧ W'.cell? ⟨w.heap.size + 1, 10, none⟩ = some (.bool (ng PY)) ∧ W'.cell? ⟨w.heap.size + 1, 11, none⟩ = some (.int .u64 (dg (ab PY) 0)) ∧ W'.cell? ⟨w.heap.size + 1, 12, none⟩ = some (.int .u64 (dg (ab PY) 1)) ∧ W'.cell? ⟨w.heap.size + 1, 13, none⟩ = some (.int .u64 (dg (ab PY) 2)) ∧ W'.cell? ⟨w.heap.size + 1, 14, none⟩ = some (.int .u64 (dg (ab PY) 3)) ∧ W'.cell? ⟨w.heap.size + 1, 15, none⟩ = some (.bool false) ∧ W'.cell? ⟨w.heap.size + 1, 16, none⟩ = some (.int .u64 (dg D2 0)) ∧ W'.cell? ⟨w.heap.size + 1, 17, none⟩ = some (.int .u64 (dg D2 1)) ∧ W'.cell? ⟨w.heap.size + 1, 18, none⟩ = some (.int .u64 (dg D2 2)) ∧ W'.cell? ⟨w.heap.size + 1, 19, none⟩ = some (.int .u64 (dg D2 3))) ((exact HS.out _ (by focus (repeat (first | (with_reducible exact Below.refl _ _) | (with_reducible assumption) | ((with_reducible refine Below.setCell ?_ ?_ _); rotate_left; (focus (first | omega | (simp; done) | (simp; omega)))) | ((with_reducible refine Below.alloc ?_ ?_ _); rotate_left; (focus (first | omega | (simp; done) | (simp; omega)))) | (with_reducible refine Below.drew ?_) | (refine below_on ?_ (by assumption)))))))
      ((first
        | (go_at_call 84; refine (HCUT.out _ _ _ _ _ _ (by first | (with_reducible exact Or.inl ⟨rfl, rfl, rfl, rfl, rfl, rfl⟩) | (with_reducible exact Or.inr ⟨rfl, rfl, rfl, rfl, rfl, rfl⟩)) _ (hVW.below (by focus (repeat (first | (with_reducible exact Below.refl _ _) | (with_reducible assumption) | ((with_reducible refine Below.setCell ?_ ?_ _); rotate_left; (focus (first | omega | (simp; done) | (simp; omega)))) | ((with_reducible refine Below.alloc ?_ ?_ _); rotate_left; (focus (first | omega | (simp; done) | (simp; omega)))) | (with_reducible refine Below.drew ?_) | (refine below_on ?_ (by assumption))))))).mono ?_; rintro e wd ⟨rfl, hb⟩; have hD : Below W.heap.size W wd := below_on (by focus (repeat (first | (with_reducible exact Below.refl _ _) | (with_reducible assumption) | ((with_reducible refine Below.setCell ?_ ?_ _); rotate_left; (focus (first | omega | (simp; done) | (simp; omega)))) | ((with_reducible refine Below.alloc ?_ ?_ _); rotate_left; (focus (first | omega | (simp; done) | (simp; omega)))) | (with_reducible refine Below.drew ?_) | (refine below_on ?_ (by assumption))))) hb; have hDz := hD.size; (first | (have zN := heap_below hb zN; have zM := heap_below hb zM) | (have hNM := Nat.ne_of_lt (lt_of_block zN); have zM := heap_below hb (heap_new _ (.cells #[.bool false, .int .u64 0, .int .u64 0, .int .u64 0, .int .u64 0, .bool false, .int .u64 0, .int .u64 0, .int .u64 0, .int .u64 0] 44)); have zN := heap_below hb (heap_old zN (.cells #[.bool false, .int .u64 0, .int .u64 0, .int .u64 0, .int .u64 0, .bool false, .int .u64 0, .int .u64 0, .int .u64 0, .int .u64 0] 44))) | (have zN := heap_below hb zN) | (have zM := heap_below hb (heap_twoW _ (.cells #[.bool false, .int .u64 0, .int .u64 0, .int .u64 0, .int .u64 0, .bool false, .int .u64 0, .int .u64 0, .int .u64 0, .int .u64 0] 44) (.cells #[.bool false, .int .u64 0, .int .u64 0, .int .u64 0, .int .u64 0, .bool false, .int .u64 0, .int .u64 0, .int .u64 0, .int .u64 0] 44)); have zN := heap_below hb (heap_old (heap_new _ (.cells #[.bool false, .int .u64 0, .int .u64 0, .int .u64 0, .int .u64 0, .bool false, .int .u64 0, .int .u64 0, .int .u64 0, .int .u64 0] 44)) (.cells #[.bool false, .int .u64 0, .int .u64 0, .int .u64 0, .int .u64 0, .bool false, .int .u64 0, .int .u64 0, .int .u64 0, .int .u64 0] 44))) | (have zN := heap_below hb (heap_new _ (.cells #[.bool false, .int .u64 0, .int .u64 0, .int .u64 0, .int .u64 0, .bool false, .int .u64 0, .int .u64 0, .int .u64 0, .int .u64 0] 44))) | skip); (try rw [drew_heap] at zN); (try rw [drew_heap] at zM); (first | (have qN := cell_at zN; have fN := frozen_at zN; have lN := lt_of_block zN) | skip); (first | (have qM := cell_at zM; have fM := frozen_at zM; have lM := lt_of_block zM) | skip); clear hb)
        | fail))
    all_goals
      refine ⟨rfl, hKR _ _ ?_⟩
      first
      | exact ⟨_, _, ex_putw2 ⟨by with_reducible exact two_one hD, by kernel_rfl⟩⟩
      | exact ⟨_, _, ex_putw2 ⟨by with_reducible exact two_two hD, by kernel_rfl⟩⟩
      | exact ⟨_, _, ex_putw2 ⟨by ((with_reducible refine two_five zN ?_ zM ?_ ?_ ?_ ?_ hD) <;> first | exact rfl | omega | exact hNM | exact Ne.symm hNM), by kernel_rfl⟩⟩
      | exact ⟨_, _, ex_putw2 ⟨by ((with_reducible refine two_five zM ?_ zN ?_ ?_ ?_ ?_ hD) <;> first | exact rfl | omega | exact hNM | exact Ne.symm hNM), by kernel_rfl⟩⟩
      | exact ⟨_, _, ex_putw2 ⟨by ((with_reducible refine two_three zN ?_ ?_ hD) <;> first | exact rfl | omega | exact hNM | exact Ne.symm hNM), by kernel_rfl⟩⟩
      | exact ⟨_, _, ex_putw2 ⟨by ((with_reducible refine two_four zN ?_ ?_ hD) <;> first | exact rfl | omega | exact hNM | exact Ne.symm hNM), by kernel_rfl⟩⟩
  rintro a' W5 ⟨N, M, v, ⟨yN, yM, hF⟩, rfl⟩
  simp only [Act.put, List.setIfInBounds_toArray, List.set_cons_succ, List.set_cons_zero]
  have hB5 := below_on hB hF
  have cN := cell_at yN
  have cM := cell_at yM
  have hm1 := HM1.out
  have hm2 := HM2.out
  clear z0 z1 hB hVW HS hF
  go_wp2_with (first
    | (go_at_call 82; refine (HCMP.out _).mono ?_; rintro e w6 ⟨rfl, hb⟩; have hB6 := below_on hB5 hb; clear hb yN yM cN cM hB5)
    | (go_at_call 48; refine (seg_must_ok _ _).mono ?_; rintro e w7 ⟨rfl, rfl⟩)
    | (go_at_call 38; refine (sign64 _ _ _).mono ?_; rintro e w8 ⟨rfl, rfl⟩))
  go_ret
  exact ⟨rfl, hB6⟩
end Go.Proofs.YtbhfnfokihdjjaaGreatDoor

namespace Go.Proofs.YtbhfnfokihdjjaaGreatDoor
open Go.RowKit Go.BigFrame

set_option maxRecDepth 20000 in
set_option maxHeartbeats 4000000 in
theorem side_up (ax ay bx by_ PX : Int) (D1 : Nat) (PY : Int) (D2 : Nat) (p q c : Int)
    (HOF : Hd (∀ w, Calls Tryz.prog 83 #[.int .i64 ax] w fun e w' => e = .returned (.agg #[.bool (ng (ax)), .int .u64 (dg (ab (ax)) 0), .int .u64 (dg (ab (ax)) 1), .int .u64 (dg (ab (ax)) 2), .int .u64 (dg (ab (ax)) 3), .bool false, .int .u64 (dg (1) 0), .int .u64 (dg (1) 1), .int .u64 (dg (1) 2), .int .u64 (dg (1) 3)]) ∧ Below w.heap.size w w'))
    (HCMP : Hd (∀ w, Calls Tryz.prog 82 #[.agg #[.bool (ng (PX)), .int .u64 (dg (ab (PX)) 0), .int .u64 (dg (ab (PX)) 1), .int .u64 (dg (ab (PX)) 2), .int .u64 (dg (ab (PX)) 3), .bool false, .int .u64 (dg (D1) 0), .int .u64 (dg (D1) 1), .int .u64 (dg (D1) 2), .int .u64 (dg (D1) 3)], .agg #[.bool (ng (ax)), .int .u64 (dg (ab (ax)) 0), .int .u64 (dg (ab (ax)) 1), .int .u64 (dg (ab (ax)) 2), .int .u64 (dg (ab (ax)) 3), .bool false, .int .u64 (dg (1) 0), .int .u64 (dg (1) 1), .int .u64 (dg (1) 2), .int .u64 (dg (1) 3)]] w fun e w' => e = .returned (.tuple #[.int .i64 c, .int .i64 0]) ∧ Below w.heap.size w w'))
    (HC : Hd (-1 ≤ c ∧ c ≤ 1)) (HM : Hd (-1 ≤ -c * cmpI q 0 ∧ -c * cmpI q 0 ≤ 1))
    (hp : (p == 0) = true) (_hq : (q == 0) = false) (hp2 : wrap64 (bx - ax) = p) (hq2 : wrap64 (by_ - ay) = q) (w : World) :
    Calls Tryz.prog 50 #[.agg #[.int .i64 ax, .int .i64 ay, .int .i64 bx, .int .i64 by_], .agg #[.bool (ng (PX)), .int .u64 (dg (ab (PX)) 0), .int .u64 (dg (ab (PX)) 1), .int .u64 (dg (ab (PX)) 2), .int .u64 (dg (ab (PX)) 3), .bool false, .int .u64 (dg (D1) 0), .int .u64 (dg (D1) 1), .int .u64 (dg (D1) 2), .int .u64 (dg (D1) 3), .bool (ng (PY)), .int .u64 (dg (ab (PY)) 0), .int .u64 (dg (ab (PY)) 1), .int .u64 (dg (ab (PY)) 2), .int .u64 (dg (ab (PY)) 3), .bool false, .int .u64 (dg (D2) 0), .int .u64 (dg (D2) 1), .int .u64 (dg (D2) 2), .int .u64 (dg (D2) 3)]] w fun e w' => e = .returned (.int .i64 (-c * cmpI q 0)) ∧ Below w.heap.size w w' := by
  have HP2 := Hd.mk hp2
  have HQ2 := Hd.mk hq2
  clear hp2 hq2
  go_enter Tryz.func50, Tryz.ntmps50
  go_upto_region 1 with (fail)
  refine abs_wp (fun W => W.heap[w.heap.size]? = some (.cells #[.int .i64 ax, .int .i64 ay, .int .i64 bx, .int .i64 by_] 101 (0, 0)) ∧ W.heap[w.heap.size + 1]? = some (.cells #[.bool (ng (PX)), .int .u64 (dg (ab (PX)) 0), .int .u64 (dg (ab (PX)) 1), .int .u64 (dg (ab (PX)) 2), .int .u64 (dg (ab (PX)) 3), .bool false, .int .u64 (dg (D1) 0), .int .u64 (dg (D1) 1), .int .u64 (dg (D1) 2), .int .u64 (dg (D1) 3), .bool (ng (PY)), .int .u64 (dg (ab (PY)) 0), .int .u64 (dg (ab (PY)) 1), .int .u64 (dg (ab (PY)) 2), .int .u64 (dg (ab (PY)) 3), .bool false, .int .u64 (dg (D2) 0), .int .u64 (dg (D2) 1), .int .u64 (dg (D2) 2), .int .u64 (dg (D2) 3)] 46 (0, 0)) ∧ Below w.heap.size w W) ⟨heap_old (heap_new _ _) _, heap_at (by simp) _, by focus (repeat (first | (with_reducible exact Below.refl _ _) | (with_reducible assumption) | ((with_reducible refine Below.setCell ?_ ?_ _); rotate_left; (focus (first | omega | (simp; done) | (simp; omega)))) | ((with_reducible refine Below.alloc ?_ ?_ _); rotate_left; (focus (first | omega | (simp; done) | (simp; omega)))) | (with_reducible refine Below.drew ?_) | (refine below_on ?_ (by assumption))))⟩ fun W ⟨z0, z1, hB⟩ => ?_
  refine region_qt 19 (by kernel_rfl) (by kernel_rfl) fun X _ mk hmk hcl => ?_
  have c0 := mk_cell hmk z0
  simp only [List.take_succ_cons, List.take_zero, List.drop_succ_cons, List.drop_zero]
  repeat (go_big_quiet_step (skip))
  refine wpQuiet_nil ?_
  rintro _ ⟨x, rfl⟩
  clear c0
  have hx := hmk x
  clear hcl hmk
  generalize mk x = W1 at hx
  have y0 := heap_below hx z0
  have y1 := heap_below hx z1
  have hB1 := below_on hB hx
  clear hx z0 z1 hB
  simp only [HP2.out, HQ2.out]
  go_upto_region 3 with (fail)
  clear HP2 HQ2 hp _hq
  refine region_qt 12 (by kernel_rfl) (by kernel_rfl) fun X _ mk hmk hcl => ?_
  have c0 := mk_cell hmk y0
  have c1 := mk_cell hmk y1
  simp only [List.take_succ_cons, List.take_zero, List.drop_succ_cons, List.drop_zero]
  repeat (go_big_quiet_step (first | (go_at_call 83; exact (HOF.out _).mono fun e w' h => ⟨h.1, hcl _ _ h.2⟩) | (go_at_call 82; exact (HCMP.out _).mono fun e w' h => ⟨h.1, hcl _ _ h.2⟩)))
  refine wpQuiet_nil ?_
  rintro _ ⟨x, rfl⟩
  clear c0 c1
  have hx := hmk x
  clear hcl hmk
  generalize mk x = W2 at hx
  have hB2 := below_on hB1 hx
  have hm := HM.out
  have hc := HC.out
  clear hx y0 y1 hB1
  go_wp2_with (first
    | (go_at_call 48; refine (seg_must_ok _ _).mono ?_; rintro e w7 ⟨rfl, rfl⟩)
    | (go_at_call 38; refine (sign64 _ _ _).mono ?_; rintro e w8 ⟨rfl, rfl⟩))
  go_ret
  exact ⟨rfl, hB2⟩
set_option maxRecDepth 20000 in
set_option maxHeartbeats 4000000 in
theorem side_flat (ax ay bx by_ PX : Int) (D1 : Nat) (PY : Int) (D2 : Nat) (p q c : Int)
    (HOF : Hd (∀ w, Calls Tryz.prog 83 #[.int .i64 ay] w fun e w' => e = .returned (.agg #[.bool (ng (ay)), .int .u64 (dg (ab (ay)) 0), .int .u64 (dg (ab (ay)) 1), .int .u64 (dg (ab (ay)) 2), .int .u64 (dg (ab (ay)) 3), .bool false, .int .u64 (dg (1) 0), .int .u64 (dg (1) 1), .int .u64 (dg (1) 2), .int .u64 (dg (1) 3)]) ∧ Below w.heap.size w w'))
    (HCMP : Hd (∀ w, Calls Tryz.prog 82 #[.agg #[.bool (ng (PY)), .int .u64 (dg (ab (PY)) 0), .int .u64 (dg (ab (PY)) 1), .int .u64 (dg (ab (PY)) 2), .int .u64 (dg (ab (PY)) 3), .bool false, .int .u64 (dg (D2) 0), .int .u64 (dg (D2) 1), .int .u64 (dg (D2) 2), .int .u64 (dg (D2) 3)], .agg #[.bool (ng (ay)), .int .u64 (dg (ab (ay)) 0), .int .u64 (dg (ab (ay)) 1), .int .u64 (dg (ab (ay)) 2), .int .u64 (dg (ab (ay)) 3), .bool false, .int .u64 (dg (1) 0), .int .u64 (dg (1) 1), .int .u64 (dg (1) 2), .int .u64 (dg (1) 3)]] w fun e w' => e = .returned (.tuple #[.int .i64 c, .int .i64 0]) ∧ Below w.heap.size w w'))
    (HC : Hd (-1 ≤ c ∧ c ≤ 1)) (HM : Hd (-1 ≤ c * cmpI p 0 ∧ c * cmpI p 0 ≤ 1))
    (hp : (p == 0) = false) (hq : (q == 0) = true) (hp2 : wrap64 (bx - ax) = p) (hq2 : wrap64 (by_ - ay) = q) (w : World) :
    Calls Tryz.prog 50 #[.agg #[.int .i64 ax, .int .i64 ay, .int .i64 bx, .int .i64 by_], .agg #[.bool (ng (PX)), .int .u64 (dg (ab (PX)) 0), .int .u64 (dg (ab (PX)) 1), .int .u64 (dg (ab (PX)) 2), .int .u64 (dg (ab (PX)) 3), .bool false, .int .u64 (dg (D1) 0), .int .u64 (dg (D1) 1), .int .u64 (dg (D1) 2), .int .u64 (dg (D1) 3), .bool (ng (PY)), .int .u64 (dg (ab (PY)) 0), .int .u64 (dg (ab (PY)) 1), .int .u64 (dg (ab (PY)) 2), .int .u64 (dg (ab (PY)) 3), .bool false, .int .u64 (dg (D2) 0), .int .u64 (dg (D2) 1), .int .u64 (dg (D2) 2), .int .u64 (dg (D2) 3)]] w fun e w' => e = .returned (.int .i64 (c * cmpI p 0)) ∧ Below w.heap.size w w' := by
  have HP2 := Hd.mk hp2
  have HQ2 := Hd.mk hq2
  clear hp2 hq2
  go_enter Tryz.func50, Tryz.ntmps50
  go_upto_region 1 with (fail)
  refine abs_wp (fun W => W.heap[w.heap.size]? = some (.cells #[.int .i64 ax, .int .i64 ay, .int .i64 bx, .int .i64 by_] 101 (0, 0)) ∧ W.heap[w.heap.size + 1]? = some (.cells #[.bool (ng (PX)), .int .u64 (dg (ab (PX)) 0), .int .u64 (dg (ab (PX)) 1), .int .u64 (dg (ab (PX)) 2), .int .u64 (dg (ab (PX)) 3), .bool false, .int .u64 (dg (D1) 0), .int .u64 (dg (D1) 1), .int .u64 (dg (D1) 2), .int .u64 (dg (D1) 3), .bool (ng (PY)), .int .u64 (dg (ab (PY)) 0), .int .u64 (dg (ab (PY)) 1), .int .u64 (dg (ab (PY)) 2), .int .u64 (dg (ab (PY)) 3), .bool false, .int .u64 (dg (D2) 0), .int .u64 (dg (D2) 1), .int .u64 (dg (D2) 2), .int .u64 (dg (D2) 3)] 46 (0, 0)) ∧ Below w.heap.size w W) ⟨heap_old (heap_new _ _) _, heap_at (by simp) _, by focus (repeat (first | (with_reducible exact Below.refl _ _) | (with_reducible assumption) | ((with_reducible refine Below.setCell ?_ ?_ _); rotate_left; (focus (first | omega | (simp; done) | (simp; omega)))) | ((with_reducible refine Below.alloc ?_ ?_ _); rotate_left; (focus (first | omega | (simp; done) | (simp; omega)))) | (with_reducible refine Below.drew ?_) | (refine below_on ?_ (by assumption))))⟩ fun W ⟨z0, z1, hB⟩ => ?_
  refine region_qt 19 (by kernel_rfl) (by kernel_rfl) fun X _ mk hmk hcl => ?_
  have c0 := mk_cell hmk z0
  simp only [List.take_succ_cons, List.take_zero, List.drop_succ_cons, List.drop_zero]
  repeat (go_big_quiet_step (skip))
  refine wpQuiet_nil ?_
  rintro _ ⟨x, rfl⟩
  clear c0
  have hx := hmk x
  clear hcl hmk
  generalize mk x = W1 at hx
  have y0 := heap_below hx z0
  have y1 := heap_below hx z1
  have hB1 := below_on hB hx
  clear hx z0 z1 hB
  simp only [HP2.out, HQ2.out]
  go_upto_region 7 with (fail)
  clear HP2 HQ2 hp hq
  refine region_qt 12 (by kernel_rfl) (by kernel_rfl) fun X _ mk hmk hcl => ?_
  have c0 := mk_cell hmk y0
  have c1 := mk_cell hmk y1
  simp only [List.take_succ_cons, List.take_zero, List.drop_succ_cons, List.drop_zero]
  repeat (go_big_quiet_step (first | (go_at_call 83; exact (HOF.out _).mono fun e w' h => ⟨h.1, hcl _ _ h.2⟩) | (go_at_call 82; exact (HCMP.out _).mono fun e w' h => ⟨h.1, hcl _ _ h.2⟩)))
  refine wpQuiet_nil ?_
  rintro _ ⟨x, rfl⟩
  clear c0 c1
  have hx := hmk x
  clear hcl hmk
  generalize mk x = W2 at hx
  have hB2 := below_on hB1 hx
  have hm := HM.out
  have hc := HC.out
  clear hx y0 y1 hB1
  go_wp2_with (first
    | (go_at_call 48; refine (seg_must_ok _ _).mono ?_; rintro e w7 ⟨rfl, rfl⟩)
    | (go_at_call 38; refine (sign64 _ _ _).mono ?_; rintro e w8 ⟨rfl, rfl⟩))
  go_ret
  exact ⟨rfl, hB2⟩

theorem rt_int (n : Int) (h : -134217728 ≤ n ∧ n ≤ 134217728) : Rt 120 n 1 := ⟨Nat.one_pos, Nat.gcd_one_right _, by unfold ab; omega, by decide⟩
theorem zof_xor (s t : Bool) (a b : Nat) : zof (s != t) a * zof t b = zof s a * (b : Int) := by
  cases s <;> cases t <;> simp [zof, Int.neg_mul, Int.mul_neg]
/-- Where a line is, at an x: a fraction. -/
theorem cut_spec (PX : Int) (D1 : Nat) (f t : Int) (hX : Rt 96 PX D1) (hd : D1 < 2 ^ 64) (hf : -67108864 ≤ f ∧ f ≤ 67108864) (ht : -67108864 ≤ t ∧ t ≤ 67108864) (hne : t - f ≠ 0) :
    ∃ (C : Int) (E : Nat), Rt 256 C E ∧ C * ((D1 : Int) * (t - f)) = (PX - f * D1) * E ∧ ∀ w, Vars w → Calls Tryz.prog 84 #[.agg #[.bool (ng (PX)), .int .u64 (dg (ab (PX)) 0), .int .u64 (dg (ab (PX)) 1), .int .u64 (dg (ab (PX)) 2), .int .u64 (dg (ab (PX)) 3), .bool false, .int .u64 (dg (D1) 0), .int .u64 (dg (D1) 1), .int .u64 (dg (D1) 2), .int .u64 (dg (D1) 3)], .int .i64 f, .int .i64 t] w fun e w' => e = .returned (.agg #[.bool (ng (C)), .int .u64 (dg (ab (C)) 0), .int .u64 (dg (ab (C)) 1), .int .u64 (dg (ab (C)) 2), .int .u64 (dg (ab (C)) 3), .bool false, .int .u64 (dg (E) 0), .int .u64 (dg (E) 1), .int .u64 (dg (E) 2), .int .u64 (dg (E) 3)]) ∧ Below w.heap.size w w' := by
  have hX2 := hX.mono (show 96 ≤ 120 by decide)
  have hF := rt_int f (by omega)
  have hG := rt_int (t - f) (by omega)
  have hA0 : addN PX D1 (-f) 1 = PX - f * D1 := by unfold addN; rw [Int.neg_mul]; simp only [Int.natCast_one, Int.mul_one]; omega
  have hp0 : 0 < D1 * 1 := by have := hX.pos; omega
  have hab : ab (addN PX D1 (-f) 1) < 2 ^ 120 := by
    rw [hA0]
    have h1 := hX.nb
    have h2 : ab (f * D1) ≤ 67108864 * D1 := by rw [ab_mul, ab_nat]; exact Nat.mul_le_mul_right _ (by unfold ab; omega)
    have h3 : ab (PX - f * D1) ≤ ab PX + ab (f * D1) := by unfold ab; omega
    omega
  have hS : Rt 120 (rz (addN PX D1 (-f) 1) (D1 * 1)) (rd (addN PX D1 (-f) 1) (D1 * 1)) := Rt.red hp0 hab (by rw [Nat.mul_one]; exact hX2.db)
  have hsame := rz_same (addN PX D1 (-f) 1) hp0
  rw [hA0, Nat.mul_one] at hsame hS
  have hsub : ∀ w, Vars w → Calls Tryz.prog 114 #[.agg #[.bool (ng (PX)), .int .u64 (dg (ab (PX)) 0), .int .u64 (dg (ab (PX)) 1), .int .u64 (dg (ab (PX)) 2), .int .u64 (dg (ab (PX)) 3), .bool false, .int .u64 (dg (D1) 0), .int .u64 (dg (D1) 1), .int .u64 (dg (D1) 2), .int .u64 (dg (D1) 3)], .agg #[.bool (ng (f)), .int .u64 (dg (ab (f)) 0), .int .u64 (dg (ab (f)) 1), .int .u64 (dg (ab (f)) 2), .int .u64 (dg (ab (f)) 3), .bool false, .int .u64 (dg (1) 0), .int .u64 (dg (1) 1), .int .u64 (dg (1) 2), .int .u64 (dg (1) 3)]] w fun e w' => e = .returned (.tuple #[.agg #[.bool (ng (rz (PX - f * D1) D1)), .int .u64 (dg (ab (rz (PX - f * D1) D1)) 0), .int .u64 (dg (ab (rz (PX - f * D1) D1)) 1), .int .u64 (dg (ab (rz (PX - f * D1) D1)) 2), .int .u64 (dg (ab (rz (PX - f * D1) D1)) 3), .bool false, .int .u64 (dg (rd (PX - f * D1) D1) 0), .int .u64 (dg (rd (PX - f * D1) D1) 1), .int .u64 (dg (rd (PX - f * D1) D1) 2), .int .u64 (dg (rd (PX - f * D1) D1) 3)], .int .i64 0]) ∧ Below w.heap.size w w' := fun w hv => by
    have h := ratio_sub PX D1 f (-f) 1 rfl hX2 hF w hv
    rw [hA0, Nat.mul_one] at h
    exact h
  generalize rz (PX - f * D1) D1 = S at hsame hS hsub
  generalize rd (PX - f * D1) D1 = SD at hsame hS hsub
  have hdp : 0 < divD S SD (t - f) 1 := Nat.mul_pos hS.pos (ab_pos hne)
  have hQ : Rt 256 (rz (divN S SD (t - f) 1) (divD S SD (t - f) 1)) (rd (divN S SD (t - f) 1) (divD S SD (t - f) 1)) :=
    Rt.red hdp (div_room hS hG 256 (by decide)) (by unfold divD; exact mul_lt_pow hS.db hG.nb (by decide))
  have hq := rz_same (divN S SD (t - f) 1) hdp
  have hdiv := fun w hv => ratio_div S SD (t - f) 1 hS hG hne w hv
  refine ⟨_, _, hQ, ?_, fun w hv => cut_walk PX f t (t - f) D1 S SD _ _ ⟨fun n hn w => by subst hn; exact rat_of_v _ (by omega) (by omega) w⟩ ⟨fun w => ?_⟩ ⟨hsub⟩ ⟨hdiv⟩ w ⟨hv⟩⟩
  · refine cut_value (ag := (ab (t - f) : Int)) (n := divN S SD (t - f) 1) (SD := (SD : Int)) (S := S) (by have := ab_pos hne; omega) (by have := hS.pos; omega) hsame ?_ ?_
    · rw [← hq]
      unfold divD
      rw [Int.natCast_mul]
    · unfold divN
      have h := zof_xor (ng S) (ng (t - f)) (ab S * 1) (ab (t - f))
      rw [Nat.mul_one, zof_ng_ab, zof_ng_ab] at h
      rw [Nat.mul_one]
      exact h
  · have h := rat_of_v (t - f) (by omega) (by omega) w
    have e0 : wrap64 (t - f) = t - f := by unfold wrap64; omega
    have e : IntKind.i64.wrap (t - f) = t - f := by first | exact (IntWalk.i64_left _).trans e0 | exact (IntWalk.i64_left _).symm.trans e0 | (simp [IntKind.wrap]; omega)
    rw [e]
    exact h
theorem ratio_cmp_n (X : Int) (D : Nat) (Y : Int) (E : Nat) (h1 : Rt 256 X D) (h2 : Rt 256 Y E) (w : World) :
    Calls Tryz.prog 82 #[.agg #[.bool (ng (X)), .int .u64 (dg (ab (X)) 0), .int .u64 (dg (ab (X)) 1), .int .u64 (dg (ab (X)) 2), .int .u64 (dg (ab (X)) 3), .bool false, .int .u64 (dg (D) 0), .int .u64 (dg (D) 1), .int .u64 (dg (D) 2), .int .u64 (dg (D) 3)], .agg #[.bool (ng (Y)), .int .u64 (dg (ab (Y)) 0), .int .u64 (dg (ab (Y)) 1), .int .u64 (dg (ab (Y)) 2), .int .u64 (dg (ab (Y)) 3), .bool false, .int .u64 (dg (E) 0), .int .u64 (dg (E) 1), .int .u64 (dg (E) 2), .int .u64 (dg (E) 3)]] w fun e w' => e = .returned (.tuple #[.int .i64 (sgI (X * E - Y * D)), .int .i64 0]) ∧ Below w.heap.size w w' := by
  have h := rcmp_v (ng X, ab X) (false, D) (ng Y, ab Y) (false, E) ⟨h1.nb, h1.db, h1.ok⟩ ⟨h2.nb, h2.db, h2.ok⟩ _ (cmpR_v X D Y E) w
  exact h
/-- On which side of a segment a point is. -/
theorem line_side (ax ay bx by_ PX : Int) (D1 : Nat) (PY : Int) (D2 : Nat) (hs : segB ax ay bx by_ = true) (hp : Pt PX D1 PY D2) (w : World) (hV : Vars w) :
    Calls Tryz.prog 50 #[.agg #[.int .i64 ax, .int .i64 ay, .int .i64 bx, .int .i64 by_], .agg #[.bool (ng (PX)), .int .u64 (dg (ab (PX)) 0), .int .u64 (dg (ab (PX)) 1), .int .u64 (dg (ab (PX)) 2), .int .u64 (dg (ab (PX)) 3), .bool false, .int .u64 (dg (D1) 0), .int .u64 (dg (D1) 1), .int .u64 (dg (D1) 2), .int .u64 (dg (D1) 3), .bool (ng (PY)), .int .u64 (dg (ab (PY)) 0), .int .u64 (dg (ab (PY)) 1), .int .u64 (dg (ab (PY)) 2), .int .u64 (dg (ab (PY)) 3), .bool false, .int .u64 (dg (D2) 0), .int .u64 (dg (D2) 1), .int .u64 (dg (D2) 2), .int .u64 (dg (D2) 3)]] w fun e w' => e = .returned (.int .i64 (sideV ax ay (bx - ax) (by_ - ay) PX D1 PY D2)) ∧ Below w.heap.size w w' := by
  unfold segB at hs
  simp only [Bool.and_eq_true] at hs
  obtain ⟨ha, hb, hne⟩ := hs
  obtain ⟨⟨a1, a2⟩, a3, a4⟩ := node_range ha
  obtain ⟨⟨b1, b2⟩, b3, b4⟩ := node_range hb
  have hne2 : ¬ (bx - ax = 0 ∧ by_ - ay = 0) := by
    intro h
    have e1 : ax = bx := by omega
    have e2 : ay = by_ := by omega
    rw [e1, e2] at hne
    simp at hne
  have w1 : wrap64 (bx - ax) = bx - ax := by unfold wrap64; omega
  have w2 : wrap64 (by_ - ay) = by_ - ay := by unfold wrap64; omega
  have D1p : (0 : Int) < D1 := by have := hp.x.pos; omega
  have D2p : (0 : Int) < D2 := by have := hp.y.pos; omega
  have x256 := hp.x.mono (show 96 ≤ 256 by decide)
  have y256 := hp.y.mono (show 96 ≤ 256 by decide)
  unfold sideV
  by_cases hx : bx - ax = 0
  · have hy : by_ - ay ≠ 0 := fun h => hne2 ⟨hx, h⟩
    have hc := sgI_range (PX * 1 - ax * D1)
    have h := side_up ax ay bx by_ PX D1 PY D2 (bx - ax) (by_ - ay) (sgI (PX * 1 - ax * D1)) ⟨fun w => rat_of_v ax (by omega) (by omega) w⟩ ⟨fun w => ratio_cmp_n PX D1 ax 1 x256 ((rt_int ax (by omega)).mono (by decide)) w⟩ ⟨hc⟩
      ⟨by rw [cmpI_zero]; have := mul_range (x := -sgI (PX * 1 - ax * D1)) (y := sgI (by_ - ay)) (B := 1) (C := 1) (by omega) (sgI_range _); simpa using this⟩ (by rw [hx]; rfl) (by simpa using hy) w1 w2 w
    rw [cmpI_zero, side_upright (ay := ay) (Y := PY) D2p, ← hx] at h
    exact h
  · by_cases hy : by_ - ay = 0
    · have hc := sgI_range (PY * 1 - ay * D2)
      have h := side_flat ax ay bx by_ PX D1 PY D2 (bx - ax) (by_ - ay) (sgI (PY * 1 - ay * D2)) ⟨fun w => rat_of_v ay (by omega) (by omega) w⟩ ⟨fun w => ratio_cmp_n PY D2 ay 1 y256 ((rt_int ay (by omega)).mono (by decide)) w⟩ ⟨hc⟩
        ⟨by rw [cmpI_zero]; have := mul_range (x := sgI (PY * 1 - ay * D2)) (y := sgI (bx - ax)) (B := 1) (C := 1) (by omega) (sgI_range _); simpa using this⟩ (by simpa using hx) (by rw [hy]; rfl) w1 w2 w
      rw [cmpI_zero, side_level (ax := ax) (X := PX) (D2 := D2) D1p, ← hy] at h
      exact h
    · obtain ⟨C1, E1, q1, v1, k1⟩ := cut_spec PX D1 ax bx hp.x hp.dx ⟨a1, a2⟩ ⟨b1, b2⟩ hx
      obtain ⟨C2, E2, q2, v2, k2⟩ := cut_spec PY D2 ay by_ hp.y hp.dy ⟨a3, a4⟩ ⟨b3, b4⟩ hy
      have m1 := mul_range (x := sgI (C2 * E1 - C1 * E2)) (y := sgI (bx - ax)) (B := 1) (C := 1) (sgI_range _) (sgI_range _)
      have m2 := mul_range (x := sgI (C2 * E1 - C1 * E2) * sgI (bx - ax)) (y := sgI (by_ - ay)) (B := 1) (C := 1) (by simpa using m1) (sgI_range _)
      have h := side_reg ax ay bx by_ PX D1 PY D2 C1 E1 C2 E2 (bx - ax) (by_ - ay) (sgI (C2 * E1 - C1 * E2))
        ⟨by rintro z d f t Z E (⟨rfl, rfl, rfl, rfl, rfl, rfl⟩ | ⟨rfl, rfl, rfl, rfl, rfl, rfl⟩) w hv
            · exact k1 w hv
            · exact k2 w hv⟩
        ⟨fun w => ratio_cmp_n C2 E2 C1 E1 q2 q1 w⟩ ⟨by rw [cmpI_zero]; simpa using m1⟩ ⟨by rw [cmpI_zero, cmpI_zero]; simpa using m2⟩ (by simpa using hx) (by simpa using hy) w1 w2 w ⟨hV⟩
      rw [cmpI_zero, cmpI_zero, side_value (by have := q1.pos; omega) (by have := q2.pos; omega) D1p D2p v1 v2] at h
      exact h
end Go.Proofs.YtbhfnfokihdjjaaGreatDoor

namespace Go.Proofs.YtbhfnfokihdjjaaGreatDoor
open Go.RowKit Go.BigFrame

theorem clear_side {W : World} {b : Nat} {c : Array Value} {t : TypeId} (h : W.heap[b]? = some (.cells c t (0, 0))) (hs : c.size = 1) :
    Calls Tryz.prog 47 #[.pointer (some ⟨b, 0, none⟩)] W fun e w' => e = .returned (.tuple #[]) ∧ Laid1 b (.int .i64 0) W w' := by
  have hf := frozen_at h
  obtain ⟨c0, rfl⟩ : ∃ c0, c = #[c0] := Array.size_eq_one_iff.1 hs
  have h0 : W.cell? ⟨b, 0, none⟩ = some c0 := cell_at h 0
  go_enter Tryz.func47, Tryz.ntmps47
  go_wp2
  go_end0
  exact ⟨rfl, laid_one ..⟩
set_option maxRecDepth 20000 in
set_option maxHeartbeats 2000000 in
theorem seg_side_ok (ax ay bx by_ PX : Int) (D1 : Nat) (PY : Int) (D2 : Nat) (hs : segB ax ay bx by_ = true) (hp : Pt PX D1 PY D2) (w : World) (hV : Vars w) :
    Calls Tryz.prog 19 #[.agg #[.int .i64 ax, .int .i64 ay, .int .i64 bx, .int .i64 by_], .agg #[.bool (ng (PX)), .int .u64 (dg (ab (PX)) 0), .int .u64 (dg (ab (PX)) 1), .int .u64 (dg (ab (PX)) 2), .int .u64 (dg (ab (PX)) 3), .bool false, .int .u64 (dg (D1) 0), .int .u64 (dg (D1) 1), .int .u64 (dg (D1) 2), .int .u64 (dg (D1) 3), .bool (ng (PY)), .int .u64 (dg (ab (PY)) 0), .int .u64 (dg (ab (PY)) 1), .int .u64 (dg (ab (PY)) 2), .int .u64 (dg (ab (PY)) 3), .bool false, .int .u64 (dg (D2) 0), .int .u64 (dg (D2) 1), .int .u64 (dg (D2) 2), .int .u64 (dg (D2) 3)]] w fun e w' => e = .returned (.tuple #[.int .i64 (sideV ax ay (bx - ax) (by_ - ay) PX D1 PY D2), .int .i64 0]) ∧ Below w.heap.size w w' := by
  have hmf : ∀ (fn : Fn) (first cap : Array Value) (w : World), (Instr.makeFunc fn first cap).run Tryz.prog w = .ok (.func fn first cap) w := fun _ _ _ _ => rfl
  have HC : Hd (∀ w, Calls Tryz.prog 14 #[.agg #[.int .i64 ax, .int .i64 ay, .int .i64 bx, .int .i64 by_]] w fun e w' => e = .returned (.int .i64 0) ∧ Below w.heap.size w w') := ⟨fun w => by
    have h := seg_check ax ay bx by_ w
    rw [hs] at h
    exact h⟩
  have HR := Hd.mk (fun w => pright_ok PX D1 PY D2 hp w)
  obtain ⟨v, hv⟩ : ∃ v, v = sideV ax ay (bx - ax) (by_ - ay) PX D1 PY D2 := ⟨_, rfl⟩
  have HL : Hd (∀ w, Vars w → Calls Tryz.prog 50 #[.agg #[.int .i64 ax, .int .i64 ay, .int .i64 bx, .int .i64 by_], .agg #[.bool (ng (PX)), .int .u64 (dg (ab (PX)) 0), .int .u64 (dg (ab (PX)) 1), .int .u64 (dg (ab (PX)) 2), .int .u64 (dg (ab (PX)) 3), .bool false, .int .u64 (dg (D1) 0), .int .u64 (dg (D1) 1), .int .u64 (dg (D1) 2), .int .u64 (dg (D1) 3), .bool (ng (PY)), .int .u64 (dg (ab (PY)) 0), .int .u64 (dg (ab (PY)) 1), .int .u64 (dg (ab (PY)) 2), .int .u64 (dg (ab (PY)) 3), .bool false, .int .u64 (dg (D2) 0), .int .u64 (dg (D2) 1), .int .u64 (dg (D2) 2), .int .u64 (dg (D2) 3)]] w fun e w' => e = .returned (.int .i64 v) ∧ Below w.heap.size w w') := ⟨fun w hw => by rw [hv]; exact line_side ax ay bx by_ PX D1 PY D2 hs hp w hw⟩
  have HV := Hd.mk hV
  rw [← hv]
  clear hs hp hv hV
  go_enter_defers Tryz.func19, Tryz.ntmps19
  go_upto_region 2 with (fail)
  refine abs_wp (fun W => W.heap[w.heap.size]? = some (.cells #[.int .i64 ax, .int .i64 ay, .int .i64 bx, .int .i64 by_] 25 (0, 0)) ∧ W.heap[w.heap.size + 1]? = some (.cells #[.bool (ng (PX)), .int .u64 (dg (ab (PX)) 0), .int .u64 (dg (ab (PX)) 1), .int .u64 (dg (ab (PX)) 2), .int .u64 (dg (ab (PX)) 3), .bool false, .int .u64 (dg (D1) 0), .int .u64 (dg (D1) 1), .int .u64 (dg (D1) 2), .int .u64 (dg (D1) 3), .bool (ng (PY)), .int .u64 (dg (ab (PY)) 0), .int .u64 (dg (ab (PY)) 1), .int .u64 (dg (ab (PY)) 2), .int .u64 (dg (ab (PY)) 3), .bool false, .int .u64 (dg (D2) 0), .int .u64 (dg (D2) 1), .int .u64 (dg (D2) 2), .int .u64 (dg (D2) 3)] 46 (0, 0)) ∧ W.heap[w.heap.size + 1 + 1]? = some (.cells #[.int .i64 0] 3 (0, 0)) ∧ W.heap[w.heap.size + 1 + 1 + 1]? = some (.cells #[.int .i64 0] 26 (0, 0)) ∧ Below w.heap.size w W) ⟨heap_old (heap_old (heap_old (heap_new w _) _) _) _, heap_old (heap_old (heap_at (by simp) _) _) _, heap_old (heap_at (by simp) _) _, heap_at (by simp) _, by focus (repeat (first | (with_reducible exact Below.refl _ _) | (with_reducible assumption) | ((with_reducible refine Below.setCell ?_ ?_ _); rotate_left; (focus (first | omega | (simp; done) | (simp; omega)))) | ((with_reducible refine Below.alloc ?_ ?_ _); rotate_left; (focus (first | omega | (simp; done) | (simp; omega)))) | (with_reducible refine Below.drew ?_) | (refine below_on ?_ (by assumption))))⟩ fun W ⟨z0, z1, z2, z3, hB⟩ => ?_
  have c0 := cell_at z0
  go_wp2_with fail
  refine (HC.out _).mono ?_
  rintro e w2 ⟨rfl, hb⟩
  have y0 := heap_below hb z0
  have y1 := heap_below hb z1
  have y2 := heap_below hb z2
  have y3 := heap_below hb z3
  have hB1 := below_on hB hb
  clear hb z0 z1 z2 z3 hB c0
  go_wp2_with (refine wpList_load_point (.tmp 3) rfl rfl _ rfl y1 rfl ?_)
  refine (HR.out _).mono ?_
  rintro e w3 ⟨rfl, hb⟩
  have z0 := heap_below hb y0
  have z1 := heap_below hb y1
  have z2 := heap_below hb y2
  have z3 := heap_below hb y3
  have hB2 := below_on hB1 hb
  clear hb y0 y1 y2 y3 hB1
  have c0 := cell_at z0
  go_wp2_with (first
    | (refine wpList_load_point (.tmp 3) rfl rfl _ rfl z1 rfl ?_)
    | (go_at_call 48; refine (seg_must_ok _ _).mono ?_; rintro e w4 ⟨rfl, rfl⟩)
    | (go_at_call 50; refine (HL.out _ (HV.out.below hB2)).mono ?_; rintro e w5 ⟨rfl, hb⟩; have x2 := heap_below hb z2; have x3 := heap_below hb z3; have hB3 := below_on hB2 hb; have k2 := cell_at x2; have g2 := frozen_at x2; have k3 := cell_at x3; have g3 := frozen_at x3; clear hb z0 z1 z2 z3 hB2 c0))
  refine leaves_cons (f := 46) (args := #[.pointer (some ⟨w.heap.size + 1 + 1 + 1, 0, none⟩), .func (.func 47) #[] #[.pointer (some ⟨w.heap.size + 1 + 1, 0, none⟩)]]) (by simp) (by simp [go_sem]) ?_
  refine (seg_caught_idle _ _ _).mono ?_
  rintro e u' w6 ⟨rfl, rfl, rfl⟩
  refine abs_leaves (OutI w (w.heap.size + 1 + 1) (w.heap.size + 1 + 1 + 1) v 0) (outI_of (by omega) (by omega) x2 x3 rfl rfl hB3 (laid_one ..) (laid_one ..)) fun W ⟨y1, y2, hB⟩ => ?_
  have c1 := cell_at y1
  have c2 := cell_at y2
  simp [Leaves, settle, results, Tryz.results19, go_sem, c1, c2]
  exact hB
/-- Is a point on a segment? -/
def onB (ax ay bx by_ PX : Int) (D1 : Nat) (PY : Int) (D2 : Nat) : Bool :=
  (sideV ax ay (bx - ax) (by_ - ay) PX D1 PY D2 == 0) && decide (pntC ax 1 ay 1 PX D1 PY D2 * pntC PX D1 PY D2 bx 1 by_ 1 ≥ 0)
theorem pntC_range (X1 : Int) (D1 : Nat) (Y1 : Int) (E1 : Nat) (X2 : Int) (D2 : Nat) (Y2 : Int) (E2 : Nat) : -1 ≤ pntC X1 D1 Y1 E1 X2 D2 Y2 E2 ∧ pntC X1 D1 Y1 E1 X2 D2 Y2 E2 ≤ 1 := by
  unfold pntC
  split
  · exact sgI_range _
  · exact sgI_range _
theorem node_pt {x y : Int} (h : nodeB x y = true) : Pt x 1 y 1 := by
  obtain ⟨⟨a1, a2⟩, a3, a4⟩ := node_range h
  exact ⟨⟨Nat.one_pos, Nat.gcd_one_right _, by unfold ab; omega, by decide⟩, ⟨Nat.one_pos, Nat.gcd_one_right _, by unfold ab; omega, by decide⟩, by decide, by decide⟩
set_option maxRecDepth 20000 in
set_option maxHeartbeats 4000000 in
theorem seg_on_ok (ax ay bx by_ PX : Int) (D1 : Nat) (PY : Int) (D2 : Nat) (hs : segB ax ay bx by_ = true) (hp : Pt PX D1 PY D2) (w : World) (hV : Vars w) :
    Calls Tryz.prog 20 #[.agg #[.int .i64 ax, .int .i64 ay, .int .i64 bx, .int .i64 by_], .agg #[.bool (ng (PX)), .int .u64 (dg (ab (PX)) 0), .int .u64 (dg (ab (PX)) 1), .int .u64 (dg (ab (PX)) 2), .int .u64 (dg (ab (PX)) 3), .bool false, .int .u64 (dg (D1) 0), .int .u64 (dg (D1) 1), .int .u64 (dg (D1) 2), .int .u64 (dg (D1) 3), .bool (ng (PY)), .int .u64 (dg (ab (PY)) 0), .int .u64 (dg (ab (PY)) 1), .int .u64 (dg (ab (PY)) 2), .int .u64 (dg (ab (PY)) 3), .bool false, .int .u64 (dg (D2) 0), .int .u64 (dg (D2) 1), .int .u64 (dg (D2) 2), .int .u64 (dg (D2) 3)]] w fun e w' => e = .returned (.tuple #[.bool (onB ax ay bx by_ PX D1 PY D2), .int .i64 0]) ∧ Below w.heap.size w w' := by
  have hs2 := hs
  unfold segB at hs2
  simp only [Bool.and_eq_true] at hs2
  obtain ⟨ha, hb2, _⟩ := hs2
  unfold onB
  have r1 := pntC_range ax 1 ay 1 PX D1 PY D2
  have r2 := pntC_range PX D1 PY D2 bx 1 by_ 1
  obtain ⟨c1, hc1⟩ : ∃ c, c = pntC ax 1 ay 1 PX D1 PY D2 := ⟨_, rfl⟩
  obtain ⟨c2, hc2⟩ : ∃ c, c = pntC PX D1 PY D2 bx 1 by_ 1 := ⟨_, rfl⟩
  obtain ⟨v, hv⟩ : ∃ v, v = sideV ax ay (bx - ax) (by_ - ay) PX D1 PY D2 := ⟨_, rfl⟩
  have HS : Hd (∀ w, Vars w → Calls Tryz.prog 19 #[.agg #[.int .i64 ax, .int .i64 ay, .int .i64 bx, .int .i64 by_], .agg #[.bool (ng (PX)), .int .u64 (dg (ab (PX)) 0), .int .u64 (dg (ab (PX)) 1), .int .u64 (dg (ab (PX)) 2), .int .u64 (dg (ab (PX)) 3), .bool false, .int .u64 (dg (D1) 0), .int .u64 (dg (D1) 1), .int .u64 (dg (D1) 2), .int .u64 (dg (D1) 3), .bool (ng (PY)), .int .u64 (dg (ab (PY)) 0), .int .u64 (dg (ab (PY)) 1), .int .u64 (dg (ab (PY)) 2), .int .u64 (dg (ab (PY)) 3), .bool false, .int .u64 (dg (D2) 0), .int .u64 (dg (D2) 1), .int .u64 (dg (D2) 2), .int .u64 (dg (D2) 3)]] w fun e w' => e = .returned (.tuple #[.int .i64 v, .int .i64 0]) ∧ Below w.heap.size w w') := ⟨fun w hw => by rw [hv]; exact seg_side_ok ax ay bx by_ PX D1 PY D2 hs hp w hw⟩
  have HA := Hd.mk (fun w => point_of_ok ax ay ha w)
  have HB := Hd.mk (fun w => point_of_ok bx by_ hb2 w)
  have HC1 : Hd (∀ w, Calls Tryz.prog 52 #[.agg #[.bool (ng (ax)), .int .u64 (dg (ab (ax)) 0), .int .u64 (dg (ab (ax)) 1), .int .u64 (dg (ab (ax)) 2), .int .u64 (dg (ab (ax)) 3), .bool false, .int .u64 (dg (1) 0), .int .u64 (dg (1) 1), .int .u64 (dg (1) 2), .int .u64 (dg (1) 3), .bool (ng (ay)), .int .u64 (dg (ab (ay)) 0), .int .u64 (dg (ab (ay)) 1), .int .u64 (dg (ab (ay)) 2), .int .u64 (dg (ab (ay)) 3), .bool false, .int .u64 (dg (1) 0), .int .u64 (dg (1) 1), .int .u64 (dg (1) 2), .int .u64 (dg (1) 3)], .agg #[.bool (ng (PX)), .int .u64 (dg (ab (PX)) 0), .int .u64 (dg (ab (PX)) 1), .int .u64 (dg (ab (PX)) 2), .int .u64 (dg (ab (PX)) 3), .bool false, .int .u64 (dg (D1) 0), .int .u64 (dg (D1) 1), .int .u64 (dg (D1) 2), .int .u64 (dg (D1) 3), .bool (ng (PY)), .int .u64 (dg (ab (PY)) 0), .int .u64 (dg (ab (PY)) 1), .int .u64 (dg (ab (PY)) 2), .int .u64 (dg (ab (PY)) 3), .bool false, .int .u64 (dg (D2) 0), .int .u64 (dg (D2) 1), .int .u64 (dg (D2) 2), .int .u64 (dg (D2) 3)]] w fun e w' => e = .returned (.tuple #[.int .i64 c1, .int .i64 0]) ∧ Below w.heap.size w w') := ⟨fun w => by rw [hc1]; exact point_cmp_ok ax 1 ay 1 PX D1 PY D2 (node_pt ha) hp w⟩
  have HC2 : Hd (∀ w, Calls Tryz.prog 52 #[.agg #[.bool (ng (PX)), .int .u64 (dg (ab (PX)) 0), .int .u64 (dg (ab (PX)) 1), .int .u64 (dg (ab (PX)) 2), .int .u64 (dg (ab (PX)) 3), .bool false, .int .u64 (dg (D1) 0), .int .u64 (dg (D1) 1), .int .u64 (dg (D1) 2), .int .u64 (dg (D1) 3), .bool (ng (PY)), .int .u64 (dg (ab (PY)) 0), .int .u64 (dg (ab (PY)) 1), .int .u64 (dg (ab (PY)) 2), .int .u64 (dg (ab (PY)) 3), .bool false, .int .u64 (dg (D2) 0), .int .u64 (dg (D2) 1), .int .u64 (dg (D2) 2), .int .u64 (dg (D2) 3)], .agg #[.bool (ng (bx)), .int .u64 (dg (ab (bx)) 0), .int .u64 (dg (ab (bx)) 1), .int .u64 (dg (ab (bx)) 2), .int .u64 (dg (ab (bx)) 3), .bool false, .int .u64 (dg (1) 0), .int .u64 (dg (1) 1), .int .u64 (dg (1) 2), .int .u64 (dg (1) 3), .bool (ng (by_)), .int .u64 (dg (ab (by_)) 0), .int .u64 (dg (ab (by_)) 1), .int .u64 (dg (ab (by_)) 2), .int .u64 (dg (ab (by_)) 3), .bool false, .int .u64 (dg (1) 0), .int .u64 (dg (1) 1), .int .u64 (dg (1) 2), .int .u64 (dg (1) 3)]] w fun e w' => e = .returned (.tuple #[.int .i64 c2, .int .i64 0]) ∧ Below w.heap.size w w') := ⟨fun w => by rw [hc2]; exact point_cmp_ok PX D1 PY D2 bx 1 by_ 1 hp (node_pt hb2) w⟩
  rw [← hc1] at r1 ⊢
  rw [← hc2] at r2 ⊢
  rw [← hv]
  have hm := mul_range (x := c1) (y := c2) (B := 1) (C := 1) r1 r2
  have HM : Hd (-1 ≤ c1 * c2 ∧ c1 * c2 ≤ 1) := ⟨by simpa using hm⟩
  have HV := Hd.mk hV
  clear hs hp hv hV hc1 hc2 r1 r2 hm ha hb2
  go_enter Tryz.func20, Tryz.ntmps20
  go_upto_region 1 with (fail)
  refine abs_wp (fun W => W.heap[w.heap.size]? = some (.cells #[.int .i64 ax, .int .i64 ay, .int .i64 bx, .int .i64 by_] 25 (0, 0)) ∧ W.heap[w.heap.size + 1]? = some (.cells #[.bool (ng (PX)), .int .u64 (dg (ab (PX)) 0), .int .u64 (dg (ab (PX)) 1), .int .u64 (dg (ab (PX)) 2), .int .u64 (dg (ab (PX)) 3), .bool false, .int .u64 (dg (D1) 0), .int .u64 (dg (D1) 1), .int .u64 (dg (D1) 2), .int .u64 (dg (D1) 3), .bool (ng (PY)), .int .u64 (dg (ab (PY)) 0), .int .u64 (dg (ab (PY)) 1), .int .u64 (dg (ab (PY)) 2), .int .u64 (dg (ab (PY)) 3), .bool false, .int .u64 (dg (D2) 0), .int .u64 (dg (D2) 1), .int .u64 (dg (D2) 2), .int .u64 (dg (D2) 3)] 46 (0, 0)) ∧ Below w.heap.size w W) ⟨heap_old (heap_new w _) _, heap_at (by simp) _, by focus (repeat (first | (with_reducible exact Below.refl _ _) | (with_reducible assumption) | ((with_reducible refine Below.setCell ?_ ?_ _); rotate_left; (focus (first | omega | (simp; done) | (simp; omega)))) | ((with_reducible refine Below.alloc ?_ ?_ _); rotate_left; (focus (first | omega | (simp; done) | (simp; omega)))) | (with_reducible refine Below.drew ?_) | (refine below_on ?_ (by assumption))))⟩ fun W ⟨z0, z1, hB⟩ => ?_
  have c0 := cell_at z0
  go_wp2_with (refine wpList_load_point (.tmp 3) rfl rfl _ rfl z1 rfl ?_)
  refine (HS.out _ (HV.out.below hB)).mono ?_
  rintro e w2 ⟨rfl, hb⟩
  have y0 := heap_below hb z0
  have y1 := heap_below hb z1
  have hB1 := below_on hB hb
  clear hb z0 z1 hB c0
  by_cases hv0 : v = 0
  · have h1 : (v == 0) = true := by simpa using hv0
    have h2 : (v != 0) = false := by simpa using hv0
    clear hv0
    have c0 := cell_at y0
    go_wp2_with fail
    refine (HA.out _).mono ?_
    rintro e w3 ⟨rfl, hb⟩
    have z0 := heap_below hb y0
    have z1 := heap_below hb y1
    have hB2 := below_on hB1 hb
    have s1 := lt_of_block z1
    clear hb y0 y1 hB1 c0
    go_upto_region 5 with (refine wpList_store_block rfl 46 (.tmp 8) (.tmp 33) rfl w3.heap.size #[.bool (ng (ax)), .int .u64 (dg (ab (ax)) 0), .int .u64 (dg (ab (ax)) 1), .int .u64 (dg (ab (ax)) 2), .int .u64 (dg (ab (ax)) 3), .bool false, .int .u64 (dg (1) 0), .int .u64 (dg (1) 1), .int .u64 (dg (1) 2), .int .u64 (dg (1) 3), .bool (ng (ay)), .int .u64 (dg (ab (ay)) 0), .int .u64 (dg (ab (ay)) 1), .int .u64 (dg (ab (ay)) 2), .int .u64 (dg (ab (ay)) 3), .bool false, .int .u64 (dg (1) 0), .int .u64 (dg (1) 1), .int .u64 (dg (1) 2), .int .u64 (dg (1) 3)] rfl rfl (heap_new _ _) rfl (by kernel_rfl) rfl ?_; rintro W3 ⟨k1, k2, k3⟩)
    refine abs_wp (fun W => W.heap[w.heap.size]? = some (.cells #[.int .i64 ax, .int .i64 ay, .int .i64 bx, .int .i64 by_] 25 (0, 0)) ∧ W.heap[w.heap.size + 1]? = some (.cells #[.bool (ng (PX)), .int .u64 (dg (ab (PX)) 0), .int .u64 (dg (ab (PX)) 1), .int .u64 (dg (ab (PX)) 2), .int .u64 (dg (ab (PX)) 3), .bool false, .int .u64 (dg (D1) 0), .int .u64 (dg (D1) 1), .int .u64 (dg (D1) 2), .int .u64 (dg (D1) 3), .bool (ng (PY)), .int .u64 (dg (ab (PY)) 0), .int .u64 (dg (ab (PY)) 1), .int .u64 (dg (ab (PY)) 2), .int .u64 (dg (ab (PY)) 3), .bool false, .int .u64 (dg (D2) 0), .int .u64 (dg (D2) 1), .int .u64 (dg (D2) 2), .int .u64 (dg (D2) 3)] 46 (0, 0)) ∧ W.heap[w3.heap.size]? = some (.cells #[.bool (ng (ax)), .int .u64 (dg (ab (ax)) 0), .int .u64 (dg (ab (ax)) 1), .int .u64 (dg (ab (ax)) 2), .int .u64 (dg (ab (ax)) 3), .bool false, .int .u64 (dg (1) 0), .int .u64 (dg (1) 1), .int .u64 (dg (1) 2), .int .u64 (dg (1) 3), .bool (ng (ay)), .int .u64 (dg (ab (ay)) 0), .int .u64 (dg (ab (ay)) 1), .int .u64 (dg (ab (ay)) 2), .int .u64 (dg (ab (ay)) 3), .bool false, .int .u64 (dg (1) 0), .int .u64 (dg (1) 1), .int .u64 (dg (1) 2), .int .u64 (dg (1) 3)] 46 (0, 0)) ∧ Below w.heap.size w W) ⟨k2 _ _ (by omega) (heap_old z0 _), k2 _ _ (by omega) (heap_old z1 _), k1, (Below.alloc hB2 hB2.size _).trans (k3 _ hB2.size)⟩ fun W ⟨y0, y1, y2, hB3⟩ => ?_
    clear k1 k2 k3
    generalize (Value.tuple #[.agg #[.bool (ng (ax)), .int .u64 (dg (ab (ax)) 0), .int .u64 (dg (ab (ax)) 1), .int .u64 (dg (ab (ax)) 2), .int .u64 (dg (ab (ax)) 3), .bool false, .int .u64 (dg (1) 0), .int .u64 (dg (1) 1), .int .u64 (dg (1) 2), .int .u64 (dg (1) 3), .bool (ng (ay)), .int .u64 (dg (ab (ay)) 0), .int .u64 (dg (ab (ay)) 1), .int .u64 (dg (ab (ay)) 2), .int .u64 (dg (ab (ay)) 3), .bool false, .int .u64 (dg (1) 0), .int .u64 (dg (1) 1), .int .u64 (dg (1) 2), .int .u64 (dg (1) 3)], .int .i64 0]) = T1
    generalize (Value.agg #[.bool (ng (ax)), .int .u64 (dg (ab (ax)) 0), .int .u64 (dg (ab (ax)) 1), .int .u64 (dg (ab (ax)) 2), .int .u64 (dg (ab (ax)) 3), .bool false, .int .u64 (dg (1) 0), .int .u64 (dg (1) 1), .int .u64 (dg (1) 2), .int .u64 (dg (1) 3), .bool (ng (ay)), .int .u64 (dg (ab (ay)) 0), .int .u64 (dg (ab (ay)) 1), .int .u64 (dg (ab (ay)) 2), .int .u64 (dg (ab (ay)) 3), .bool false, .int .u64 (dg (1) 0), .int .u64 (dg (1) 1), .int .u64 (dg (1) 2), .int .u64 (dg (1) 3)]) = V1
    obtain ⟨b3, hb3⟩ : ∃ b, b = w3.heap.size := ⟨_, rfl⟩
    rw [← hb3] at y2 s1 ⊢
    clear z0 z1 hB2 hb3
    have c0 := cell_at y0
    go_wp2_with fail
    refine (HB.out _).mono ?_
    rintro e w4 ⟨rfl, hb⟩
    have z1 := heap_below hb y1
    have z2 := heap_below hb y2
    have hB4 := below_on hB3 hb
    have s2 := lt_of_block z2
    clear hb y0 y1 y2 hB3 c0
    go_upto_region 6 with (refine wpList_store_block rfl 46 (.tmp 10) (.tmp 39) rfl w4.heap.size #[.bool (ng (bx)), .int .u64 (dg (ab (bx)) 0), .int .u64 (dg (ab (bx)) 1), .int .u64 (dg (ab (bx)) 2), .int .u64 (dg (ab (bx)) 3), .bool false, .int .u64 (dg (1) 0), .int .u64 (dg (1) 1), .int .u64 (dg (1) 2), .int .u64 (dg (1) 3), .bool (ng (by_)), .int .u64 (dg (ab (by_)) 0), .int .u64 (dg (ab (by_)) 1), .int .u64 (dg (ab (by_)) 2), .int .u64 (dg (ab (by_)) 3), .bool false, .int .u64 (dg (1) 0), .int .u64 (dg (1) 1), .int .u64 (dg (1) 2), .int .u64 (dg (1) 3)] rfl rfl (heap_new _ _) rfl (by kernel_rfl) rfl ?_; rintro W4 ⟨k1, k2, k3⟩)
    refine abs_wp (fun W => W.heap[w.heap.size + 1]? = some (.cells #[.bool (ng (PX)), .int .u64 (dg (ab (PX)) 0), .int .u64 (dg (ab (PX)) 1), .int .u64 (dg (ab (PX)) 2), .int .u64 (dg (ab (PX)) 3), .bool false, .int .u64 (dg (D1) 0), .int .u64 (dg (D1) 1), .int .u64 (dg (D1) 2), .int .u64 (dg (D1) 3), .bool (ng (PY)), .int .u64 (dg (ab (PY)) 0), .int .u64 (dg (ab (PY)) 1), .int .u64 (dg (ab (PY)) 2), .int .u64 (dg (ab (PY)) 3), .bool false, .int .u64 (dg (D2) 0), .int .u64 (dg (D2) 1), .int .u64 (dg (D2) 2), .int .u64 (dg (D2) 3)] 46 (0, 0)) ∧ W.heap[b3]? = some (.cells #[.bool (ng (ax)), .int .u64 (dg (ab (ax)) 0), .int .u64 (dg (ab (ax)) 1), .int .u64 (dg (ab (ax)) 2), .int .u64 (dg (ab (ax)) 3), .bool false, .int .u64 (dg (1) 0), .int .u64 (dg (1) 1), .int .u64 (dg (1) 2), .int .u64 (dg (1) 3), .bool (ng (ay)), .int .u64 (dg (ab (ay)) 0), .int .u64 (dg (ab (ay)) 1), .int .u64 (dg (ab (ay)) 2), .int .u64 (dg (ab (ay)) 3), .bool false, .int .u64 (dg (1) 0), .int .u64 (dg (1) 1), .int .u64 (dg (1) 2), .int .u64 (dg (1) 3)] 46 (0, 0)) ∧ W.heap[w4.heap.size]? = some (.cells #[.bool (ng (bx)), .int .u64 (dg (ab (bx)) 0), .int .u64 (dg (ab (bx)) 1), .int .u64 (dg (ab (bx)) 2), .int .u64 (dg (ab (bx)) 3), .bool false, .int .u64 (dg (1) 0), .int .u64 (dg (1) 1), .int .u64 (dg (1) 2), .int .u64 (dg (1) 3), .bool (ng (by_)), .int .u64 (dg (ab (by_)) 0), .int .u64 (dg (ab (by_)) 1), .int .u64 (dg (ab (by_)) 2), .int .u64 (dg (ab (by_)) 3), .bool false, .int .u64 (dg (1) 0), .int .u64 (dg (1) 1), .int .u64 (dg (1) 2), .int .u64 (dg (1) 3)] 46 (0, 0)) ∧ Below w.heap.size w W) ⟨k2 _ _ (by omega) (heap_old z1 _), k2 _ _ (by have := lt_of_block z2; omega) (heap_old z2 _), k1, (Below.alloc hB4 hB4.size _).trans (k3 _ hB4.size)⟩ fun W ⟨y1, y2, y3, hB5⟩ => ?_
    clear k1 k2 k3
    generalize (Value.tuple #[.agg #[.bool (ng (bx)), .int .u64 (dg (ab (bx)) 0), .int .u64 (dg (ab (bx)) 1), .int .u64 (dg (ab (bx)) 2), .int .u64 (dg (ab (bx)) 3), .bool false, .int .u64 (dg (1) 0), .int .u64 (dg (1) 1), .int .u64 (dg (1) 2), .int .u64 (dg (1) 3), .bool (ng (by_)), .int .u64 (dg (ab (by_)) 0), .int .u64 (dg (ab (by_)) 1), .int .u64 (dg (ab (by_)) 2), .int .u64 (dg (ab (by_)) 3), .bool false, .int .u64 (dg (1) 0), .int .u64 (dg (1) 1), .int .u64 (dg (1) 2), .int .u64 (dg (1) 3)], .int .i64 0]) = T2
    generalize (Value.agg #[.bool (ng (bx)), .int .u64 (dg (ab (bx)) 0), .int .u64 (dg (ab (bx)) 1), .int .u64 (dg (ab (bx)) 2), .int .u64 (dg (ab (bx)) 3), .bool false, .int .u64 (dg (1) 0), .int .u64 (dg (1) 1), .int .u64 (dg (1) 2), .int .u64 (dg (1) 3), .bool (ng (by_)), .int .u64 (dg (ab (by_)) 0), .int .u64 (dg (ab (by_)) 1), .int .u64 (dg (ab (by_)) 2), .int .u64 (dg (ab (by_)) 3), .bool false, .int .u64 (dg (1) 0), .int .u64 (dg (1) 1), .int .u64 (dg (1) 2), .int .u64 (dg (1) 3)]) = V2
    obtain ⟨b4, hb4⟩ : ∃ b, b = w4.heap.size := ⟨_, rfl⟩
    rw [← hb4] at y3 s2 ⊢
    clear z1 z2 hB4 hb4
    go_wp2_with (first | (refine wpList_load_point (.tmp 8) rfl rfl _ rfl y2 rfl ?_) | (refine wpList_load_point (.tmp 3) rfl rfl _ rfl y1 rfl ?_))
    refine (HC1.out _).mono ?_
    rintro e w5 ⟨rfl, hb⟩
    have z1 := heap_below hb y1
    have z3 := heap_below hb y3
    have hB6 := below_on hB5 hb
    clear hb y1 y2 y3 hB5
    go_wp2_with (first | (refine wpList_load_point (.tmp 3) rfl rfl _ rfl z1 rfl ?_) | (refine wpList_load_point (.tmp 10) rfl rfl _ rfl z3 rfl ?_))
    refine (HC2.out _).mono ?_
    rintro e w6 ⟨rfl, hb⟩
    have hB7 := below_on hB6 hb
    have hm := HM.out
    clear hb z1 z3 hB6
    go_wp2
    exact bodyPost_ret (by simp [results, Tryz.results20, go_sem] <;> rfl) rfl ⟨by rw [h1]; rfl, hB7⟩
  · have h1 : (v == 0) = false := by simpa using hv0
    have h2 : (v != 0) = true := by simpa using hv0
    clear hv0
    go_wp2
    exact bodyPost_ret (by simp [results, Tryz.results20, go_sem] <;> rfl) rfl ⟨by rw [h1]; rfl, hB1⟩
end Go.Proofs.YtbhfnfokihdjjaaGreatDoor
