/-
  Plain: a point by its signs and magnitudes that may be is one by its numbers. Conditions stand in each theorem.
-/
import Derived.Test.YtfchmikbebdflaaGreatDoorBk
import Derived.Test.YtfchmikbebdflaaGreatDoorSg10
import Derived.Test.YtfchmikbebdflaaGreatDoorWg1
namespace Go.Proofs.YtfchmikbebdflaaGreatDoor
open Go.RowKit Go.BigFrame

theorem load_point {W : World} {b : Nat} {cs : Array Value} {t : TypeId} {f : Nat × Nat} (h : W.heap[b]? = some (.cells cs t f)) (hs : cs.size = 20) : (loadVar 93 ⟨b, 0, none⟩).run Tryz.prog W = .ok (.agg cs) W :=
  run_loadVar_row W b t _ cs f _ h Tryz.underlying93 rfl (by rw [hs]; kernel_rfl)
theorem loadAt_point {W : World} {b : Nat} {cs : Array Value} {t : TypeId} {f : Nat × Nat} (h : W.heap[b]? = some (.cells cs t f)) (hs : cs.size = 20) : (Instr.loadAt 93 (.pointer (some ⟨b, 0, none⟩))).run Tryz.prog W = .ok (.agg cs) W := by
  simp only [Instr.loadAt, Instr.sureAddr, Sem.run_bind, Sem.run_pure, Result.andThen_ok, load_point h hs]
/-- A point that may be. -/
structure Pt (X : Int) (D : Nat) (Y : Int) (E : Nat) : Prop where
  x : Rt 96 X D
  y : Rt 96 Y E
  dx : D < 2 ^ 64
  dy : E < 2 ^ 64
theorem fits_true {a b : Nat} (ha : a < 2 ^ 96) (hb : b < 2 ^ 64) : fitsB a b = true := (fits_iff (lt_pow_of ha (by decide)) (lt_pow_of hb (by decide))).2 ⟨ha, hb⟩
theorem pright_ok (X : Int) (D : Nat) (Y : Int) (E : Nat) (h : Pt X D Y E) (w : World) :
    Calls Tryz.prog 67 #[.agg #[.bool (ng (X)), .int .u64 (dg (ab (X)) 0), .int .u64 (dg (ab (X)) 1), .int .u64 (dg (ab (X)) 2), .int .u64 (dg (ab (X)) 3), .bool false, .int .u64 (dg (D) 0), .int .u64 (dg (D) 1), .int .u64 (dg (D) 2), .int .u64 (dg (D) 3), .bool (ng (Y)), .int .u64 (dg (ab (Y)) 0), .int .u64 (dg (ab (Y)) 1), .int .u64 (dg (ab (Y)) 2), .int .u64 (dg (ab (Y)) 3), .bool false, .int .u64 (dg (E) 0), .int .u64 (dg (E) 1), .int .u64 (dg (E) 2), .int .u64 (dg (E) 3)]] w fun e w' => e = .returned (.int .i64 0) ∧ Below w.heap.size w w' := by
  have r1 := h.x.mono (show 96 ≤ 256 by decide)
  have r2 := h.y.mono (show 96 ≤ 256 by decide)
  have g := pright_any (ng X, ab X) (false, D) (ng Y, ab Y) (false, E) r1.nb r1.db r2.nb r2.db true true ⟨fun _ => r1.ok, fun _ => rfl⟩ ⟨fun _ => r2.ok, fun _ => rfl⟩ w
  have f1 : fitsB (ab X) D = true := fits_true h.x.nb h.dx
  have f2 : fitsB (ab Y) E = true := fits_true h.y.nb h.dy
  simp only [f1, f2, Bool.and_self, if_true] at g
  exact g
/-- How two points stand. -/
def pntC (X1 : Int) (D1 : Nat) (Y1 : Int) (E1 : Nat) (X2 : Int) (D2 : Nat) (Y2 : Int) (E2 : Nat) : Int :=
  if sgI (X1 * D2 - X2 * D1) == 0 then sgI (Y1 * E2 - Y2 * E1) else sgI (X1 * D2 - X2 * D1)
theorem cmpR_v (X1 : Int) (D1 : Nat) (X2 : Int) (D2 : Nat) : cmpR (ng X1, ab X1) (false, D1) (ng X2, ab X2) (false, D2) = sgI (X1 * D2 - X2 * D1) := by
  unfold cmpR
  show sgI (zof (ng X1) (ab X1) * zof false D2 - zof (ng X2) (ab X2) * zof false D1) = _
  rw [zof_ng_ab, zof_ng_ab]
  rfl
end Go.Proofs.YtfchmikbebdflaaGreatDoor

namespace Go.Proofs.YtfchmikbebdflaaGreatDoor
open Go.RowKit Go.BigFrame

theorem ex_putw2 {T : Array Value} {ds : List Deferred} {G : (Nat → Value) → Act} {R : Prop} (h : R ∧ (Act.mk T ds = G (fun i => T.getD i undef))) : ∃ v : Nat → Value, R ∧ (Act.mk T ds = G v) := ⟨_, h⟩
theorem heap_twoW (W : World) (o o2 : Obj) : ((W.alloc o).alloc o2).heap[W.heap.size + 1]? = some o2 := heap_at (by simp) _
theorem range_of {W : World} {b : Nat} {C : Array Value} {t : TypeId} {f : Nat × Nat} (h : W.heap[b]? = some (.cells C t f)) (o : Nat) (l : List Value) (hl : ∀ j v, l[j]? = some v → C[o + j]? = some v) : W.rangeAt b o l := fun j v hv => (cell_at h _).trans (hl j v hv)
/-- Two fresh fractions are laid. -/
def Two (W : World) (N M : Nat) (C1 : Int) (E1 : Nat) (C2 : Int) (E2 : Nat) (W' : World) : Prop :=
  W'.heap[N]? = some (.cells #[.bool (ng (C1)), .int .u64 (dg (ab (C1)) 0), .int .u64 (dg (ab (C1)) 1), .int .u64 (dg (ab (C1)) 2), .int .u64 (dg (ab (C1)) 3), .bool false, .int .u64 (dg (E1) 0), .int .u64 (dg (E1) 1), .int .u64 (dg (E1) 2), .int .u64 (dg (E1) 3)] 91 (0, 0)) ∧ W'.heap[M]? = some (.cells #[.bool (ng (C2)), .int .u64 (dg (ab (C2)) 0), .int .u64 (dg (ab (C2)) 1), .int .u64 (dg (ab (C2)) 2), .int .u64 (dg (ab (C2)) 3), .bool false, .int .u64 (dg (E2) 0), .int .u64 (dg (E2) 1), .int .u64 (dg (E2) 2), .int .u64 (dg (E2) 3)] 91 (0, 0)) ∧ Below W.heap.size W W'
theorem two_five {W wd : World} {A B : Nat} {c e : Array Value} {C1 : Int} {E1 : Nat} {C2 : Int} {E2 : Nat} (zA : wd.heap[A]? = some (.cells c 91 (0, 0))) (hc : c.size = 10) (zB : wd.heap[B]? = some (.cells e 91 (0, 0))) (he : e.size = 10) (hAB : A ≠ B) (hA : W.heap.size ≤ A) (hB : W.heap.size ≤ B) (hD : Below W.heap.size W wd) :
    Two W A B C1 E1 C2 E2 ((((((((((((((((((((wd.setCell ⟨A, 0, none⟩ (.bool (ng C1))).setCell ⟨A, 1, none⟩ (.int .u64 (dg (ab C1) 0))).setCell ⟨A, 2, none⟩ (.int .u64 (dg (ab C1) 1))).setCell ⟨A, 3, none⟩ (.int .u64 (dg (ab C1) 2))).setCell ⟨A, 4, none⟩ (.int .u64 (dg (ab C1) 3))).setCell ⟨A, 5, none⟩ (.bool false)).setCell ⟨A, 6, none⟩ (.int .u64 (dg E1 0))).setCell ⟨A, 7, none⟩ (.int .u64 (dg E1 1))).setCell ⟨A, 8, none⟩ (.int .u64 (dg E1 2))).setCell ⟨A, 9, none⟩ (.int .u64 (dg E1 3))).setCell ⟨B, 0, none⟩ (.bool (ng C2))).setCell ⟨B, 1, none⟩ (.int .u64 (dg (ab C2) 0))).setCell ⟨B, 2, none⟩ (.int .u64 (dg (ab C2) 1))).setCell ⟨B, 3, none⟩ (.int .u64 (dg (ab C2) 2))).setCell ⟨B, 4, none⟩ (.int .u64 (dg (ab C2) 3))).setCell ⟨B, 5, none⟩ (.bool false)).setCell ⟨B, 6, none⟩ (.int .u64 (dg E2 0))).setCell ⟨B, 7, none⟩ (.int .u64 (dg E2 1))).setCell ⟨B, 8, none⟩ (.int .u64 (dg E2 2))).setCell ⟨B, 9, none⟩ (.int .u64 (dg E2 3))) := by
  obtain ⟨l1, l2, l3⟩ := laid_10 A wd (.bool (ng C1)) (.int .u64 (dg (ab C1) 0)) (.int .u64 (dg (ab C1) 1)) (.int .u64 (dg (ab C1) 2)) (.int .u64 (dg (ab C1) 3)) (.bool false) (.int .u64 (dg E1 0)) (.int .u64 (dg E1 1)) (.int .u64 (dg E1 2)) (.int .u64 (dg E1 3))
  obtain ⟨m1, m2, m3⟩ := laid_10 B ((((((((((wd.setCell ⟨A, 0, none⟩ (.bool (ng C1))).setCell ⟨A, 1, none⟩ (.int .u64 (dg (ab C1) 0))).setCell ⟨A, 2, none⟩ (.int .u64 (dg (ab C1) 1))).setCell ⟨A, 3, none⟩ (.int .u64 (dg (ab C1) 2))).setCell ⟨A, 4, none⟩ (.int .u64 (dg (ab C1) 3))).setCell ⟨A, 5, none⟩ (.bool false)).setCell ⟨A, 6, none⟩ (.int .u64 (dg E1 0))).setCell ⟨A, 7, none⟩ (.int .u64 (dg E1 1))).setCell ⟨A, 8, none⟩ (.int .u64 (dg E1 2))).setCell ⟨A, 9, none⟩ (.int .u64 (dg E1 3))) (.bool (ng C2)) (.int .u64 (dg (ab C2) 0)) (.int .u64 (dg (ab C2) 1)) (.int .u64 (dg (ab C2) 2)) (.int .u64 (dg (ab C2) 3)) (.bool false) (.int .u64 (dg E2 0)) (.int .u64 (dg E2 1)) (.int .u64 (dg E2 2)) (.int .u64 (dg E2 3))
  exact ⟨m2 _ _ hAB (l1 zA hc), m1 (l2 _ _ (Ne.symm hAB) zB) he, hD.trans ((l3 _ hA).trans (m3 _ hB))⟩
theorem two_one {W wd : World} {C1 : Int} {E1 : Nat} {C2 : Int} {E2 : Nat} (hD : Below W.heap.size W wd) :
    Two W wd.heap.size (wd.heap.size + 1) C1 E1 C2 E2 ((wd.alloc (.cells #[.bool (ng (C1)), .int .u64 (dg (ab (C1)) 0), .int .u64 (dg (ab (C1)) 1), .int .u64 (dg (ab (C1)) 2), .int .u64 (dg (ab (C1)) 3), .bool false, .int .u64 (dg (E1) 0), .int .u64 (dg (E1) 1), .int .u64 (dg (E1) 2), .int .u64 (dg (E1) 3)] 91)).alloc (.cells #[.bool (ng (C2)), .int .u64 (dg (ab (C2)) 0), .int .u64 (dg (ab (C2)) 1), .int .u64 (dg (ab (C2)) 2), .int .u64 (dg (ab (C2)) 3), .bool false, .int .u64 (dg (E2) 0), .int .u64 (dg (E2) 1), .int .u64 (dg (E2) 2), .int .u64 (dg (E2) 3)] 91)) :=
  ⟨heap_old (heap_new _ _) _, heap_twoW _ _ _, Below.alloc (Below.alloc hD hD.size _) (Nat.le_trans hD.size (by simp)) _⟩
theorem two_two {W wd : World} {C1 : Int} {E1 : Nat} {C2 : Int} {E2 : Nat} (hD : Below W.heap.size W wd) :
    Two W (wd.heap.size + 1) wd.heap.size C1 E1 C2 E2 ((wd.alloc (.cells #[.bool (ng (C2)), .int .u64 (dg (ab (C2)) 0), .int .u64 (dg (ab (C2)) 1), .int .u64 (dg (ab (C2)) 2), .int .u64 (dg (ab (C2)) 3), .bool false, .int .u64 (dg (E2) 0), .int .u64 (dg (E2) 1), .int .u64 (dg (E2) 2), .int .u64 (dg (E2) 3)] 91)).alloc (.cells #[.bool (ng (C1)), .int .u64 (dg (ab (C1)) 0), .int .u64 (dg (ab (C1)) 1), .int .u64 (dg (ab (C1)) 2), .int .u64 (dg (ab (C1)) 3), .bool false, .int .u64 (dg (E1) 0), .int .u64 (dg (E1) 1), .int .u64 (dg (E1) 2), .int .u64 (dg (E1) 3)] 91)) :=
  ⟨heap_twoW _ _ _, heap_old (heap_new _ _) _, Below.alloc (Below.alloc hD hD.size _) (Nat.le_trans hD.size (by simp)) _⟩
theorem size_tower (wd : World) (A : Nat) (C1 : Int) (E1 : Nat) : ((((((((((wd.setCell ⟨A, 0, none⟩ (.bool (ng C1))).setCell ⟨A, 1, none⟩ (.int .u64 (dg (ab C1) 0))).setCell ⟨A, 2, none⟩ (.int .u64 (dg (ab C1) 1))).setCell ⟨A, 3, none⟩ (.int .u64 (dg (ab C1) 2))).setCell ⟨A, 4, none⟩ (.int .u64 (dg (ab C1) 3))).setCell ⟨A, 5, none⟩ (.bool false)).setCell ⟨A, 6, none⟩ (.int .u64 (dg E1 0))).setCell ⟨A, 7, none⟩ (.int .u64 (dg E1 1))).setCell ⟨A, 8, none⟩ (.int .u64 (dg E1 2))).setCell ⟨A, 9, none⟩ (.int .u64 (dg E1 3))).heap.size = wd.heap.size := by simp
theorem two_three {W wd : World} {A : Nat} {c : Array Value} {C1 : Int} {E1 : Nat} {C2 : Int} {E2 : Nat} (zA : wd.heap[A]? = some (.cells c 91 (0, 0))) (hc : c.size = 10) (hA : W.heap.size ≤ A) (hD : Below W.heap.size W wd) :
    Two W A wd.heap.size C1 E1 C2 E2 (((((((((((wd.setCell ⟨A, 0, none⟩ (.bool (ng C1))).setCell ⟨A, 1, none⟩ (.int .u64 (dg (ab C1) 0))).setCell ⟨A, 2, none⟩ (.int .u64 (dg (ab C1) 1))).setCell ⟨A, 3, none⟩ (.int .u64 (dg (ab C1) 2))).setCell ⟨A, 4, none⟩ (.int .u64 (dg (ab C1) 3))).setCell ⟨A, 5, none⟩ (.bool false)).setCell ⟨A, 6, none⟩ (.int .u64 (dg E1 0))).setCell ⟨A, 7, none⟩ (.int .u64 (dg E1 1))).setCell ⟨A, 8, none⟩ (.int .u64 (dg E1 2))).setCell ⟨A, 9, none⟩ (.int .u64 (dg E1 3))).alloc (.cells #[.bool (ng (C2)), .int .u64 (dg (ab (C2)) 0), .int .u64 (dg (ab (C2)) 1), .int .u64 (dg (ab (C2)) 2), .int .u64 (dg (ab (C2)) 3), .bool false, .int .u64 (dg (E2) 0), .int .u64 (dg (E2) 1), .int .u64 (dg (E2) 2), .int .u64 (dg (E2) 3)] 91)) := by
  obtain ⟨l1, l2, l3⟩ := laid_10 A wd (.bool (ng C1)) (.int .u64 (dg (ab C1) 0)) (.int .u64 (dg (ab C1) 1)) (.int .u64 (dg (ab C1) 2)) (.int .u64 (dg (ab C1) 3)) (.bool false) (.int .u64 (dg E1 0)) (.int .u64 (dg E1 1)) (.int .u64 (dg E1 2)) (.int .u64 (dg E1 3))
  have hB := hD.trans (l3 _ hA)
  exact ⟨heap_old (l1 zA hc) _, heap_at (size_tower wd A C1 E1) _, Below.alloc hB hB.size _⟩
theorem two_four {W wd : World} {A : Nat} {c : Array Value} {C1 : Int} {E1 : Nat} {C2 : Int} {E2 : Nat} (zA : wd.heap[A]? = some (.cells c 91 (0, 0))) (hc : c.size = 10) (hA : W.heap.size ≤ A) (hD : Below W.heap.size W wd) :
    Two W wd.heap.size A C1 E1 C2 E2 (((((((((((wd.setCell ⟨A, 0, none⟩ (.bool (ng C2))).setCell ⟨A, 1, none⟩ (.int .u64 (dg (ab C2) 0))).setCell ⟨A, 2, none⟩ (.int .u64 (dg (ab C2) 1))).setCell ⟨A, 3, none⟩ (.int .u64 (dg (ab C2) 2))).setCell ⟨A, 4, none⟩ (.int .u64 (dg (ab C2) 3))).setCell ⟨A, 5, none⟩ (.bool false)).setCell ⟨A, 6, none⟩ (.int .u64 (dg E2 0))).setCell ⟨A, 7, none⟩ (.int .u64 (dg E2 1))).setCell ⟨A, 8, none⟩ (.int .u64 (dg E2 2))).setCell ⟨A, 9, none⟩ (.int .u64 (dg E2 3))).alloc (.cells #[.bool (ng (C1)), .int .u64 (dg (ab (C1)) 0), .int .u64 (dg (ab (C1)) 1), .int .u64 (dg (ab (C1)) 2), .int .u64 (dg (ab (C1)) 3), .bool false, .int .u64 (dg (E1) 0), .int .u64 (dg (E1) 1), .int .u64 (dg (E1) 2), .int .u64 (dg (E1) 3)] 91)) := by
  obtain ⟨l1, l2, l3⟩ := laid_10 A wd (.bool (ng C2)) (.int .u64 (dg (ab C2) 0)) (.int .u64 (dg (ab C2) 1)) (.int .u64 (dg (ab C2) 2)) (.int .u64 (dg (ab C2) 3)) (.bool false) (.int .u64 (dg E2 0)) (.int .u64 (dg E2 1)) (.int .u64 (dg E2 2)) (.int .u64 (dg E2 3))
  have hB := hD.trans (l3 _ hA)
  exact ⟨heap_at (size_tower wd A C2 E2) _, heap_old (l1 zA hc) _, Below.alloc hB hB.size _⟩
end Go.Proofs.YtfchmikbebdflaaGreatDoor

namespace Go.Proofs.YtfchmikbebdflaaGreatDoor

theorem sgI_range (z : Int) : -1 ≤ sgI z ∧ sgI z ≤ 1 := by unfold sgI; split <;> (try split) <;> omega
theorem sgI_pos {z : Int} (h : 0 < z) : sgI z = 1 := by unfold sgI; rw [if_neg (by omega), if_neg (by omega)]
theorem sgI_neg (z : Int) : sgI (-z) = -sgI z := by unfold sgI; split <;> (try split) <;> (try split) <;> (try split) <;> omega
theorem sgI_zero : sgI 0 = 0 := rfl
theorem sgI_mul (a b : Int) : sgI (a * b) = sgI a * sgI b := by
  have hpos : ∀ x y : Int, 0 < x → 0 < y → sgI (x * y) = sgI x * sgI y := fun x y hx hy => by rw [sgI_pos hx, sgI_pos hy, sgI_pos (Int.mul_pos hx hy)]; rfl
  rcases Int.lt_trichotomy a 0 with ha | rfl | ha
  · rcases Int.lt_trichotomy b 0 with hb | rfl | hb
    · have := hpos (-a) (-b) (by omega) (by omega)
      rw [sgI_neg, sgI_neg, Int.neg_mul_neg, Int.neg_mul_neg] at this
      exact this
    · rw [Int.mul_zero, sgI_zero, Int.mul_zero]
    · have := hpos (-a) b (by omega) hb
      rw [sgI_neg, Int.neg_mul, sgI_neg, Int.neg_mul] at this
      omega
  · rw [Int.zero_mul, sgI_zero, Int.zero_mul]
  · rcases Int.lt_trichotomy b 0 with hb | rfl | hb
    · have := hpos a (-b) ha (by omega)
      rw [sgI_neg, Int.mul_neg, sgI_neg, Int.mul_neg] at this
      omega
    · rw [Int.mul_zero, sgI_zero, Int.mul_zero]
    · exact hpos a b ha hb
theorem sgI_sgn (z : Int) : sgI z = sgn z := by unfold sgI sgn; split <;> (try split) <;> (try split) <;> (try split) <;> omega
theorem cmpI_zero (p : Int) : cmpI p 0 = sgI p := by unfold cmpI sgI; split <;> (try split) <;> (try split) <;> (try split) <;> omega
/-- On which side of a line from (ax, ay), so far to (dx, dy), the point X by D1, Y by D2 is. -/
def sideV (ax ay dx dy X : Int) (D1 : Nat) (Y : Int) (D2 : Nat) : Int := sgI (dx * ((Y - ay * D2) * D1) - dy * ((X - ax * D1) * D2))
/-- Where a line is, by the quotient. -/
theorem cut_value {S C X f g : Int} {D SD E n : Int} {ag : Int} (hg : 0 < ag) (hSD : 0 < SD) (h1 : S * D = (X - f * D) * SD) (h2 : C * (SD * ag) = n * E) (h3 : n * g = S * ag) : C * (D * g) = (X - f * D) * E := by
  have e1 : (C * (D * g)) * (SD * ag) = ((X - f * D) * E) * (SD * ag) := by
    calc (C * (D * g)) * (SD * ag) = (C * (SD * ag)) * (D * g) := by ac_rfl
      _ = (n * E) * (D * g) := by rw [h2]
      _ = (n * g) * (E * D) := by ac_rfl
      _ = (S * ag) * (E * D) := by rw [h3]
      _ = (S * D) * (E * ag) := by ac_rfl
      _ = ((X - f * D) * SD) * (E * ag) := by rw [h1]
      _ = ((X - f * D) * E) * (SD * ag) := by ac_rfl
  exact Int.eq_of_mul_eq_mul_right (Int.ne_of_gt (Int.mul_pos hSD hg)) e1
/-- Two fractions of the way, held against one another. -/
theorem side_value {C1 E1 C2 E2 u v D1 D2 dx dy : Int} (hE1 : 0 < E1) (hE2 : 0 < E2) (hD1 : 0 < D1) (hD2 : 0 < D2) (h1 : C1 * (D1 * dx) = u * E1) (h2 : C2 * (D2 * dy) = v * E2) :
    sgI (C2 * E1 - C1 * E2) * sgI dx * sgI dy = sgI (dx * (v * D1) - dy * (u * D2)) := by
  have e : (dx * (v * D1) - dy * (u * D2)) * (E1 * E2) = (C2 * E1 - C1 * E2) * dx * dy * (D1 * D2) := by
    rw [Int.sub_mul, Int.sub_mul, Int.sub_mul, Int.sub_mul]
    have a1 : dx * (v * D1) * (E1 * E2) = C2 * E1 * dx * dy * (D1 * D2) := by
      calc dx * (v * D1) * (E1 * E2) = (v * E2) * (dx * D1 * E1) := by ac_rfl
        _ = (C2 * (D2 * dy)) * (dx * D1 * E1) := by rw [h2]
        _ = C2 * E1 * dx * dy * (D1 * D2) := by ac_rfl
    have a2 : dy * (u * D2) * (E1 * E2) = C1 * E2 * dx * dy * (D1 * D2) := by
      calc dy * (u * D2) * (E1 * E2) = (u * E1) * (dy * D2 * E2) := by ac_rfl
        _ = (C1 * (D1 * dx)) * (dy * D2 * E2) := by rw [h1]
        _ = C1 * E2 * dx * dy * (D1 * D2) := by ac_rfl
    rw [a1, a2]
  have hs := congrArg sgI e
  rw [sgI_mul, sgI_mul E1, sgI_pos hE1, sgI_pos hE2, sgI_mul _ (D1 * D2), sgI_mul D1, sgI_pos hD1, sgI_pos hD2, sgI_mul _ dy, sgI_mul _ dx] at hs
  omega
theorem side_upright {X ax D1 D2 dy ay Y : Int} (hD2 : 0 < D2) : -sgI (X * 1 - ax * D1) * sgI dy = sgI (0 * ((Y - ay * D2) * D1) - dy * ((X - ax * D1) * D2)) := by
  rw [Int.zero_mul, Int.zero_sub, sgI_neg, sgI_mul, sgI_mul, sgI_pos hD2, Int.mul_one, Int.mul_one, Int.neg_mul, Int.mul_comm]
theorem side_level {X ax D1 D2 dx ay Y : Int} (hD1 : 0 < D1) : sgI (Y * 1 - ay * D2) * sgI dx = sgI (dx * ((Y - ay * D2) * D1) - 0 * ((X - ax * D1) * D2)) := by
  rw [Int.zero_mul, Int.sub_zero, sgI_mul, sgI_mul, sgI_pos hD1, Int.mul_one, Int.mul_one, Int.mul_comm]
end Go.Proofs.YtfchmikbebdflaaGreatDoor

namespace Go.Proofs.YtfchmikbebdflaaGreatDoor
open Go.RowKit Go.BigFrame

theorem rt_int (n : Int) (h : -134217728 ≤ n ∧ n ≤ 134217728) : Rt 120 n 1 := ⟨Nat.one_pos, Nat.gcd_one_right _, by unfold ab; omega, by decide⟩
theorem zof_xor (s t : Bool) (a b : Nat) : zof (s != t) a * zof t b = zof s a * (b : Int) := by
  cases s <;> cases t <;> simp [zof, Int.neg_mul, Int.mul_neg]
end Go.Proofs.YtfchmikbebdflaaGreatDoor

namespace Go.Proofs.YtfchmikbebdflaaGreatDoor
open Go.RowKit Go.BigFrame

/-- Is a point on a segment? -/
def onB (ax ay bx by_ PX : Int) (D1 : Nat) (PY : Int) (D2 : Nat) : Bool :=
  (sideV ax ay (bx - ax) (by_ - ay) PX D1 PY D2 == 0) && decide (pntC ax 1 ay 1 PX D1 PY D2 * pntC PX D1 PY D2 bx 1 by_ 1 ≥ 0)
theorem pntC_range (X1 : Int) (D1 : Nat) (Y1 : Int) (E1 : Nat) (X2 : Int) (D2 : Nat) (Y2 : Int) (E2 : Nat) : -1 ≤ pntC X1 D1 Y1 E1 X2 D2 Y2 E2 ∧ pntC X1 D1 Y1 E1 X2 D2 Y2 E2 ≤ 1 := by
  unfold pntC
  split
  · exact sgI_range _
  · exact sgI_range _
theorem node_pt {x y : Int} (h : nodeB x y = true) : Pt x 1 y 1 := by
  obtain ⟨⟨a1, a2⟩, a3, a4⟩ := node_range h
  exact ⟨⟨Nat.one_pos, Nat.gcd_one_right _, by unfold ab; omega, by decide⟩, ⟨Nat.one_pos, Nat.gcd_one_right _, by unfold ab; omega, by decide⟩, by decide, by decide⟩
end Go.Proofs.YtfchmikbebdflaaGreatDoor

namespace Go.Proofs.YtfchmikbebdflaaGreatDoor
open Go.RowKit Go.BigFrame
theorem okR_parts {p q : Bool × Nat} (h : okR p q) : ng (zof p.1 p.2) = p.1 ∧ ab (zof p.1 p.2) = p.2 ∧ q.1 = false ∧ 0 < q.2 ∧ Nat.gcd p.2 q.2 = 1 := by
  obtain ⟨h1, h2, h3, h4⟩ := h
  refine ⟨rat_ng h1, ab_zof _ _, ?_, ?_, h4⟩
  · obtain ⟨s, n⟩ := q
    cases s
    · rfl
    · simp [zof] at h3
      omega
  · obtain ⟨s, n⟩ := q
    cases s
    · simpa [zof] using h3
    · simp [zof] at h3
      omega
/-- The cells of such a point. -/
theorem pnt_value {p q r s : Bool × Nat} (h1 : okR p q) (h2 : okR r s) :
    (#[.bool p.1, .int .u64 (dg (p.2) 0), .int .u64 (dg (p.2) 1), .int .u64 (dg (p.2) 2), .int .u64 (dg (p.2) 3), .bool q.1, .int .u64 (dg (q.2) 0), .int .u64 (dg (q.2) 1), .int .u64 (dg (q.2) 2), .int .u64 (dg (q.2) 3), .bool r.1, .int .u64 (dg (r.2) 0), .int .u64 (dg (r.2) 1), .int .u64 (dg (r.2) 2), .int .u64 (dg (r.2) 3), .bool s.1, .int .u64 (dg (s.2) 0), .int .u64 (dg (s.2) 1), .int .u64 (dg (s.2) 2), .int .u64 (dg (s.2) 3)] : Array Value) = #[.bool (ng (zof p.1 p.2)), .int .u64 (dg (ab (zof p.1 p.2)) 0), .int .u64 (dg (ab (zof p.1 p.2)) 1), .int .u64 (dg (ab (zof p.1 p.2)) 2), .int .u64 (dg (ab (zof p.1 p.2)) 3), .bool false, .int .u64 (dg (q.2) 0), .int .u64 (dg (q.2) 1), .int .u64 (dg (q.2) 2), .int .u64 (dg (q.2) 3), .bool (ng (zof r.1 r.2)), .int .u64 (dg (ab (zof r.1 r.2)) 0), .int .u64 (dg (ab (zof r.1 r.2)) 1), .int .u64 (dg (ab (zof r.1 r.2)) 2), .int .u64 (dg (ab (zof r.1 r.2)) 3), .bool false, .int .u64 (dg (s.2) 0), .int .u64 (dg (s.2) 1), .int .u64 (dg (s.2) 2), .int .u64 (dg (s.2) 3)] := by
  obtain ⟨a1, a2, a3, _, _⟩ := okR_parts h1
  obtain ⟨b1, b2, b3, _, _⟩ := okR_parts h2
  rw [a1, a2, a3, b1, b2, b3]
theorem pt_of {p q r s : Bool × Nat} (hp : p.2 < 2 ^ 256) (hq : q.2 < 2 ^ 256) (hr : r.2 < 2 ^ 256) (hs : s.2 < 2 ^ 256) (h1 : okR p q) (h2 : okR r s) (f1 : fitsB p.2 q.2 = true) (f2 : fitsB r.2 s.2 = true) :
    Pt (zof p.1 p.2) q.2 (zof r.1 r.2) s.2 := by
  obtain ⟨_, a2, _, a4, a5⟩ := okR_parts h1
  obtain ⟨_, b2, _, b4, b5⟩ := okR_parts h2
  obtain ⟨c1, c2⟩ := (fits_iff hp hq).1 f1
  obtain ⟨d1, d2⟩ := (fits_iff hr hs).1 f2
  refine ⟨⟨a4, by rw [a2]; exact a5, by rw [a2]; exact c1, ?_⟩, ⟨b4, by rw [b2]; exact b5, by rw [b2]; exact d1, ?_⟩, c2, d2⟩
  · exact lt_pow_of c2 (by decide)
  · exact lt_pow_of d2 (by decide)
/-- May a point by signs and magnitudes be? -/
def okPt (p q r s : Bool × Nat) : Prop := okR p q ∧ okR r s ∧ fitsB p.2 q.2 = true ∧ fitsB r.2 s.2 = true
theorem pright_p (p q r s : Bool × Nat) (hp : p.2 < 2 ^ 256) (hq : q.2 < 2 ^ 256) (hr : r.2 < 2 ^ 256) (hs : s.2 < 2 ^ 256) (o : Bool) (ho : o = true ↔ okPt p q r s) (w : World) :
    Calls Tryz.prog 67 #[.agg #[.bool p.1, .int .u64 (dg (p.2) 0), .int .u64 (dg (p.2) 1), .int .u64 (dg (p.2) 2), .int .u64 (dg (p.2) 3), .bool q.1, .int .u64 (dg (q.2) 0), .int .u64 (dg (q.2) 1), .int .u64 (dg (q.2) 2), .int .u64 (dg (q.2) 3), .bool r.1, .int .u64 (dg (r.2) 0), .int .u64 (dg (r.2) 1), .int .u64 (dg (r.2) 2), .int .u64 (dg (r.2) 3), .bool s.1, .int .u64 (dg (s.2) 0), .int .u64 (dg (s.2) 1), .int .u64 (dg (s.2) 2), .int .u64 (dg (s.2) 3)]] w fun e w' => e = .returned (.int .i64 (if o then 0 else 2)) ∧ Below w.heap.size w w' := by
  obtain ⟨b, hb⟩ : ∃ b : Bool, b = true ↔ okR p q := ⟨@decide (okR p q) (Classical.propDecidable _), by simp⟩
  obtain ⟨c, hc⟩ : ∃ c : Bool, c = true ↔ okR r s := ⟨@decide (okR r s) (Classical.propDecidable _), by simp⟩
  have h := pright_any p q r s hp hq hr hs b c hb hc w
  have e : (b && (c && (fitsB p.2 q.2 && fitsB r.2 s.2))) = o := by
    rw [Bool.eq_iff_iff, ho]
    simp only [Bool.and_eq_true, hb, hc, okPt]
  rw [e] at h
  exact h
end Go.Proofs.YtfchmikbebdflaaGreatDoor
