/-
  Walks: Quo. Conditions stand in each theorem.
-/
import Derived.Test.YteibcklcegkbcaaLm17
namespace Go.Proofs.Yteibcklcegkbcaa
open Go.RowKit Go.BigFrame

/-- Two Ints' cells are laid. -/
def Laid2 (b1 b2 : Nat) (u v : Array Value) (W w' : World) : Prop :=
  (∀ {c d : Array Value} {t t' : TypeId}, W.heap[b1]? = some (.cells c t (0, 0)) → c.size = 5 → W.heap[b2]? = some (.cells d t' (0, 0)) → d.size = 5 → w'.heap[b1]? = some (.cells u t (0, 0)) ∧ w'.heap[b2]? = some (.cells v t' (0, 0))) ∧ (∀ k o, k ≠ b1 → k ≠ b2 → W.heap[k]? = some o → w'.heap[k]? = some o) ∧ ∀ n, n ≤ b1 → n ≤ b2 → Below n W w'
theorem laid_two {b1 b2 : Nat} (hne : b1 ≠ b2) {u v : Array Value} {W W1 W2 : World} (h1 : Laid b1 u W W1) (h2 : Laid b2 v W1 W2) : Laid2 b1 b2 u v W W2 := by
  refine ⟨fun {c d t t'} hc hcs hd hds => ⟨h2.2.1 _ _ hne (h1.1 hc hcs), h2.1 (h1.2.1 _ _ hne.symm hd) hds⟩, fun k o k1 k2 hk => h2.2.1 _ _ k2 (h1.2.1 _ _ k1 hk), fun n n1 n2 => (h1.2.2 _ n1).trans (h2.2.2 _ n2)⟩
set_option maxHeartbeats 400000 in
theorem clear_quo {W : World} {b d : Nat} (hne : b ≠ d) {c c' : Array Value} {t t' : TypeId} (h : W.heap[b]? = some (.cells c t (0, 0))) (hs : c.size = 5) (h' : W.heap[d]? = some (.cells c' t' (0, 0))) (hs' : c'.size = 5) :
    Calls Try.prog 44 #[.pointer (some ⟨b, 0, none⟩), .pointer (some ⟨d, 0, none⟩)] W fun e w' => e = .returned (.tuple #[]) ∧ Laid2 b d (#[.bool (ng (0)), .int .u64 (dg (ab (0)) 0), .int .u64 (dg (ab (0)) 1), .int .u64 (dg (ab (0)) 2), .int .u64 (dg (ab (0)) 3)]) (#[.bool (ng (0)), .int .u64 (dg (ab (0)) 0), .int .u64 (dg (ab (0)) 1), .int .u64 (dg (ab (0)) 2), .int .u64 (dg (ab (0)) 3)]) W w' := by
  have hf := frozen_at h
  have hcc := cell_at h
  have kf := frozen_at h'
  have kcc := cell_at h'
  obtain ⟨c0, c1, c2, c3, c4, rfl⟩ := five_of hs
  obtain ⟨d0, d1, d2, d3, d4, rfl⟩ := five_of hs'
  have h0 : W.cell? ⟨b, 0, none⟩ = some c0 := hcc 0
  have h1 : W.cell? ⟨b, 1, none⟩ = some c1 := hcc 1
  have h2 : W.cell? ⟨b, 2, none⟩ = some c2 := hcc 2
  have h3 : W.cell? ⟨b, 3, none⟩ = some c3 := hcc 3
  have h4 : W.cell? ⟨b, 4, none⟩ = some c4 := hcc 4
  have k0 : W.cell? ⟨d, 0, none⟩ = some d0 := kcc 0
  have k1 : W.cell? ⟨d, 1, none⟩ = some d1 := kcc 1
  have k2 : W.cell? ⟨d, 2, none⟩ = some d2 := kcc 2
  have k3 : W.cell? ⟨d, 3, none⟩ = some d3 := kcc 3
  have k4 : W.cell? ⟨d, 4, none⟩ = some d4 := kcc 4
  go_enter Try.func44, Try.ntmps44
  go_wp2
  go_end0
  rw [zero_cells]
  exact ⟨rfl, laid_two hne (laid_five ..) (laid_five ..)⟩

/-- What three named results hold. -/
def OutAt3 (w : World) (b1 b2 d : Nat) (y z : Int) (n : Int) (W : World) : Prop :=
  W.heap[b1]? = some (.cells #[.bool (ng (y)), .int .u64 (dg (ab (y)) 0), .int .u64 (dg (ab (y)) 1), .int .u64 (dg (ab (y)) 2), .int .u64 (dg (ab (y)) 3)] 25 (0, 0)) ∧ W.heap[b2]? = some (.cells #[.bool (ng (z)), .int .u64 (dg (ab (z)) 0), .int .u64 (dg (ab (z)) 1), .int .u64 (dg (ab (z)) 2), .int .u64 (dg (ab (z)) 3)] 25 (0, 0)) ∧ W.heap[d]? = some (.cells #[.int .i64 n] 26 (0, 0)) ∧ Below w.heap.size w W
theorem out3_of {w W W1 W2 : World} {b1 b2 d : Nat} {y z n : Int} {c c' e : Array Value} (hb : w.heap.size ≤ b1) (hb2 : b1 < b2) (hd : b2 < d) (h : W.heap[b1]? = some (.cells c 25 (0, 0))) (h' : W.heap[b2]? = some (.cells c' 25 (0, 0)))
    (k : W.heap[d]? = some (.cells e 26 (0, 0))) (hc : c.size = 5) (hc' : c'.size = 5) (he : e.size = 1) (hB : Below w.heap.size w W)
    (L : Laid2 b1 b2 (#[.bool (ng (y)), .int .u64 (dg (ab (y)) 0), .int .u64 (dg (ab (y)) 1), .int .u64 (dg (ab (y)) 2), .int .u64 (dg (ab (y)) 3)]) (#[.bool (ng (z)), .int .u64 (dg (ab (z)) 0), .int .u64 (dg (ab (z)) 1), .int .u64 (dg (ab (z)) 2), .int .u64 (dg (ab (z)) 3)]) W W1) (K : Laid1 d (.int .i64 n) W1 W2) : OutAt3 w b1 b2 d y z n W2 := by
  obtain ⟨l1, l2, l3⟩ := L
  obtain ⟨k1, k2, k3⟩ := K
  obtain ⟨m1, m2⟩ := l1 h hc h' hc'
  exact ⟨k2 _ _ (by omega) m1, k2 _ _ (by omega) m2, k1 (l2 _ _ (by omega) (by omega) k) he, hB.trans ((l3 _ hb (by omega)).trans (k3 _ (by omega)))⟩
theorem out3_cleared {w W W1 W2 : World} {b1 b2 d : Nat} {n : Int} {c c' e : Array Value} (hb : w.heap.size ≤ b1) (hb2 : b1 < b2) (hd : b2 < d) (h : W.heap[b1]? = some (.cells c 25 (0, 0))) (h' : W.heap[b2]? = some (.cells c' 25 (0, 0)))
    (k : W.heap[d]? = some (.cells e 26 (0, 0))) (hc : c.size = 5) (hc' : c'.size = 5) (he : e.size = 1) (hB : Below w.heap.size w W)
    (K : Laid1 d (.int .i64 n) W W1) (L : Laid2 b1 b2 (#[.bool (ng (0)), .int .u64 (dg (ab (0)) 0), .int .u64 (dg (ab (0)) 1), .int .u64 (dg (ab (0)) 2), .int .u64 (dg (ab (0)) 3)]) (#[.bool (ng (0)), .int .u64 (dg (ab (0)) 0), .int .u64 (dg (ab (0)) 1), .int .u64 (dg (ab (0)) 2), .int .u64 (dg (ab (0)) 3)]) W1 W2) : OutAt3 w b1 b2 d 0 0 n W2 := by
  obtain ⟨l1, l2, l3⟩ := L
  obtain ⟨k1, k2, k3⟩ := K
  obtain ⟨m1, m2⟩ := l1 (k2 _ _ (by omega) h) hc (k2 _ _ (by omega) h') hc'
  exact ⟨m1, m2, l2 _ _ (by omega) (by omega) (k1 k he), hB.trans ((k3 _ (by omega)).trans (l3 _ hb (by omega)))⟩
set_option maxHeartbeats 1000000 in
theorem quo_bad (p q : Bool × Nat) (hp : p.2 < 2 ^ 256) (hq : q.2 < 2 ^ 256) (h : ¬ (okP p ∧ okP q)) (w : World) :
    Calls Try.prog 11 #[.agg #[.bool (p.1), .int .u64 (dg (p.2) 0), .int .u64 (dg (p.2) 1), .int .u64 (dg (p.2) 2), .int .u64 (dg (p.2) 3)], .agg #[.bool (q.1), .int .u64 (dg (q.2) 0), .int .u64 (dg (q.2) 1), .int .u64 (dg (q.2) 2), .int .u64 (dg (q.2) 3)]] w fun e w' => e = .returned (.tuple #[.agg #[.bool (ng (0)), .int .u64 (dg (ab (0)) 0), .int .u64 (dg (ab (0)) 1), .int .u64 (dg (ab (0)) 2), .int .u64 (dg (ab (0)) 3)], .agg #[.bool (ng (0)), .int .u64 (dg (ab (0)) 0), .int .u64 (dg (ab (0)) 1), .int .u64 (dg (ab (0)) 2), .int .u64 (dg (ab (0)) 3)], .int .i64 2]) ∧ Below w.heap.size w w' := by
  have hmf : ∀ (fn : Fn) (first cap : Array Value) (w : World), (Instr.makeFunc fn first cap).run Try.prog w = .ok (.func fn first cap) w := fun _ _ _ _ => rfl
  have HP := Hd.mk hp
  have HQ := Hd.mk hq
  have HO := Hd.mk h
  clear hp hq h
  go_enter_defers Try.func11, Try.ntmps11
  go_wp2_with fail
  refine (right_no _ _ [p, q] _ (ints_two (b := w.heap.size + 1 + 1 + 1 + 1 + 1) HP.out HQ.out (by focus (repeat (first | (with_reducible exact heap_at (by first | rfl | (simp; done) | (simp; omega)) _) | (with_reducible refine heap_old ?_ _))))) (by simpa using HO.out)).mono ?_
  rintro e w1 ⟨rfl, hb1⟩
  have z1 : w1.heap[w.heap.size + 1 + 1]? = some _ := heap_below hb1 (heap_old (heap_old (heap_old (heap_at (n := w.heap.size + 1 + 1) (by simp) _) _) _) _)
  have c1 := cell_at z1
  have f1 := frozen_at z1
  have z2 : w1.heap[w.heap.size + 1 + 1 + 1]? = some _ := heap_below hb1 (heap_old (heap_old (heap_at (n := w.heap.size + 1 + 1 + 1) (by simp) _) _) _)
  have c2 := cell_at z2
  have f2 := frozen_at z2
  have z3 : w1.heap[w.heap.size + 1 + 1 + 1 + 1]? = some _ := heap_below hb1 (heap_old (heap_at (n := w.heap.size + 1 + 1 + 1 + 1) (by simp) _) _)
  have c3 := cell_at z3
  have f3 := frozen_at z3
  have hw1 : Below w.heap.size w w1 := by
    focus (repeat (first | (with_reducible exact Below.refl _ _) | (with_reducible assumption) | ((with_reducible refine Below.setCell ?_ ?_ _); rotate_left; (focus (first | omega | (simp; done) | (simp; omega)))) | ((with_reducible refine Below.alloc ?_ ?_ _); rotate_left; (focus (first | omega | (simp; done) | (simp; omega)))) | (with_reducible refine Below.drew ?_) | (refine below_on ?_ (by assumption))))
  clear hb1
  go_wp2
  refine leaves_cons (f := 43) (args := #[.pointer (some ⟨w.heap.size + 1 + 1 + 1 + 1, 0, none⟩), .func (.func 44) #[] #[.pointer (some ⟨w.heap.size + 1 + 1, 0, none⟩), .pointer (some ⟨w.heap.size + 1 + 1 + 1, 0, none⟩)]]) (by simp) (by simp [go_sem]) ?_
  refine (caught_full _ _ 2 _ _ _ _ (Laid2 (w.heap.size + 1 + 1) (w.heap.size + 1 + 1 + 1) (#[.bool (ng (0)), .int .u64 (dg (ab (0)) 0), .int .u64 (dg (ab (0)) 1), .int .u64 (dg (ab (0)) 2), .int .u64 (dg (ab (0)) 3)]) (#[.bool (ng (0)), .int .u64 (dg (ab (0)) 0), .int .u64 (dg (ab (0)) 1), .int .u64 (dg (ab (0)) 2), .int .u64 (dg (ab (0)) 3)]) _) (cell_at z3 0) (frozen_at z3 0) (fun _ => rfl) (clear_quo (by omega) (heap_set_other z1 (by simp) _) rfl (heap_set_other z2 (by simp) _) rfl)).mono ?_
  rintro e u' w3 ⟨rfl, rfl, hL⟩
  refine abs_leaves (OutAt3 w (w.heap.size + 1 + 1) (w.heap.size + 1 + 1 + 1) (w.heap.size + 1 + 1 + 1 + 1) 0 0 2) (out3_cleared (by omega) (by omega) (by omega) z1 z2 z3 rfl rfl rfl hw1 (laid_one ..) hL) fun W ⟨y1, y2, y3, hB⟩ => ?_
  have c1 := cell_at y1
  have c2 := cell_at y2
  have c3 := cell_at y3
  simp [Leaves, settle, results, Try.results11, go_sem, c1, c2, c3]
  exact hB
set_option maxHeartbeats 1000000 in
theorem quo_zero (x y : Int) (hx : ab x < 2 ^ 256) (hy : ab y < 2 ^ 256) (h0 : y = 0) (w : World) :
    Calls Try.prog 11 #[.agg #[.bool (ng (x)), .int .u64 (dg (ab (x)) 0), .int .u64 (dg (ab (x)) 1), .int .u64 (dg (ab (x)) 2), .int .u64 (dg (ab (x)) 3)], .agg #[.bool (ng (y)), .int .u64 (dg (ab (y)) 0), .int .u64 (dg (ab (y)) 1), .int .u64 (dg (ab (y)) 2), .int .u64 (dg (ab (y)) 3)]] w fun e w' => e = .returned (.tuple #[.agg #[.bool (ng (0)), .int .u64 (dg (ab (0)) 0), .int .u64 (dg (ab (0)) 1), .int .u64 (dg (ab (0)) 2), .int .u64 (dg (ab (0)) 3)], .agg #[.bool (ng (0)), .int .u64 (dg (ab (0)) 0), .int .u64 (dg (ab (0)) 1), .int .u64 (dg (ab (0)) 2), .int .u64 (dg (ab (0)) 3)], .int .i64 2]) ∧ Below w.heap.size w w' := by
  have h3 : (dg (ab y) 0 == 0 && (dg (ab y) 1 == 0 && (dg (ab y) 2 == 0 && dg (ab y) 3 == 0))) = true := by
    subst h0; decide
  clear h0
  have hmf : ∀ (fn : Fn) (first cap : Array Value) (w : World), (Instr.makeFunc fn first cap).run Try.prog w = .ok (.func fn first cap) w := fun _ _ _ _ => rfl
  have HX := Hd.mk hx
  have HY := Hd.mk hy
  clear hx hy
  go_enter_defers Try.func11, Try.ntmps11
  go_wp2_with fail
  refine (right_zs _ _ [x, y] _ (ints_two_z (b := w.heap.size + 1 + 1 + 1 + 1 + 1) HX.out HY.out (by focus (repeat (first | (with_reducible exact heap_at (by first | rfl | (simp; done) | (simp; omega)) _) | (with_reducible refine heap_old ?_ _)))))).mono ?_
  rintro e w1 ⟨rfl, hb1⟩
  have z0 : w1.heap[w.heap.size]? = some _ := heap_below hb1 (heap_old (heap_old (heap_old (heap_old (heap_old (heap_new w _) _) _) _) _) _)
  have c0 := cell_at z0
  have f0 := frozen_at z0
  have z7 : w1.heap[w.heap.size + 1]? = some _ := heap_below hb1 (heap_old (heap_old (heap_old (heap_old (heap_at (n := w.heap.size + 1) (by simp) _) _) _) _) _)
  have c7 := cell_at z7
  have f7 := frozen_at z7
  have z1 : w1.heap[w.heap.size + 1 + 1]? = some _ := heap_below hb1 (heap_old (heap_old (heap_old (heap_at (n := w.heap.size + 1 + 1) (by simp) _) _) _) _)
  have c1 := cell_at z1
  have f1 := frozen_at z1
  have z2 : w1.heap[w.heap.size + 1 + 1 + 1]? = some _ := heap_below hb1 (heap_old (heap_old (heap_at (n := w.heap.size + 1 + 1 + 1) (by simp) _) _) _)
  have c2 := cell_at z2
  have f2 := frozen_at z2
  have z3 : w1.heap[w.heap.size + 1 + 1 + 1 + 1]? = some _ := heap_below hb1 (heap_old (heap_at (n := w.heap.size + 1 + 1 + 1 + 1) (by simp) _) _)
  have c3 := cell_at z3
  have f3 := frozen_at z3
  have hw1 : Below w.heap.size w w1 := by
    focus (repeat (first | (with_reducible exact Below.refl _ _) | (with_reducible assumption) | ((with_reducible refine Below.setCell ?_ ?_ _); rotate_left; (focus (first | omega | (simp; done) | (simp; omega)))) | ((with_reducible refine Below.alloc ?_ ?_ _); rotate_left; (focus (first | omega | (simp; done) | (simp; omega)))) | (with_reducible refine Below.drew ?_) | (refine below_on ?_ (by assumption))))
  clear hb1
  go_wp2_with fail
  refine (must_no _ _).mono ?_
  rintro e w' ⟨rfl, rfl⟩
  go_wp2
  refine leaves_cons (f := 43) (args := #[.pointer (some ⟨w.heap.size + 1 + 1 + 1 + 1, 0, none⟩), .func (.func 44) #[] #[.pointer (some ⟨w.heap.size + 1 + 1, 0, none⟩), .pointer (some ⟨w.heap.size + 1 + 1 + 1, 0, none⟩)]]) (by simp) (by simp [go_sem]) ?_
  refine (caught_full _ _ 2 _ _ _ _ (Laid2 (w.heap.size + 1 + 1) (w.heap.size + 1 + 1 + 1) (#[.bool (ng (0)), .int .u64 (dg (ab (0)) 0), .int .u64 (dg (ab (0)) 1), .int .u64 (dg (ab (0)) 2), .int .u64 (dg (ab (0)) 3)]) (#[.bool (ng (0)), .int .u64 (dg (ab (0)) 0), .int .u64 (dg (ab (0)) 1), .int .u64 (dg (ab (0)) 2), .int .u64 (dg (ab (0)) 3)]) _) (cell_at z3 0) (frozen_at z3 0) (fun _ => rfl) (clear_quo (by omega) (heap_set_other z1 (by simp) _) rfl (heap_set_other z2 (by simp) _) rfl)).mono ?_
  rintro e u' w3 ⟨rfl, rfl, hL⟩
  refine abs_leaves (OutAt3 w (w.heap.size + 1 + 1) (w.heap.size + 1 + 1 + 1) (w.heap.size + 1 + 1 + 1 + 1) 0 0 2) (out3_cleared (by omega) (by omega) (by omega) z1 z2 z3 rfl rfl rfl hw1 (laid_one ..) hL) fun W ⟨y1, y2, y3, hB⟩ => ?_
  have c1 := cell_at y1
  have c2 := cell_at y2
  have c3 := cell_at y3
  simp [Leaves, settle, results, Try.results11, go_sem, c1, c2, c3]
  exact hB
theorem zof_div (x y : Int) : zof (!(ng x == ng y)) (ab x / ab y) = x.tdiv y := by
  have hx := zof_ng_ab x
  have hy := zof_ng_ab y
  generalize ng x = s at *
  generalize ng y = t at *
  generalize ab x = a at *
  generalize ab y = b at *
  subst hx hy
  cases s <;> cases t <;> simp [zof, Int.neg_tdiv, Int.tdiv_neg, ← Int.ofNat_tdiv]
theorem zof_mod (x y : Int) : zof (ng x) (ab x % ab y) = x.tmod y := by
  have hx := zof_ng_ab x
  have hy := zof_ng_ab y
  generalize ng x = s at *
  generalize ng y = t at *
  generalize ab x = a at *
  generalize ab y = b at *
  subst hx hy
  cases s <;> cases t <;> simp [zof, Int.neg_tmod, Int.tmod_neg, ← Int.ofNat_tmod]
set_option maxHeartbeats 1000000 in
theorem quo_ok (m n : Int) (hx : ab m < 2 ^ 256) (hy : ab n < 2 ^ 256) (h0 : n ≠ 0) (w : World) :
    Calls Try.prog 11 #[.agg #[.bool (ng (m)), .int .u64 (dg (ab (m)) 0), .int .u64 (dg (ab (m)) 1), .int .u64 (dg (ab (m)) 2), .int .u64 (dg (ab (m)) 3)], .agg #[.bool (ng (n)), .int .u64 (dg (ab (n)) 0), .int .u64 (dg (ab (n)) 1), .int .u64 (dg (ab (n)) 2), .int .u64 (dg (ab (n)) 3)]] w fun e w' => e = .returned (.tuple #[.agg #[.bool (ng (m.tdiv n)), .int .u64 (dg (ab (m.tdiv n)) 0), .int .u64 (dg (ab (m.tdiv n)) 1), .int .u64 (dg (ab (m.tdiv n)) 2), .int .u64 (dg (ab (m.tdiv n)) 3)], .agg #[.bool (ng (m.tmod n)), .int .u64 (dg (ab (m.tmod n)) 0), .int .u64 (dg (ab (m.tmod n)) 1), .int .u64 (dg (ab (m.tmod n)) 2), .int .u64 (dg (ab (m.tmod n)) 3)], .int .i64 0]) ∧ Below w.heap.size w w' := by
  have hpos : 0 < ab n := by unfold ab; omega
  have h3 : (dg (ab n) 0 == 0 && (dg (ab n) 1 == 0 && (dg (ab n) 2 == 0 && dg (ab n) 3 == 0))) = false := by
    rw [Bool.eq_false_iff]
    intro h
    simp only [Bool.and_eq_true, beq_iff_eq] at h
    have := (dg_eq_zero hy).1 h
    omega
  have H0 := Hd.mk hpos
  have HQ : Hd (ab m / ab n < 2 ^ 256) := ⟨Nat.lt_of_le_of_lt (Nat.div_le_self _ _) hx⟩
  have HR : Hd (ab m % ab n < 2 ^ 256) := ⟨Nat.lt_of_le_of_lt (Nat.mod_le _ _) hx⟩
  have HD : Hd (zof (!(ng m == ng n)) (ab m / ab n) = m.tdiv n) := ⟨zof_div m n⟩
  have HM : Hd (zof (ng m) (ab m % ab n) = m.tmod n) := ⟨zof_mod m n⟩
  clear hpos h0
  have hmf : ∀ (fn : Fn) (first cap : Array Value) (w : World), (Instr.makeFunc fn first cap).run Try.prog w = .ok (.func fn first cap) w := fun _ _ _ _ => rfl
  have HX := Hd.mk hx
  have HY := Hd.mk hy
  clear hx hy
  go_enter_defers Try.func11, Try.ntmps11
  go_wp2_with fail
  refine (right_zs _ _ [m, n] _ (ints_two_z (b := w.heap.size + 1 + 1 + 1 + 1 + 1) HX.out HY.out (by focus (repeat (first | (with_reducible exact heap_at (by first | rfl | (simp; done) | (simp; omega)) _) | (with_reducible refine heap_old ?_ _)))))).mono ?_
  rintro e w1 ⟨rfl, hb1⟩
  have z0 : w1.heap[w.heap.size]? = some _ := heap_below hb1 (heap_old (heap_old (heap_old (heap_old (heap_old (heap_new w _) _) _) _) _) _)
  have c0 := cell_at z0
  have f0 := frozen_at z0
  have z7 : w1.heap[w.heap.size + 1]? = some _ := heap_below hb1 (heap_old (heap_old (heap_old (heap_old (heap_at (n := w.heap.size + 1) (by simp) _) _) _) _) _)
  have c7 := cell_at z7
  have f7 := frozen_at z7
  have z1 : w1.heap[w.heap.size + 1 + 1]? = some _ := heap_below hb1 (heap_old (heap_old (heap_old (heap_at (n := w.heap.size + 1 + 1) (by simp) _) _) _) _)
  have c1 := cell_at z1
  have f1 := frozen_at z1
  have z2 : w1.heap[w.heap.size + 1 + 1 + 1]? = some _ := heap_below hb1 (heap_old (heap_old (heap_at (n := w.heap.size + 1 + 1 + 1) (by simp) _) _) _)
  have c2 := cell_at z2
  have f2 := frozen_at z2
  have z3 : w1.heap[w.heap.size + 1 + 1 + 1 + 1]? = some _ := heap_below hb1 (heap_old (heap_at (n := w.heap.size + 1 + 1 + 1 + 1) (by simp) _) _)
  have c3 := cell_at z3
  have f3 := frozen_at z3
  have hw1 : Below w.heap.size w w1 := by
    focus (repeat (first | (with_reducible exact Below.refl _ _) | (with_reducible assumption) | ((with_reducible refine Below.setCell ?_ ?_ _); rotate_left; (focus (first | omega | (simp; done) | (simp; omega)))) | ((with_reducible refine Below.alloc ?_ ?_ _); rotate_left; (focus (first | omega | (simp; done) | (simp; omega)))) | (with_reducible refine Below.drew ?_) | (refine below_on ?_ (by assumption))))
  clear hb1
  go_wp2_with (go_at_call 46; refine (must_ok _ _).mono ?_; rintro e w' ⟨rfl, rfl⟩)
  refine (parts_any _ _ HX.out HY.out H0.out _).mono ?_
  rintro e w2 ⟨rfl, hb2⟩
  have z10 : w2.heap[w.heap.size]? = some _ := heap_below hb2 z0
  have c10 := cell_at z10
  have f10 := frozen_at z10
  have z17 : w2.heap[w.heap.size + 1]? = some _ := heap_below hb2 z7
  have c17 := cell_at z17
  have f17 := frozen_at z17
  have z11 : w2.heap[w.heap.size + 1 + 1]? = some _ := heap_below hb2 z1
  have c11 := cell_at z11
  have f11 := frozen_at z11
  have z12 : w2.heap[w.heap.size + 1 + 1 + 1]? = some _ := heap_below hb2 z2
  have c12 := cell_at z12
  have f12 := frozen_at z12
  have z13 : w2.heap[w.heap.size + 1 + 1 + 1 + 1]? = some _ := heap_below hb2 z3
  have c13 := cell_at z13
  have f13 := frozen_at z13
  have hw2 : Below w.heap.size w w2 := below_on hw1 hb2
  clear z0 c0 f0 z7 c7 f7 z1 c1 f1 z2 c2 f2 z3 c3 f3 hb2 hw1
  have hsz := lt_of_block z13
  go_upto_region 5 with (fail)
  refine abs_wp (fun W => W.heap[w.heap.size]? = some (.cells #[.bool (ng (m)), .int .u64 (dg (ab (m)) 0), .int .u64 (dg (ab (m)) 1), .int .u64 (dg (ab (m)) 2), .int .u64 (dg (ab (m)) 3)] 25 (0, 0)) ∧ W.heap[w.heap.size + 1]? = some (.cells #[.bool (ng (n)), .int .u64 (dg (ab (n)) 0), .int .u64 (dg (ab (n)) 1), .int .u64 (dg (ab (n)) 2), .int .u64 (dg (ab (n)) 3)] 25 (0, 0)) ∧
    W.heap[w.heap.size + 1 + 1]? = some (.cells #[.bool false, .int .u64 0, .int .u64 0, .int .u64 0, .int .u64 0] 25 (0, 0)) ∧
    W.heap[w.heap.size + 1 + 1 + 1]? = some (.cells #[.bool false, .int .u64 0, .int .u64 0, .int .u64 0, .int .u64 0] 25 (0, 0)) ∧
    W.heap[w.heap.size + 1 + 1 + 1 + 1]? = some (.cells #[.int .i64 0] 26 (0, 0)) ∧
    W.heap[w2.heap.size]? = some (.cells #[.int .u64 (dg (ab m / ab n) 0), .int .u64 (dg (ab m / ab n) 1), .int .u64 (dg (ab m / ab n) 2), .int .u64 (dg (ab m / ab n) 3)] 82 (0, 0)) ∧ W.heap[w2.heap.size + 1]? = some (.cells #[.int .u64 (dg (ab m % ab n) 0), .int .u64 (dg (ab m % ab n) 1), .int .u64 (dg (ab m % ab n) 2), .int .u64 (dg (ab m % ab n) 3)] 82 (0, 0)) ∧ Below w.heap.size w W)
    ⟨heap_old (heap_old z10 _) _, heap_old (heap_old z17 _) _, heap_old (heap_old z11 _) _, heap_old (heap_old z12 _) _, heap_old (heap_old z13 _) _, heap_old (heap_new _ _) _, heap_at (by simp) _, by focus (repeat (first | (with_reducible exact Below.refl _ _) | (with_reducible assumption) | ((with_reducible refine Below.setCell ?_ ?_ _); rotate_left; (focus (first | omega | (simp; done) | (simp; omega)))) | ((with_reducible refine Below.alloc ?_ ?_ _); rotate_left; (focus (first | omega | (simp; done) | (simp; omega)))) | (with_reducible refine Below.drew ?_) | (refine below_on ?_ (by assumption))))⟩ fun W ⟨y0, y7, y1, y2, y3, y4, y5, hB⟩ => ?_
  clear z10 c10 f10 z17 c17 f17 z11 c11 f11 z12 c12 f12 z13 c13 f13 hw2
  have hsz2 := lt_of_block y5
  refine wp_region_noPanic ?_
  refine region_mix 10 (by kernel_rfl) (by kernel_rfl) (fun _ _ _ _ h => h) fun X _ mk hmk hcl => ?_
  have q0 := fun x => cell_at (heap_below (hmk x) y0)
  have q7 := fun x => cell_at (heap_below (hmk x) y7)
  have q4 := fun x => cell_at (heap_below (hmk x) y4)
  have q5 := fun x => cell_at (heap_below (hmk x) y5)
  simp only [List.take_succ_cons, List.take_zero, List.drop_succ_cons, List.drop_zero]
  repeat (go_big_quiet_step ((go_at_call 48; exact (of_z _ _ HQ.out _).mono fun e w' ⟨he, hw⟩ => ⟨he, hcl _ _ hw⟩)))
  refine wpQuiet_nil ?_
  rintro _ ⟨x, rfl⟩
  have hW1 := hmk x
  clear hcl hmk q0 q7 q4 q5
  generalize mk x = W1 at hW1
  have z1 : W1.heap[w.heap.size + 1 + 1]? = some _ := heap_below hW1 y1
  have c1 := cell_at z1
  have f1 := frozen_at z1
  have z2 : W1.heap[w.heap.size + 1 + 1 + 1]? = some _ := heap_below hW1 y2
  have c2 := cell_at z2
  have f2 := frozen_at z2
  have z3 : W1.heap[w.heap.size + 1 + 1 + 1 + 1]? = some _ := heap_below hW1 y3
  have c3 := cell_at z3
  have f3 := frozen_at z3
  have hw1 : Below w.heap.size w W1 := below_on hB hW1
  clear y0 y7 y1 y2 y3 y4 y5 hB hW1
  go_wp2_with fail
  refine (of_z _ _ HR.out _).mono ?_
  rw [HD.out, HM.out]
  rintro e w3 ⟨rfl, hb3⟩
  have z4 : w3.heap[w.heap.size + 1 + 1]? = some _ := heap_below hb3 z1
  have c4 := cell_at z4
  have f4 := frozen_at z4
  have z5 : w3.heap[w.heap.size + 1 + 1 + 1]? = some _ := heap_below hb3 z2
  have c5 := cell_at z5
  have f5 := frozen_at z5
  have z6 : w3.heap[w.heap.size + 1 + 1 + 1 + 1]? = some _ := heap_below hb3 z3
  have c6 := cell_at z6
  have f6 := frozen_at z6
  have hw3 : Below w.heap.size w w3 := below_on hw1 hb3
  clear z1 c1 f1 z2 c2 f2 z3 c3 f3 hw1 hb3
  go_wp2
  simp only [NoPanic]
  go_wp2
  refine leaves_cons (f := 43) (args := #[.pointer (some ⟨w.heap.size + 1 + 1 + 1 + 1, 0, none⟩), .func (.func 44) #[] #[.pointer (some ⟨w.heap.size + 1 + 1, 0, none⟩), .pointer (some ⟨w.heap.size + 1 + 1 + 1, 0, none⟩)]]) (by simp) (by simp [go_sem]) ?_
  refine (caught_idle _ _ _).mono ?_
  rintro e u' w4 ⟨rfl, rfl, rfl⟩
  refine abs_leaves (OutAt3 w (w.heap.size + 1 + 1) (w.heap.size + 1 + 1 + 1) (w.heap.size + 1 + 1 + 1 + 1) (m.tdiv n) (m.tmod n) 0) (out3_of (by omega) (by omega) (by omega) z4 z5 z6 rfl rfl rfl hw3 (laid_two (by omega) (laid_five ..) (laid_five ..)) (laid_one ..)) fun W ⟨y1, y2, y3, hB⟩ => ?_
  have c1 := cell_at y1
  have c2 := cell_at y2
  have c3 := cell_at y3
  simp [Leaves, settle, results, Try.results11, go_sem, c1, c2, c3]
  exact hB
end Go.Proofs.Yteibcklcegkbcaa
