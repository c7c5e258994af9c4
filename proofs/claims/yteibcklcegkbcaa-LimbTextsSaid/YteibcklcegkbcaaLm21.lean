/-
  Walks: Cmp. Conditions stand in each theorem.
-/
import Derived.Test.YteibcklcegkbcaaLm19
namespace Go.Proofs.Yteibcklcegkbcaa
open Go.RowKit Go.BigFrame

def sgn (z : Int) : Int := if z = 0 then 0 else if z < 0 then -1 else 1
set_option maxHeartbeats 1000000 in
theorem sign_ok (z : Int) (hz : ab z < 2 ^ 256) (w : World) :
    Calls Try.prog 34 #[.agg #[.bool (ng (z)), .int .u64 (dg (ab (z)) 0), .int .u64 (dg (ab (z)) 1), .int .u64 (dg (ab (z)) 2), .int .u64 (dg (ab (z)) 3)]] w fun e w' => e = .returned (.int .i64 (sgn z)) ∧ Below w.heap.size w w' := by
  have h3 := mag_zero hz
  have HZ := Hd.mk hz
  clear hz
  by_cases h0 : z = 0
  · have hS : Hd (sgn z = 0) := ⟨by unfold sgn; rw [if_pos h0]⟩
    have hb : ab z = 0 := by rw [h0]; rfl
    rw [decide_eq_true hb] at h3
    clear h0 hb
    go_enter Try.func34, Try.ntmps34
    go_wp2_with fail
    refine (check_ok z HZ.out _).mono ?_
    rintro e w1 ⟨rfl, hb1⟩
    have z1 : w1.heap[w.heap.size]? = some _ := heap_below hb1 (heap_new w _)
    have c1 := cell_at z1
    have f1 := frozen_at z1
    have hw1 : Below w.heap.size w w1 := by
      focus (repeat (first | (with_reducible exact Below.refl _ _) | (with_reducible assumption) | ((with_reducible refine Below.setCell ?_ ?_ _); rotate_left; (focus (first | omega | (simp; done) | (simp; omega)))) | ((with_reducible refine Below.alloc ?_ ?_ _); rotate_left; (focus (first | omega | (simp; done) | (simp; omega)))) | (with_reducible refine Below.drew ?_) | (refine below_on ?_ (by assumption))))
    clear hb1
    go_wp2
    rw [hS.out]
    go_ret
    exact ⟨rfl, hw1⟩
  · have hb : ¬ ab z = 0 := by unfold ab; omega
    rw [decide_eq_false hb] at h3
    by_cases h1 : z < 0
    · have hS : Hd (sgn z = -1) := ⟨by unfold sgn; rw [if_neg h0, if_pos h1]⟩
      have HN : Hd (ng z = true) := ⟨by unfold ng; simpa using h1⟩
      clear h0 hb h1
      go_enter Try.func34, Try.ntmps34
      go_wp2_with fail
      refine (check_ok z HZ.out _).mono ?_
      rintro e w1 ⟨rfl, hb1⟩
      have z1 : w1.heap[w.heap.size]? = some _ := heap_below hb1 (heap_new w _)
      have c1 := cell_at z1
      have f1 := frozen_at z1
      have hw1 : Below w.heap.size w w1 := by
        focus (repeat (first | (with_reducible exact Below.refl _ _) | (with_reducible assumption) | ((with_reducible refine Below.setCell ?_ ?_ _); rotate_left; (focus (first | omega | (simp; done) | (simp; omega)))) | ((with_reducible refine Below.alloc ?_ ?_ _); rotate_left; (focus (first | omega | (simp; done) | (simp; omega)))) | (with_reducible refine Below.drew ?_) | (refine below_on ?_ (by assumption))))
      clear hb1
      have hn := HN.out
      go_wp2
      rw [hS.out]
      go_ret
      exact ⟨rfl, hw1⟩
    · have hS : Hd (sgn z = 1) := ⟨by unfold sgn; rw [if_neg h0, if_neg h1]⟩
      have HN : Hd (ng z = false) := ⟨by unfold ng; simpa using h1⟩
      clear h0 hb h1
      go_enter Try.func34, Try.ntmps34
      go_wp2_with fail
      refine (check_ok z HZ.out _).mono ?_
      rintro e w1 ⟨rfl, hb1⟩
      have z1 : w1.heap[w.heap.size]? = some _ := heap_below hb1 (heap_new w _)
      have c1 := cell_at z1
      have f1 := frozen_at z1
      have hw1 : Below w.heap.size w w1 := by
        focus (repeat (first | (with_reducible exact Below.refl _ _) | (with_reducible assumption) | ((with_reducible refine Below.setCell ?_ ?_ _); rotate_left; (focus (first | omega | (simp; done) | (simp; omega)))) | ((with_reducible refine Below.alloc ?_ ?_ _); rotate_left; (focus (first | omega | (simp; done) | (simp; omega)))) | (with_reducible refine Below.drew ?_) | (refine below_on ?_ (by assumption))))
      clear hb1
      have hn := HN.out
      go_wp2
      rw [hS.out]
      go_ret
      exact ⟨rfl, hw1⟩
set_option maxHeartbeats 400000 in
theorem sign_bad (w : World) :
    Calls Try.prog 34 #[.agg #[.bool (true), .int .u64 (dg (0) 0), .int .u64 (dg (0) 1), .int .u64 (dg (0) 2), .int .u64 (dg (0) 3)]] w fun e w' => e = .returned (.int .i64 0) ∧ Below w.heap.size w w' := by
  go_enter Try.func34, Try.ntmps34
  go_wp2_with fail
  refine (check_bad _).mono ?_
  rintro e w1 ⟨rfl, hb1⟩
  have hw1 : Below w.heap.size w w1 := by
    focus (repeat (first | (with_reducible exact Below.refl _ _) | (with_reducible assumption) | ((with_reducible refine Below.setCell ?_ ?_ _); rotate_left; (focus (first | omega | (simp; done) | (simp; omega)))) | ((with_reducible refine Below.alloc ?_ ?_ _); rotate_left; (focus (first | omega | (simp; done) | (simp; omega)))) | (with_reducible refine Below.drew ?_) | (refine below_on ?_ (by assumption))))
  clear hb1
  go_wp2
  go_ret
  exact ⟨rfl, hw1⟩
open Go.RowKit Go.BigFrame

set_option maxHeartbeats 400000 in
theorem clear_cmp {W : World} {b : Nat} {c : Array Value} {t : TypeId} (h : W.heap[b]? = some (.cells c t (0, 0))) (hs : c.size = 1) :
    Calls Try.prog 73 #[.pointer (some ⟨b, 0, none⟩)] W fun e w' => e = .returned (.tuple #[]) ∧ Laid1 b (.int .i64 0) W w' := by
  have hf := frozen_at h
  obtain ⟨c0, rfl⟩ : ∃ c0, c = #[c0] := Array.size_eq_one_iff.1 hs
  have h0 : W.cell? ⟨b, 0, none⟩ = some c0 := cell_at h 0
  go_enter Try.func73, Try.ntmps73
  go_wp2
  go_end0
  exact ⟨rfl, laid_one ..⟩
/-- What an int and an errno named as results hold. -/
def OutI (w : World) (b d : Nat) (z : Int) (n : Int) (W : World) : Prop :=
  W.heap[b]? = some (.cells #[.int .i64 z] 3 (0, 0)) ∧ W.heap[d]? = some (.cells #[.int .i64 n] 26 (0, 0)) ∧ Below w.heap.size w W
theorem outI_of {w W W1 W2 : World} {b d : Nat} {z n : Int} {c e : Array Value} (hb : w.heap.size ≤ b) (hd : b < d) (h : W.heap[b]? = some (.cells c 3 (0, 0))) (k : W.heap[d]? = some (.cells e 26 (0, 0))) (hc : c.size = 1) (he : e.size = 1) (hB : Below w.heap.size w W)
    (L : Laid1 b (.int .i64 z) W W1) (K : Laid1 d (.int .i64 n) W1 W2) : OutI w b d z n W2 :=
  ⟨K.2.1 _ _ (by omega) (L.1 h hc), K.1 (L.2.1 _ _ (by omega) k) he, hB.trans ((L.2.2 _ hb).trans (K.2.2 _ (by omega)))⟩
theorem outI_cleared {w W W1 W2 : World} {b d : Nat} {z n : Int} {c e : Array Value} (hb : w.heap.size ≤ b) (hd : b < d) (h : W.heap[b]? = some (.cells c 3 (0, 0))) (k : W.heap[d]? = some (.cells e 26 (0, 0))) (hc : c.size = 1) (he : e.size = 1) (hB : Below w.heap.size w W)
    (K : Laid1 d (.int .i64 n) W W1) (L : Laid1 b (.int .i64 z) W1 W2) : OutI w b d z n W2 :=
  ⟨L.1 (K.2.1 _ _ (by omega) h) hc, L.2.1 _ _ (by omega) (K.1 k he), hB.trans ((K.2.2 _ (by omega)).trans (L.2.2 _ hb))⟩
set_option maxHeartbeats 1000000 in
theorem cmp_bad (p q : Bool × Nat) (hp : p.2 < 2 ^ 256) (hq : q.2 < 2 ^ 256) (h : ¬ (okP p ∧ okP q)) (w : World) :
    Calls Try.prog 40 #[.agg #[.bool (p.1), .int .u64 (dg (p.2) 0), .int .u64 (dg (p.2) 1), .int .u64 (dg (p.2) 2), .int .u64 (dg (p.2) 3)], .agg #[.bool (q.1), .int .u64 (dg (q.2) 0), .int .u64 (dg (q.2) 1), .int .u64 (dg (q.2) 2), .int .u64 (dg (q.2) 3)]] w fun e w' => e = .returned (.tuple #[.int .i64 0, .int .i64 2]) ∧ Below w.heap.size w w' := by
  have hmf : ∀ (fn : Fn) (first cap : Array Value) (w : World), (Instr.makeFunc fn first cap).run Try.prog w = .ok (.func fn first cap) w := fun _ _ _ _ => rfl
  have HP := Hd.mk hp
  have HQ := Hd.mk hq
  have HO := Hd.mk h
  clear hp hq h
  go_enter_defers Try.func40, Try.ntmps40
  go_wp2_with fail
  refine (right_no _ _ [p, q] _ (ints_two (b := w.heap.size + 1 + 1 + 1 + 1) HP.out HQ.out (by focus (repeat (first | (with_reducible exact heap_at (by first | rfl | (simp; done) | (simp; omega)) _) | (with_reducible refine heap_old ?_ _))))) (by simpa using HO.out)).mono ?_
  rintro e w1 ⟨rfl, hb1⟩
  have z1 : w1.heap[w.heap.size + 1 + 1]? = some _ := heap_below hb1 (heap_old (heap_old (heap_at (n := w.heap.size + 1 + 1) (by simp) _) _) _)
  have c1 := cell_at z1
  have f1 := frozen_at z1
  have z2 : w1.heap[w.heap.size + 1 + 1 + 1]? = some _ := heap_below hb1 (heap_old (heap_at (n := w.heap.size + 1 + 1 + 1) (by simp) _) _)
  have c2 := cell_at z2
  have f2 := frozen_at z2
  have hw1 : Below w.heap.size w w1 := by
    focus (repeat (first | (with_reducible exact Below.refl _ _) | (with_reducible assumption) | ((with_reducible refine Below.setCell ?_ ?_ _); rotate_left; (focus (first | omega | (simp; done) | (simp; omega)))) | ((with_reducible refine Below.alloc ?_ ?_ _); rotate_left; (focus (first | omega | (simp; done) | (simp; omega)))) | (with_reducible refine Below.drew ?_) | (refine below_on ?_ (by assumption))))
  clear hb1
  go_wp2
  refine leaves_cons (f := 43) (args := #[.pointer (some ⟨w.heap.size + 1 + 1 + 1, 0, none⟩), .func (.func 73) #[] #[.pointer (some ⟨w.heap.size + 1 + 1, 0, none⟩)]]) (by simp) (by simp [go_sem]) ?_
  refine (caught_full _ _ 2 _ _ _ _ (Laid1 (w.heap.size + 1 + 1) (.int .i64 0) _) (cell_at z2 0) (frozen_at z2 0) (fun _ => rfl) (clear_cmp (heap_set_other z1 (by simp) _) rfl)).mono ?_
  rintro e u' w3 ⟨rfl, rfl, hL⟩
  refine abs_leaves (OutI w (w.heap.size + 1 + 1) (w.heap.size + 1 + 1 + 1) 0 2) (outI_cleared (by omega) (by omega) z1 z2 rfl rfl hw1 (laid_one ..) hL) fun W ⟨y1, y2, hB⟩ => ?_
  have c1 := cell_at y1
  have c2 := cell_at y2
  simp [Leaves, settle, results, Try.results40, go_sem, c1, c2]
  exact hB
theorem sgn_less (x y : Int) (hx : ab x < 2 ^ 256) (hy : ab y < 2 ^ 256) : (ab (x + -y) < 2 ^ 256 ∧ addE [x, -y] = 0 ∧ addV [x, -y] = x - y) ∨ (addE [x, -y] = 110 ∧ sgn x = sgn (x - y)) := by
  have h1 : ab (0 + x) < 2 ^ 256 := by rw [Int.zero_add]; exact hx
  by_cases h : ab (x + -y) < 2 ^ 256
  · refine .inl ⟨h, ?_, ?_⟩
    · simp only [addE, addF, Int.zero_add, if_pos hx, if_pos h]; rfl
    · simp only [addV, addF, Int.zero_add, if_pos hx, if_pos h]; rfl
  · refine .inr ⟨?_, ?_⟩
    · simp only [addE, addF, Int.zero_add, if_pos hx, if_neg h]; rfl
    · unfold ab at *
      unfold sgn
      have e : (2 : Nat) ^ 256 = 115792089237316195423570985008687907853269984665640564039457584007913129639936 := by decide
      rw [e] at *
      split <;> split <;> (try split) <;> (try split) <;> omega
set_option maxHeartbeats 1000000 in
theorem cmp_ok (m n : Int) (hx : ab m < 2 ^ 256) (hy : ab n < 2 ^ 256) (w : World) :
    Calls Try.prog 40 #[.agg #[.bool (ng (m)), .int .u64 (dg (ab (m)) 0), .int .u64 (dg (ab (m)) 1), .int .u64 (dg (ab (m)) 2), .int .u64 (dg (ab (m)) 3)], .agg #[.bool (ng (n)), .int .u64 (dg (ab (n)) 0), .int .u64 (dg (ab (n)) 1), .int .u64 (dg (ab (n)) 2), .int .u64 (dg (ab (n)) 3)]] w fun e w' => e = .returned (.tuple #[.int .i64 (sgn (m - n)), .int .i64 0]) ∧ Below w.heap.size w w' := by
  have hmf : ∀ (fn : Fn) (first cap : Array Value) (w : World), (Instr.makeFunc fn first cap).run Try.prog w = .ok (.func fn first cap) w := fun _ _ _ _ => rfl
  have HS := Hd.mk (sgn_less m n hx hy)
  have HX := Hd.mk hx
  have HY := Hd.mk hy
  clear hx hy
  go_enter_defers Try.func40, Try.ntmps40
  go_wp2_with fail
  refine (right_zs _ _ [m, n] _ (ints_two_z (b := w.heap.size + 1 + 1 + 1 + 1) HX.out HY.out (by focus (repeat (first | (with_reducible exact heap_at (by first | rfl | (simp; done) | (simp; omega)) _) | (with_reducible refine heap_old ?_ _)))))).mono ?_
  rintro e w1 ⟨rfl, hb1⟩
  have z0 : w1.heap[w.heap.size]? = some _ := heap_below hb1 (heap_old (heap_old (heap_old (heap_old (heap_new w _) _) _) _) _)
  have c0 := cell_at z0
  have f0 := frozen_at z0
  have z7 : w1.heap[w.heap.size + 1]? = some _ := heap_below hb1 (heap_old (heap_old (heap_old (heap_at (n := w.heap.size + 1) (by simp) _) _) _) _)
  have c7 := cell_at z7
  have f7 := frozen_at z7
  have z1 : w1.heap[w.heap.size + 1 + 1]? = some _ := heap_below hb1 (heap_old (heap_old (heap_at (n := w.heap.size + 1 + 1) (by simp) _) _) _)
  have c1 := cell_at z1
  have f1 := frozen_at z1
  have z2 : w1.heap[w.heap.size + 1 + 1 + 1]? = some _ := heap_below hb1 (heap_old (heap_at (n := w.heap.size + 1 + 1 + 1) (by simp) _) _)
  have c2 := cell_at z2
  have f2 := frozen_at z2
  have hw1 : Below w.heap.size w w1 := by
    focus (repeat (first | (with_reducible exact Below.refl _ _) | (with_reducible assumption) | ((with_reducible refine Below.setCell ?_ ?_ _); rotate_left; (focus (first | omega | (simp; done) | (simp; omega)))) | ((with_reducible refine Below.alloc ?_ ?_ _); rotate_left; (focus (first | omega | (simp; done) | (simp; omega)))) | (with_reducible refine Below.drew ?_) | (refine below_on ?_ (by assumption))))
  clear hb1
  go_wp2_with fail
  refine (sub_ok _ _ HX.out HY.out _).mono ?_
  rintro e w2 ⟨rfl, hb2⟩
  have z10 : w2.heap[w.heap.size]? = some _ := heap_below hb2 z0
  have c10 := cell_at z10
  have f10 := frozen_at z10
  have z11 : w2.heap[w.heap.size + 1 + 1]? = some _ := heap_below hb2 z1
  have c11 := cell_at z11
  have f11 := frozen_at z11
  have z12 : w2.heap[w.heap.size + 1 + 1 + 1]? = some _ := heap_below hb2 z2
  have c12 := cell_at z12
  have f12 := frozen_at z12
  have hw2 : Below w.heap.size w w2 := below_on hw1 hb2
  have hsz := lt_of_block z12
  clear z0 c0 f0 z7 c7 f7 z1 c1 f1 z2 c2 f2 hw1 hb2
  go_upto_region 4 with (fail)
  refine abs_wp (fun W => W.heap[w.heap.size]? = some (.cells #[.bool (ng (m)), .int .u64 (dg (ab (m)) 0), .int .u64 (dg (ab (m)) 1), .int .u64 (dg (ab (m)) 2), .int .u64 (dg (ab (m)) 3)] 25 (0, 0)) ∧ W.heap[w.heap.size + 1 + 1]? = some (.cells #[.int .i64 0] 3 (0, 0)) ∧ W.heap[w.heap.size + 1 + 1 + 1]? = some (.cells #[.int .i64 (addE [m, -n])] 26 (0, 0)) ∧
    W.heap[w2.heap.size]? = some (.cells #[.bool (ng (addV [m, -n])), .int .u64 (dg (ab (addV [m, -n])) 0), .int .u64 (dg (ab (addV [m, -n])) 1), .int .u64 (dg (ab (addV [m, -n])) 2), .int .u64 (dg (ab (addV [m, -n])) 3)] 25 (0, 0)) ∧ Below w.heap.size w W) ?_ fun W ⟨y0, y1, y2, y3, hB⟩ => ?_
  · obtain ⟨k1, k2, k3⟩ := laid_one (w.heap.size + 1 + 1 + 1) w2 (.int .i64 (addE [m, -n]))
    have hk := hw2.trans (k3 w.heap.size (by omega))
    have hks := hk.size
    exact ⟨heap_old (k2 _ _ (by omega) z10) _, heap_old (k2 _ _ (by omega) z11) _, heap_old (k1 z12 rfl) _, heap_at (by simp) _, by focus (repeat (first | (with_reducible exact Below.refl _ _) | (with_reducible assumption) | ((with_reducible refine Below.setCell ?_ ?_ _); rotate_left; (focus (first | omega | (simp; done) | (simp; omega)))) | ((with_reducible refine Below.alloc ?_ ?_ _); rotate_left; (focus (first | omega | (simp; done) | (simp; omega)))) | (with_reducible refine Below.drew ?_) | (refine below_on ?_ (by assumption))))⟩
  clear z10 c10 f10 z11 c11 f11 z12 c12 f12 hw2
  rcases HS.out with ⟨h1, h2, h3⟩ | ⟨h2, h3⟩
  · rw [h2] at y2
    rw [h3] at y3
    have HD : Hd (ab (m - n) < 2 ^ 256) := ⟨h1⟩
    clear h1 h2 h3
    have c2 := cell_at y2
    have c3 := cell_at y3
    go_wp2_with fail
    refine (sign_ok _ HD.out _).mono ?_
    rintro e w3 ⟨rfl, hb3⟩
    have z5 : w3.heap[w.heap.size + 1 + 1]? = some _ := heap_below hb3 y1
    have c5 := cell_at z5
    have f5 := frozen_at z5
    have z6 : w3.heap[w.heap.size + 1 + 1 + 1]? = some _ := heap_below hb3 y2
    have c6 := cell_at z6
    have f6 := frozen_at z6
    have hw3 : Below w.heap.size w w3 := below_on hB hb3
    clear y0 y1 y2 y3 c2 c3 hb3 hB
    go_wp2
    refine leaves_cons (f := 43) (args := #[.pointer (some ⟨w.heap.size + 1 + 1 + 1, 0, none⟩), .func (.func 73) #[] #[.pointer (some ⟨w.heap.size + 1 + 1, 0, none⟩)]]) (by simp) (by simp [go_sem]) ?_
    refine (caught_idle _ _ _).mono ?_
    rintro e u' w4 ⟨rfl, rfl, rfl⟩
    refine abs_leaves (OutI w (w.heap.size + 1 + 1) (w.heap.size + 1 + 1 + 1) (sgn (m - n)) 0) (outI_of (by omega) (by omega) z5 z6 rfl rfl hw3 (laid_one ..) (laid_one ..)) fun W ⟨y1, y2, hB⟩ => ?_
    have c1 := cell_at y1
    have c2 := cell_at y2
    simp [Leaves, settle, results, Try.results40, go_sem, c1, c2]
    exact hB
  · rw [h2] at y2
    have H3 := Hd.mk h3
    clear h2 h3
    have c0 := cell_at y0
    have c2 := cell_at y2
    have c3 := cell_at y3
    have f3 := frozen_at y3
    go_upto_region 6 with (fail)
    obtain ⟨l1, l2, l3⟩ := laid_five w2.heap.size W (.bool (ng m)) (.int .u64 (dg (ab m) 0)) (.int .u64 (dg (ab m) 1)) (.int .u64 (dg (ab m) 2)) (.int .u64 (dg (ab m) 3))
    refine abs_wp (fun W => W.heap[w.heap.size + 1 + 1]? = some (.cells #[.int .i64 0] 3 (0, 0)) ∧ W.heap[w.heap.size + 1 + 1 + 1]? = some (.cells #[.int .i64 110] 26 (0, 0)) ∧
      W.heap[w2.heap.size]? = some (.cells #[.bool (ng (m)), .int .u64 (dg (ab (m)) 0), .int .u64 (dg (ab (m)) 1), .int .u64 (dg (ab (m)) 2), .int .u64 (dg (ab (m)) 3)] 25 (0, 0)) ∧ Below w.heap.size w W) ⟨l2 _ _ (by omega) y1, l2 _ _ (by omega) y2, l1 y3 rfl, hB.trans (l3 _ (by omega))⟩ fun W ⟨y1, y2, y3, hB⟩ => ?_
    clear c0 c2 c3 f3 l1 l2 l3
    have c3 := cell_at y3
    go_wp2_with fail
    refine (sign_ok _ HX.out _).mono ?_
    rintro e w3 ⟨rfl, hb3⟩
    have z5 : w3.heap[w.heap.size + 1 + 1]? = some _ := heap_below hb3 y1
    have c5 := cell_at z5
    have f5 := frozen_at z5
    have z6 : w3.heap[w.heap.size + 1 + 1 + 1]? = some _ := heap_below hb3 y2
    have c6 := cell_at z6
    have f6 := frozen_at z6
    have hw3 : Below w.heap.size w w3 := below_on hB hb3
    clear y0 y1 y2 y3 c3 hb3 hB
    go_wp2
    refine leaves_cons (f := 43) (args := #[.pointer (some ⟨w.heap.size + 1 + 1 + 1, 0, none⟩), .func (.func 73) #[] #[.pointer (some ⟨w.heap.size + 1 + 1, 0, none⟩)]]) (by simp) (by simp [go_sem]) ?_
    refine (caught_idle _ _ _).mono ?_
    rintro e u' w4 ⟨rfl, rfl, rfl⟩
    refine abs_leaves (OutI w (w.heap.size + 1 + 1) (w.heap.size + 1 + 1 + 1) (sgn m) 0) (outI_of (by omega) (by omega) z5 z6 rfl rfl hw3 (laid_one ..) (laid_one ..)) fun W ⟨y1, y2, hB⟩ => ?_
    have c1 := cell_at y1
    have c2 := cell_at y2
    simp [Leaves, settle, results, Try.results40, go_sem, c1, c2]
    exact ⟨H3.out, hB⟩
end Go.Proofs.Yteibcklcegkbcaa
