/-
  Walks of ratio: the sign of a signed wide number. Conditions stand in each theorem.
-/
import Derived.Test.YtbhfnfokihdjjaaGreatDoorWd3
namespace Go.Proofs.YtbhfnfokihdjjaaGreatDoor
open Go.RowKit Go.BigFrame

theorem wless_ge (a b : Nat) (ha : a < 2 ^ (64 * 9)) (h : b ≤ a) (w : World) :
    Calls Tryz.prog 128 #[.agg #[.int .u64 (dg (a) 0), .int .u64 (dg (a) 1), .int .u64 (dg (a) 2), .int .u64 (dg (a) 3), .int .u64 (dg (a) 4), .int .u64 (dg (a) 5), .int .u64 (dg (a) 6), .int .u64 (dg (a) 7), .int .u64 (dg (a) 8)], .agg #[.int .u64 (dg (b) 0), .int .u64 (dg (b) 1), .int .u64 (dg (b) 2), .int .u64 (dg (b) 3), .int .u64 (dg (b) 4), .int .u64 (dg (b) 5), .int .u64 (dg (b) 6), .int .u64 (dg (b) 7), .int .u64 (dg (b) 8)]] w fun e w' => e = .returned (.tuple #[.agg #[.int .u64 (dg (a - b) 0), .int .u64 (dg (a - b) 1), .int .u64 (dg (a - b) 2), .int .u64 (dg (a - b) 3), .int .u64 (dg (a - b) 4), .int .u64 (dg (a - b) 5), .int .u64 (dg (a - b) 6), .int .u64 (dg (a - b) 7), .int .u64 (dg (a - b) 8)], .bool false]) ∧ Below w.heap.size w w' := by
  have h1 := wless_any a b ha (Nat.lt_of_le_of_lt h ha) w
  simp only [dg_sub_ge 9 _ ha h (by omega : (0 : Nat) < 9), dg_sub_ge 9 _ ha h (by omega : (1 : Nat) < 9), dg_sub_ge 9 _ ha h (by omega : (2 : Nat) < 9), dg_sub_ge 9 _ ha h (by omega : (3 : Nat) < 9), dg_sub_ge 9 _ ha h (by omega : (4 : Nat) < 9), dg_sub_ge 9 _ ha h (by omega : (5 : Nat) < 9), dg_sub_ge 9 _ ha h (by omega : (6 : Nat) < 9), dg_sub_ge 9 _ ha h (by omega : (7 : Nat) < 9), dg_sub_ge 9 _ ha h (by omega : (8 : Nat) < 9), decide_eq_false (Nat.not_lt.2 h)] at h1
  exact h1
theorem wless_lt (a b : Nat) (hb : b < 2 ^ (64 * 9)) (h : a < b) (w : World) :
    Calls Tryz.prog 128 #[.agg #[.int .u64 (dg (a) 0), .int .u64 (dg (a) 1), .int .u64 (dg (a) 2), .int .u64 (dg (a) 3), .int .u64 (dg (a) 4), .int .u64 (dg (a) 5), .int .u64 (dg (a) 6), .int .u64 (dg (a) 7), .int .u64 (dg (a) 8)], .agg #[.int .u64 (dg (b) 0), .int .u64 (dg (b) 1), .int .u64 (dg (b) 2), .int .u64 (dg (b) 3), .int .u64 (dg (b) 4), .int .u64 (dg (b) 5), .int .u64 (dg (b) 6), .int .u64 (dg (b) 7), .int .u64 (dg (b) 8)]] w fun e w' => ∃ R, e = .returned (.tuple #[.agg #[.int .u64 (dg (R) 0), .int .u64 (dg (R) 1), .int .u64 (dg (R) 2), .int .u64 (dg (R) 3), .int .u64 (dg (R) 4), .int .u64 (dg (R) 5), .int .u64 (dg (R) 6), .int .u64 (dg (R) 7), .int .u64 (dg (R) 8)], .bool true]) ∧ Below w.heap.size w w' := by
  have h1 := wless_any a b (Nat.lt_trans h hb) hb w
  rw [decide_eq_true h] at h1
  exact h1.mono fun e w' ⟨h2, h3⟩ => ⟨_, h2, h3⟩
set_option maxRecDepth 20000 in
set_option maxHeartbeats 4000000 in
theorem splus_same (s t : Bool) (x y : Nat) (hst : s = t) (w : World) :
    Calls Tryz.prog 111 #[.agg #[.int .u64 (dg (x) 0), .int .u64 (dg (x) 1), .int .u64 (dg (x) 2), .int .u64 (dg (x) 3), .int .u64 (dg (x) 4), .int .u64 (dg (x) 5), .int .u64 (dg (x) 6), .int .u64 (dg (x) 7), .int .u64 (dg (x) 8), .bool (s)], .agg #[.int .u64 (dg (y) 0), .int .u64 (dg (y) 1), .int .u64 (dg (y) 2), .int .u64 (dg (y) 3), .int .u64 (dg (y) 4), .int .u64 (dg (y) 5), .int .u64 (dg (y) 6), .int .u64 (dg (y) 7), .int .u64 (dg (y) 8), .bool (t)]] w fun e w' => e = .returned (.agg #[.int .u64 (dg (x + y) 0), .int .u64 (dg (x + y) 1), .int .u64 (dg (x + y) 2), .int .u64 (dg (x + y) 3), .int .u64 (dg (x + y) 4), .int .u64 (dg (x + y) 5), .int .u64 (dg (x + y) 6), .int .u64 (dg (x + y) 7), .int .u64 (dg (x + y) 8), .bool (s)]) ∧ Below w.heap.size w w' := by
  have hbe : (s == t) = true := by simpa using hst
  clear hst
  go_enter Tryz.func111, Tryz.ntmps111
  go_upto_region 2 with (fail)
  refine abs_wp (fun W => W.heap[w.heap.size]? = some (.cells #[.int .u64 (dg (x) 0), .int .u64 (dg (x) 1), .int .u64 (dg (x) 2), .int .u64 (dg (x) 3), .int .u64 (dg (x) 4), .int .u64 (dg (x) 5), .int .u64 (dg (x) 6), .int .u64 (dg (x) 7), .int .u64 (dg (x) 8), .bool (s)] 162 (0, 0)) ∧ W.heap[w.heap.size + 1]? = some (.cells #[.int .u64 (dg (y) 0), .int .u64 (dg (y) 1), .int .u64 (dg (y) 2), .int .u64 (dg (y) 3), .int .u64 (dg (y) 4), .int .u64 (dg (y) 5), .int .u64 (dg (y) 6), .int .u64 (dg (y) 7), .int .u64 (dg (y) 8), .bool (t)] 162 (0, 0)) ∧ W.heap[w.heap.size + 1 + 1]? = some (.cells #[.int .u64 (dg (0) 0), .int .u64 (dg (0) 1), .int .u64 (dg (0) 2), .int .u64 (dg (0) 3), .int .u64 (dg (0) 4), .int .u64 (dg (0) 5), .int .u64 (dg (0) 6), .int .u64 (dg (0) 7), .int .u64 (dg (0) 8), .bool (false)] 162 (0, 0)) ∧ Below w.heap.size w W) ⟨heap_old (heap_old (heap_new _ _) _) _, heap_old (heap_at (by simp) _) _, by simp only [dg_zero]; exact heap_at (by simp) _, by focus (repeat (first | (with_reducible exact Below.refl _ _) | (with_reducible assumption) | ((with_reducible refine Below.setCell ?_ ?_ _); rotate_left; (focus (first | omega | (simp; done) | (simp; omega)))) | ((with_reducible refine Below.alloc ?_ ?_ _); rotate_left; (focus (first | omega | (simp; done) | (simp; omega)))) | (with_reducible refine Below.drew ?_) | (refine below_on ?_ (by assumption))))⟩ fun W ⟨y0, y1, y2, hB⟩ => ?_
  have hB0 : Below w.heap.size w W.drew := Below.drew hB
  have z0 : W.drew.heap[w.heap.size]? = some (.cells #[.int .u64 (dg (x) 0), .int .u64 (dg (x) 1), .int .u64 (dg (x) 2), .int .u64 (dg (x) 3), .int .u64 (dg (x) 4), .int .u64 (dg (x) 5), .int .u64 (dg (x) 6), .int .u64 (dg (x) 7), .int .u64 (dg (x) 8), .bool (s)] 162 (0, 0)) := y0
  have z1 : W.drew.heap[w.heap.size + 1]? = some (.cells #[.int .u64 (dg (y) 0), .int .u64 (dg (y) 1), .int .u64 (dg (y) 2), .int .u64 (dg (y) 3), .int .u64 (dg (y) 4), .int .u64 (dg (y) 5), .int .u64 (dg (y) 6), .int .u64 (dg (y) 7), .int .u64 (dg (y) 8), .bool (t)] 162 (0, 0)) := y1
  have z2 : W.drew.heap[w.heap.size + 1 + 1]? = some (.cells #[.int .u64 (dg (0) 0), .int .u64 (dg (0) 1), .int .u64 (dg (0) 2), .int .u64 (dg (0) 3), .int .u64 (dg (0) 4), .int .u64 (dg (0) 5), .int .u64 (dg (0) 6), .int .u64 (dg (0) 7), .int .u64 (dg (0) 8), .bool (false)] 162 (0, 0)) := y2
  have d0 := cell_at y0
  have d1 := cell_at y1
  clear y0 y1 y2 hB
  go_region_with
    ((go_at_call 127; refine (wsum_any x y _).mono ?_; rintro e wb ⟨rfl, hb⟩; have hB2 := below_on hB0 hb; have z3 := heap_below hb z2; have q0 := cell_at (heap_below hb z0); have q1 := cell_at z3; have q2 := frozen_at z3; clear hb))
  all_goals
    obtain ⟨l1, l2, l3⟩ := laid_10 (w.heap.size + 1 + 1) wb (.int .u64 (dg (x + y) 0)) (.int .u64 (dg (x + y) 1)) (.int .u64 (dg (x + y) 2)) (.int .u64 (dg (x + y) 3)) (.int .u64 (dg (x + y) 4)) (.int .u64 (dg (x + y) 5)) (.int .u64 (dg (x + y) 6)) (.int .u64 (dg (x + y) 7)) (.int .u64 (dg (x + y) 8)) (.bool (s))
    have z4 := l1 z3 rfl
    have HF := Hd.mk (hB2.trans (l3 w.heap.size (by omega)))
    have c2 := cell_at z4
    have f2 := frozen_at z4
    clear l1 l2 l3 z3 q0 q1 q2 hB2 hB0 z0 z1 z2 d0 d1
    go_wp2
    refine bodyPost_ret (by simp [results, Tryz.results111, go_sem, c2]) rfl ⟨rfl, HF.out⟩
set_option maxRecDepth 20000 in
set_option maxHeartbeats 4000000 in
theorem splus_ge (s t : Bool) (x y : Nat) (hst : ¬ s = t) (hx : x < 2 ^ (64 * 9)) (h : y ≤ x) (w : World) :
    Calls Tryz.prog 111 #[.agg #[.int .u64 (dg (x) 0), .int .u64 (dg (x) 1), .int .u64 (dg (x) 2), .int .u64 (dg (x) 3), .int .u64 (dg (x) 4), .int .u64 (dg (x) 5), .int .u64 (dg (x) 6), .int .u64 (dg (x) 7), .int .u64 (dg (x) 8), .bool (s)], .agg #[.int .u64 (dg (y) 0), .int .u64 (dg (y) 1), .int .u64 (dg (y) 2), .int .u64 (dg (y) 3), .int .u64 (dg (y) 4), .int .u64 (dg (y) 5), .int .u64 (dg (y) 6), .int .u64 (dg (y) 7), .int .u64 (dg (y) 8), .bool (t)]] w fun e w' => e = .returned (.agg #[.int .u64 (dg (x - y) 0), .int .u64 (dg (x - y) 1), .int .u64 (dg (x - y) 2), .int .u64 (dg (x - y) 3), .int .u64 (dg (x - y) 4), .int .u64 (dg (x - y) 5), .int .u64 (dg (x - y) 6), .int .u64 (dg (x - y) 7), .int .u64 (dg (x - y) 8), .bool (s)]) ∧ Below w.heap.size w w' := by
  have hbe : (s == t) = false := by simpa using hst
  have HX := Hd.mk hx
  have HH := Hd.mk h
  clear hst hx h
  go_enter Tryz.func111, Tryz.ntmps111
  go_upto_region 3 with (fail)
  refine abs_wp (fun W => W.heap[w.heap.size]? = some (.cells #[.int .u64 (dg (x) 0), .int .u64 (dg (x) 1), .int .u64 (dg (x) 2), .int .u64 (dg (x) 3), .int .u64 (dg (x) 4), .int .u64 (dg (x) 5), .int .u64 (dg (x) 6), .int .u64 (dg (x) 7), .int .u64 (dg (x) 8), .bool (s)] 162 (0, 0)) ∧ W.heap[w.heap.size + 1]? = some (.cells #[.int .u64 (dg (y) 0), .int .u64 (dg (y) 1), .int .u64 (dg (y) 2), .int .u64 (dg (y) 3), .int .u64 (dg (y) 4), .int .u64 (dg (y) 5), .int .u64 (dg (y) 6), .int .u64 (dg (y) 7), .int .u64 (dg (y) 8), .bool (t)] 162 (0, 0)) ∧ W.heap[w.heap.size + 1 + 1]? = some (.cells #[.int .u64 (dg (0) 0), .int .u64 (dg (0) 1), .int .u64 (dg (0) 2), .int .u64 (dg (0) 3), .int .u64 (dg (0) 4), .int .u64 (dg (0) 5), .int .u64 (dg (0) 6), .int .u64 (dg (0) 7), .int .u64 (dg (0) 8), .bool (false)] 162 (0, 0)) ∧ Below w.heap.size w W) ⟨heap_old (heap_old (heap_new _ _) _) _, heap_old (heap_at (by simp) _) _, by simp only [dg_zero]; exact heap_at (by simp) _, by focus (repeat (first | (with_reducible exact Below.refl _ _) | (with_reducible assumption) | ((with_reducible refine Below.setCell ?_ ?_ _); rotate_left; (focus (first | omega | (simp; done) | (simp; omega)))) | ((with_reducible refine Below.alloc ?_ ?_ _); rotate_left; (focus (first | omega | (simp; done) | (simp; omega)))) | (with_reducible refine Below.drew ?_) | (refine below_on ?_ (by assumption))))⟩ fun W ⟨y0, y1, y2, hB⟩ => ?_
  have c0 := cell_at y0
  have c1 := cell_at y1
  go_wp2_with fail
  refine (wless_ge x y HX.out HH.out _).mono ?_
  rintro e wb ⟨rfl, hb⟩
  have z0 := heap_below hb y0
  have z1 := heap_below hb y1
  have z3 := heap_below hb y2
  have hB2 := below_on hB hb
  have e0 := cell_at z0
  have e1 := cell_at z1
  have l0 := lt_of_block z0
  have l1 := lt_of_block z1
  have l2 := lt_of_block z3
  have n0 := Nat.ne_of_lt l0
  have n1 := Nat.ne_of_lt l1
  have n2 := Nat.ne_of_lt l2
  have q1 := cell_at z3
  have q2 := frozen_at z3
  clear y0 y1 y2 hB hb c0 c1
  have hW0 := Hd.mk hB2
  clear hB2
  go_wp2
  have hB2 := hW0.out
  obtain ⟨l1, l2, l3⟩ := laid_10 (w.heap.size + 1 + 1) wb (.int .u64 (dg (x - y) 0)) (.int .u64 (dg (x - y) 1)) (.int .u64 (dg (x - y) 2)) (.int .u64 (dg (x - y) 3)) (.int .u64 (dg (x - y) 4)) (.int .u64 (dg (x - y) 5)) (.int .u64 (dg (x - y) 6)) (.int .u64 (dg (x - y) 7)) (.int .u64 (dg (x - y) 8)) (.bool (s))
  have hF := hB2.trans (l3 w.heap.size (by omega))
  have z4 := heap_old (l1 z3 rfl) (.cells #[.int .u64 (dg (x - y) 0), .int .u64 (dg (x - y) 1), .int .u64 (dg (x - y) 2), .int .u64 (dg (x - y) 3), .int .u64 (dg (x - y) 4), .int .u64 (dg (x - y) 5), .int .u64 (dg (x - y) 6), .int .u64 (dg (x - y) 7), .int .u64 (dg (x - y) 8)] 160)
  have c2 := cell_at z4
  refine bodyPost_ret (by simp [results, Tryz.results111, go_sem, c2]) rfl ⟨rfl, hF.alloc hF.size _⟩
set_option maxRecDepth 20000 in
set_option maxHeartbeats 4000000 in
theorem splus_lt (s t : Bool) (x y : Nat) (hst : ¬ s = t) (hy : y < 2 ^ (64 * 9)) (h : x < y) (w : World) :
    Calls Tryz.prog 111 #[.agg #[.int .u64 (dg (x) 0), .int .u64 (dg (x) 1), .int .u64 (dg (x) 2), .int .u64 (dg (x) 3), .int .u64 (dg (x) 4), .int .u64 (dg (x) 5), .int .u64 (dg (x) 6), .int .u64 (dg (x) 7), .int .u64 (dg (x) 8), .bool (s)], .agg #[.int .u64 (dg (y) 0), .int .u64 (dg (y) 1), .int .u64 (dg (y) 2), .int .u64 (dg (y) 3), .int .u64 (dg (y) 4), .int .u64 (dg (y) 5), .int .u64 (dg (y) 6), .int .u64 (dg (y) 7), .int .u64 (dg (y) 8), .bool (t)]] w fun e w' => e = .returned (.agg #[.int .u64 (dg (y - x) 0), .int .u64 (dg (y - x) 1), .int .u64 (dg (y - x) 2), .int .u64 (dg (y - x) 3), .int .u64 (dg (y - x) 4), .int .u64 (dg (y - x) 5), .int .u64 (dg (y - x) 6), .int .u64 (dg (y - x) 7), .int .u64 (dg (y - x) 8), .bool (t)]) ∧ Below w.heap.size w w' := by
  have hbe : (s == t) = false := by simpa using hst
  have HY := Hd.mk hy
  have HH := Hd.mk h
  clear hst hy h
  go_enter Tryz.func111, Tryz.ntmps111
  go_upto_region 3 with (fail)
  refine abs_wp (fun W => W.heap[w.heap.size]? = some (.cells #[.int .u64 (dg (x) 0), .int .u64 (dg (x) 1), .int .u64 (dg (x) 2), .int .u64 (dg (x) 3), .int .u64 (dg (x) 4), .int .u64 (dg (x) 5), .int .u64 (dg (x) 6), .int .u64 (dg (x) 7), .int .u64 (dg (x) 8), .bool (s)] 162 (0, 0)) ∧ W.heap[w.heap.size + 1]? = some (.cells #[.int .u64 (dg (y) 0), .int .u64 (dg (y) 1), .int .u64 (dg (y) 2), .int .u64 (dg (y) 3), .int .u64 (dg (y) 4), .int .u64 (dg (y) 5), .int .u64 (dg (y) 6), .int .u64 (dg (y) 7), .int .u64 (dg (y) 8), .bool (t)] 162 (0, 0)) ∧ W.heap[w.heap.size + 1 + 1]? = some (.cells #[.int .u64 (dg (0) 0), .int .u64 (dg (0) 1), .int .u64 (dg (0) 2), .int .u64 (dg (0) 3), .int .u64 (dg (0) 4), .int .u64 (dg (0) 5), .int .u64 (dg (0) 6), .int .u64 (dg (0) 7), .int .u64 (dg (0) 8), .bool (false)] 162 (0, 0)) ∧ Below w.heap.size w W) ⟨heap_old (heap_old (heap_new _ _) _) _, heap_old (heap_at (by simp) _) _, by simp only [dg_zero]; exact heap_at (by simp) _, by focus (repeat (first | (with_reducible exact Below.refl _ _) | (with_reducible assumption) | ((with_reducible refine Below.setCell ?_ ?_ _); rotate_left; (focus (first | omega | (simp; done) | (simp; omega)))) | ((with_reducible refine Below.alloc ?_ ?_ _); rotate_left; (focus (first | omega | (simp; done) | (simp; omega)))) | (with_reducible refine Below.drew ?_) | (refine below_on ?_ (by assumption))))⟩ fun W ⟨y0, y1, y2, hB⟩ => ?_
  have c0 := cell_at y0
  have c1 := cell_at y1
  go_wp2_with fail
  refine (wless_lt x y HY.out HH.out _).mono ?_
  rintro e wb ⟨R, rfl, hb⟩
  have z0 := heap_below hb y0
  have z1 := heap_below hb y1
  have z3 := heap_below hb y2
  have hB2 := below_on hB hb
  have e0 := cell_at z0
  have e1 := cell_at z1
  have l0 := lt_of_block z0
  have l1 := lt_of_block z1
  have l2 := lt_of_block z3
  have n0 := Nat.ne_of_lt l0
  have n1 := Nat.ne_of_lt l1
  have n2 := Nat.ne_of_lt l2
  have q1 := cell_at z3
  have q2 := frozen_at z3
  clear y0 y1 y2 hB hb c0 c1
  go_wp2_with fail
  refine (wless_ge y x HY.out (Nat.le_of_lt HH.out) _).mono ?_
  rintro e wc ⟨rfl, hb⟩
  have y1 := heap_below hb (heap_old z1 _)
  have y3 := heap_below hb (heap_old z3 _)
  have hBx : Below w.heap.size w (wb.alloc (.cells #[.int .u64 (dg (R) 0), .int .u64 (dg (R) 1), .int .u64 (dg (R) 2), .int .u64 (dg (R) 3), .int .u64 (dg (R) 4), .int .u64 (dg (R) 5), .int .u64 (dg (R) 6), .int .u64 (dg (R) 7), .int .u64 (dg (R) 8)] 160)) := hB2.alloc hB2.size _
  have hB3 := Hd.mk (below_on hBx hb)
  clear z0 z1 z3 hB2 e0 e1 l0 l1 l2 n0 n1 n2 q1 q2 hBx hb
  have z3 := y3
  have e1 := cell_at y1
  have q1 := cell_at z3
  have q2 := frozen_at z3
  have l1 := lt_of_block y1
  have l2 := lt_of_block z3
  have n1 := Nat.ne_of_lt l1
  have n2 := Nat.ne_of_lt l2
  clear y1 y3
  go_wp2
  have hB2 := hB3.out
  obtain ⟨l1, l2, l3⟩ := laid_10 (w.heap.size + 1 + 1) wc (.int .u64 (dg (y - x) 0)) (.int .u64 (dg (y - x) 1)) (.int .u64 (dg (y - x) 2)) (.int .u64 (dg (y - x) 3)) (.int .u64 (dg (y - x) 4)) (.int .u64 (dg (y - x) 5)) (.int .u64 (dg (y - x) 6)) (.int .u64 (dg (y - x) 7)) (.int .u64 (dg (y - x) 8)) (.bool (t))
  have hF := hB2.trans (l3 w.heap.size (by omega))
  have z4 := heap_old (l1 z3 rfl) (.cells #[.int .u64 (dg (y - x) 0), .int .u64 (dg (y - x) 1), .int .u64 (dg (y - x) 2), .int .u64 (dg (y - x) 3), .int .u64 (dg (y - x) 4), .int .u64 (dg (y - x) 5), .int .u64 (dg (y - x) 6), .int .u64 (dg (y - x) 7), .int .u64 (dg (y - x) 8)] 160)
  have c2 := cell_at z4
  refine bodyPost_ret (by simp [results, Tryz.results111, go_sem, c2]) rfl ⟨rfl, hF.alloc hF.size _⟩
theorem splus_any (s t : Bool) (x y : Nat) (hx : x < 2 ^ (64 * 9)) (hy : y < 2 ^ (64 * 9)) (w : World) :
    Calls Tryz.prog 111 #[.agg #[.int .u64 (dg (x) 0), .int .u64 (dg (x) 1), .int .u64 (dg (x) 2), .int .u64 (dg (x) 3), .int .u64 (dg (x) 4), .int .u64 (dg (x) 5), .int .u64 (dg (x) 6), .int .u64 (dg (x) 7), .int .u64 (dg (x) 8), .bool (s)], .agg #[.int .u64 (dg (y) 0), .int .u64 (dg (y) 1), .int .u64 (dg (y) 2), .int .u64 (dg (y) 3), .int .u64 (dg (y) 4), .int .u64 (dg (y) 5), .int .u64 (dg (y) 6), .int .u64 (dg (y) 7), .int .u64 (dg (y) 8), .bool (t)]] w fun e w' => ∃ b n, e = .returned (.agg #[.int .u64 (dg (n) 0), .int .u64 (dg (n) 1), .int .u64 (dg (n) 2), .int .u64 (dg (n) 3), .int .u64 (dg (n) 4), .int .u64 (dg (n) 5), .int .u64 (dg (n) 6), .int .u64 (dg (n) 7), .int .u64 (dg (n) 8), .bool (b)]) ∧ zof b n = zof s x + zof t y ∧ n ≤ x + y ∧ Below w.heap.size w w' := by
  by_cases hst : s = t
  · exact (splus_same s t x y hst w).mono fun e w' ⟨h1, h2⟩ => ⟨_, _, h1, by subst hst; unfold zof; split <;> omega, Nat.le_refl _, h2⟩
  · by_cases h : y ≤ x
    · exact (splus_ge s t x y hst hx h w).mono fun e w' ⟨h1, h2⟩ => ⟨_, _, h1, by cases s <;> cases t <;> simp [zof] at hst ⊢ <;> omega, by omega, h2⟩
    · exact (splus_lt s t x y hst hy (by omega) w).mono fun e w' ⟨h1, h2⟩ => ⟨_, _, h1, by cases s <;> cases t <;> simp [zof] at hst ⊢ <;> omega, by omega, h2⟩
end Go.Proofs.YtbhfnfokihdjjaaGreatDoor

namespace Go.Proofs.YtbhfnfokihdjjaaGreatDoor
open Go.RowKit Go.BigFrame

theorem mod_zero (n : Nat) : ∀ k, (∀ i, i < k → dg n i = 0) → n % 2 ^ (64 * k) = 0
  | 0, _ => by simp [Nat.mod_one]
  | k + 1, h => by
    rw [pow_step, mod_step, mod_zero n k (fun i hi => h i (by omega)), ← dg_toNat, h k (by omega)]
    rfl
theorem nine_zeroK {n K : Nat} (hK : K = 9) (h : n < 2 ^ (64 * K)) : (dg n 0 == 0 && (dg n 1 == 0 && (dg n 2 == 0 && (dg n 3 == 0 && (dg n 4 == 0 && (dg n 5 == 0 && (dg n 6 == 0 && (dg n 7 == 0 && (dg n 8 == 0))))))))) = decide (n = 0) := by
  rw [Bool.eq_iff_iff]
  simp only [Bool.and_eq_true, beq_iff_eq, decide_eq_true_eq]
  constructor
  · rintro ⟨h0, h1, h2, h3, h4, h5, h6, h7, h8⟩
    have := mod_zero n K (fun i hi => by
      clear h
      obtain rfl | rfl | rfl | rfl | rfl | rfl | rfl | rfl | rfl : i = 0 ∨ i = 1 ∨ i = 2 ∨ i = 3 ∨ i = 4 ∨ i = 5 ∨ i = 6 ∨ i = 7 ∨ i = 8 := by omega
      · exact h0
      · exact h1
      · exact h2
      · exact h3
      · exact h4
      · exact h5
      · exact h6
      · exact h7
      · exact h8)
    rwa [Nat.mod_eq_of_lt h] at this
  · rintro rfl
    clear h
    simp only [dg_zero, and_self]
theorem nine_zero {n : Nat} (h : n < 2 ^ (64 * 9)) : (dg n 0 == 0 && (dg n 1 == 0 && (dg n 2 == 0 && (dg n 3 == 0 && (dg n 4 == 0 && (dg n 5 == 0 && (dg n 6 == 0 && (dg n 7 == 0 && (dg n 8 == 0))))))))) = decide (n = 0) := nine_zeroK rfl h
/-- -1, 0, 1. -/
def sgI (z : Int) : Int := if z < 0 then -1 else if z = 0 then 0 else 1
set_option maxRecDepth 20000 in
set_option maxHeartbeats 1000000 in
theorem ssign_any (s : Bool) (n : Nat) (hn : n < 2 ^ (64 * 9)) (w : World) :
    Calls Tryz.prog 112 #[.agg #[.int .u64 (dg (n) 0), .int .u64 (dg (n) 1), .int .u64 (dg (n) 2), .int .u64 (dg (n) 3), .int .u64 (dg (n) 4), .int .u64 (dg (n) 5), .int .u64 (dg (n) 6), .int .u64 (dg (n) 7), .int .u64 (dg (n) 8), .bool (s)]] w fun e w' => e = .returned (.int .i64 (sgI (zof s n))) ∧ Below w.heap.size w w' := by
  have hz := nine_zero hn
  clear hn
  by_cases h0 : n = 0
  · have HV : Hd (sgI (zof s n) = 0) := ⟨by rw [h0]; cases s <;> rfl⟩
    rw [decide_eq_true h0] at hz
    clear h0
    go_enter Tryz.func112, Tryz.ntmps112
    go_wp2
    go_ret
    exact ⟨by rw [HV.out]; rfl, by focus (repeat (first | (with_reducible exact Below.refl _ _) | (with_reducible assumption) | ((with_reducible refine Below.setCell ?_ ?_ _); rotate_left; (focus (first | omega | (simp; done) | (simp; omega)))) | ((with_reducible refine Below.alloc ?_ ?_ _); rotate_left; (focus (first | omega | (simp; done) | (simp; omega)))) | (with_reducible refine Below.drew ?_) | (refine below_on ?_ (by assumption))))⟩
  · rw [decide_eq_false h0] at hz
    cases s with
    | true =>
      have HV : Hd (sgI (zof true n) = -1) := ⟨by show sgI (-(n : Int)) = -1; unfold sgI; rw [if_pos (by omega)]⟩
      clear h0
      go_enter Tryz.func112, Tryz.ntmps112
      go_wp2
      go_ret
      exact ⟨by rw [HV.out]; rfl, by focus (repeat (first | (with_reducible exact Below.refl _ _) | (with_reducible assumption) | ((with_reducible refine Below.setCell ?_ ?_ _); rotate_left; (focus (first | omega | (simp; done) | (simp; omega)))) | ((with_reducible refine Below.alloc ?_ ?_ _); rotate_left; (focus (first | omega | (simp; done) | (simp; omega)))) | (with_reducible refine Below.drew ?_) | (refine below_on ?_ (by assumption))))⟩
    | false =>
      have HV : Hd (sgI (zof false n) = 1) := ⟨by show sgI (n : Int) = 1; unfold sgI; rw [if_neg (by omega), if_neg (by omega)]⟩
      clear h0
      go_enter Tryz.func112, Tryz.ntmps112
      go_wp2
      go_ret
      exact ⟨by rw [HV.out]; rfl, by focus (repeat (first | (with_reducible exact Below.refl _ _) | (with_reducible assumption) | ((with_reducible refine Below.setCell ?_ ?_ _); rotate_left; (focus (first | omega | (simp; done) | (simp; omega)))) | ((with_reducible refine Below.alloc ?_ ?_ _); rotate_left; (focus (first | omega | (simp; done) | (simp; omega)))) | (with_reducible refine Below.drew ?_) | (refine below_on ?_ (by assumption))))⟩
end Go.Proofs.YtbhfnfokihdjjaaGreatDoor
