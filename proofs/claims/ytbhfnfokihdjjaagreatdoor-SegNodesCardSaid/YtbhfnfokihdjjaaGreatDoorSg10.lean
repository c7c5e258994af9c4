/-
  Walks of point: which point is ahead. Conditions stand in each theorem.
-/
import Derived.Test.YtbhfnfokihdjjaaGreatDoorSg3
namespace Go.Proofs.YtbhfnfokihdjjaaGreatDoor
open Go.RowKit Go.BigFrame

/-- How three nodes turn. -/
def turnZ (ax ay bx by_ cx cy : Int) : Int := sgI ((bx - ax) * (cy - ay) - (by_ - ay) * (cx - ax))
theorem node_range {x y : Int} (h : nodeB x y = true) : (-67108864 ≤ x ∧ x ≤ 67108864) ∧ (-67108864 ≤ y ∧ y ≤ 67108864) := by
  unfold nodeB inR at h
  simpa only [Bool.and_eq_true, decide_eq_true_eq] using h
theorem mul_range {x y B C : Int} (hx : -B ≤ x ∧ x ≤ B) (hy : -C ≤ y ∧ y ≤ C) : -(B * C) ≤ x * y ∧ x * y ≤ B * C := by
  have hb : 0 ≤ B := by omega
  have hc : 0 ≤ C := by omega
  have h1 : (x * y).natAbs ≤ (B * C).natAbs := by
    rw [Int.natAbs_mul, Int.natAbs_mul]
    exact Nat.mul_le_mul (by omega) (by omega)
  have h2 : 0 ≤ B * C := Int.mul_nonneg hb hc
  omega
set_option maxRecDepth 20000 in
set_option maxHeartbeats 1000000 in
theorem rturn_ok (ax ay bx by_ cx cy : Int) (ha : nodeB ax ay = true) (hb : nodeB bx by_ = true) (hc : nodeB cx cy = true) (w : World) :
    Calls Tryz.prog 18 #[.agg #[.int .i64 ax, .int .i64 ay], .agg #[.int .i64 bx, .int .i64 by_], .agg #[.int .i64 cx, .int .i64 cy]] w fun e w' => e = .returned (.int .i64 (turnZ ax ay bx by_ cx cy)) ∧ Below w.heap.size w w' := by
  obtain ⟨⟨a1, a2⟩, a3, a4⟩ := node_range ha
  obtain ⟨⟨b1, b2⟩, b3, b4⟩ := node_range hb
  obtain ⟨⟨c1, c2⟩, c3, c4⟩ := node_range hc
  have m1 := mul_range (x := bx - ax) (y := cy - ay) (B := 134217728) (C := 134217728) (by omega) (by omega)
  have m2 := mul_range (x := by_ - ay) (y := cx - ax) (B := 134217728) (C := 134217728) (by omega) (by omega)
  clear ha hb hc
  go_enter Tryz.func18, Tryz.ntmps18
  go_wp2_with (go_at_call 45; refine (rsign64 _ _).mono ?_; rintro e w' ⟨rfl, rfl⟩)
  go_ret
  exact ⟨rfl, by focus (repeat (first | (with_reducible exact Below.refl _ _) | (with_reducible assumption) | ((with_reducible refine Below.setCell ?_ ?_ _); rotate_left; (focus (first | omega | (simp; done) | (simp; omega)))) | ((with_reducible refine Below.alloc ?_ ?_ _); rotate_left; (focus (first | omega | (simp; done) | (simp; omega)))) | (with_reducible refine Below.drew ?_) | (refine below_on ?_ (by assumption))))⟩
theorem cmp_sg (A B : Int) : cmpI A B = sgI (A - B) := by
  unfold cmpI sgI
  split <;> split <;> (try split) <;> (try split) <;> omega
theorem idxThree0 (a0 a1 b0 b1 c0 c1 : Int) (w : World) : (Instr.index 86 (.agg #[.int .i64 a0, .int .i64 a1, .int .i64 b0, .int .i64 b1, .int .i64 c0, .int .i64 c1]) (.int .i64 0)).run Tryz.prog w = .ok (.agg #[.int .i64 a0, .int .i64 a1]) w := by kernel_rfl
theorem idxThree1 (a0 a1 b0 b1 c0 c1 : Int) (w : World) : (Instr.index 86 (.agg #[.int .i64 a0, .int .i64 a1, .int .i64 b0, .int .i64 b1, .int .i64 c0, .int .i64 c1]) (.int .i64 1)).run Tryz.prog w = .ok (.agg #[.int .i64 b0, .int .i64 b1]) w := by kernel_rfl
theorem idxThree2 (a0 a1 b0 b1 c0 c1 : Int) (w : World) : (Instr.index 86 (.agg #[.int .i64 a0, .int .i64 a1, .int .i64 b0, .int .i64 b1, .int .i64 c0, .int .i64 c1]) (.int .i64 2)).run Tryz.prog w = .ok (.agg #[.int .i64 c0, .int .i64 c1]) w := by kernel_rfl
set_option maxRecDepth 20000 in
set_option maxHeartbeats 2000000 in
theorem turn_any (ax ay bx by_ cx cy : Int) (w : World) :
    Calls Tryz.prog 10 #[.agg #[.int .i64 ax, .int .i64 ay], .agg #[.int .i64 bx, .int .i64 by_], .agg #[.int .i64 cx, .int .i64 cy]] w fun e w' => e = .returned (.tuple #[.int .i64 (if nodeB ax ay && (nodeB bx by_ && nodeB cx cy) then turnZ ax ay bx by_ cx cy else 0), .int .i64 (if nodeB ax ay && (nodeB bx by_ && nodeB cx cy) then 0 else 2)]) ∧ Below w.heap.size w w' := by
  have hi0 := fun w => idxThree0 ax ay bx by_ cx cy w
  have hi1 := fun w => idxThree1 ax ay bx by_ cx cy w
  have hi2 := fun w => idxThree2 ax ay bx by_ cx cy w
  obtain ⟨p, hp⟩ : ∃ p, nodeB ax ay = p := ⟨_, rfl⟩
  obtain ⟨q, hq⟩ : ∃ q, nodeB bx by_ = q := ⟨_, rfl⟩
  obtain ⟨r, hr⟩ : ∃ r, nodeB cx cy = r := ⟨_, rfl⟩
  have HP := Hd.mk hp
  have HQ := Hd.mk hq
  have HR := Hd.mk hr
  rw [hp, hq, hr]
  clear hp hq hr
  go_enter Tryz.func10, Tryz.ntmps10
  go_wp2
  refine wp_loop_rounds 4 ?_
  rw [rounds_succ]
  go_wp2_with fail
  refine (pcheck_v ax ay p HP.out _).mono ?_
  rintro e wa ⟨rfl, hb⟩
  have z0 := heap_below hb (heap_old (heap_old (heap_old (heap_new w (.cells #[.int .i64 ax, .int .i64 ay] 23)) _) _) _)
  have z1 := heap_below hb (heap_old (heap_old (heap_at (n := w.heap.size + 1) (by simp) (.cells #[.int .i64 bx, .int .i64 by_] 23)) _) _)
  have z2 := heap_below hb (heap_old (heap_at (n := w.heap.size + 1 + 1) (by simp) (.cells #[.int .i64 cx, .int .i64 cy] 23)) _)
  have hB : Below w.heap.size w wa := below_on (by focus (repeat (first | (with_reducible exact Below.refl _ _) | (with_reducible assumption) | ((with_reducible refine Below.setCell ?_ ?_ _); rotate_left; (focus (first | omega | (simp; done) | (simp; omega)))) | ((with_reducible refine Below.alloc ?_ ?_ _); rotate_left; (focus (first | omega | (simp; done) | (simp; omega)))) | (with_reducible refine Below.drew ?_) | (refine below_on ?_ (by assumption))))) hb
  have s0 := lt_of_block z2
  have HPT := HP
  clear hb HP
  cases p with
  | false =>
    go_wp2
    refine bodyPost_ret (by first | (simp [results, Tryz.results10, go_sem]; done) | (simp [results, Tryz.results10, go_sem]; rfl)) rfl ⟨rfl, hB⟩
  | true =>
    go_wp2
    rw [rounds_succ]
    go_wp2_with fail
    refine (pcheck_v bx by_ q HQ.out _).mono ?_
    rintro e wb ⟨rfl, hb⟩
    have y0 := heap_below hb (heap_old z0 _)
    have y1 := heap_below hb (heap_old z1 _)
    have y2 := heap_below hb (heap_old z2 _)
    have hB1 : Below w.heap.size w wb := below_on (by have := hB.size; focus (repeat (first | (with_reducible exact Below.refl _ _) | (with_reducible assumption) | ((with_reducible refine Below.setCell ?_ ?_ _); rotate_left; (focus (first | omega | (simp; done) | (simp; omega)))) | ((with_reducible refine Below.alloc ?_ ?_ _); rotate_left; (focus (first | omega | (simp; done) | (simp; omega)))) | (with_reducible refine Below.drew ?_) | (refine below_on ?_ (by assumption))))) hb
    have HQT := HQ
    clear hb HQ z0 z1 z2 hB s0
    cases q with
    | false =>
      go_wp2
      refine bodyPost_ret (by first | (simp [results, Tryz.results10, go_sem]; done) | (simp [results, Tryz.results10, go_sem]; rfl)) rfl ⟨rfl, hB1⟩
    | true =>
      go_wp2
      rw [rounds_succ]
      go_wp2_with fail
      refine (pcheck_v cx cy r HR.out _).mono ?_
      rintro e wc ⟨rfl, hb⟩
      have x0 := heap_below hb (heap_old y0 _)
      have x1 := heap_below hb (heap_old y1 _)
      have x2 := heap_below hb (heap_old y2 _)
      have hB2 : Below w.heap.size w wc := below_on (by have := hB1.size; focus (repeat (first | (with_reducible exact Below.refl _ _) | (with_reducible assumption) | ((with_reducible refine Below.setCell ?_ ?_ _); rotate_left; (focus (first | omega | (simp; done) | (simp; omega)))) | ((with_reducible refine Below.alloc ?_ ?_ _); rotate_left; (focus (first | omega | (simp; done) | (simp; omega)))) | (with_reducible refine Below.drew ?_) | (refine below_on ?_ (by assumption))))) hb
      clear hb y0 y1 y2 hB1
      cases r with
      | false =>
        go_wp2
        refine bodyPost_ret (by first | (simp [results, Tryz.results10, go_sem]; done) | (simp [results, Tryz.results10, go_sem]; rfl)) rfl ⟨rfl, hB2⟩
      | true =>
        have q0 := cell_at x0
        have q1 := cell_at x1
        have q2 := cell_at x2
        have HB2 := Hd.mk hB2
        have HT := Hd.mk (cmp_sg ((bx - ax) * (cy - ay)) ((by_ - ay) * (cx - ax)))
        obtain ⟨⟨a1, a2⟩, a3, a4⟩ := node_range HPT.out
        obtain ⟨⟨b1, b2⟩, b3, b4⟩ := node_range HQT.out
        obtain ⟨⟨c1, c2⟩, c3, c4⟩ := node_range HR.out
        have m1 := mul_range (x := bx - ax) (y := cy - ay) (B := 134217728) (C := 134217728) (by omega) (by omega)
        have m2 := mul_range (x := by_ - ay) (y := cx - ax) (B := 134217728) (C := 134217728) (by omega) (by omega)
        clear hB2 x0 x1 x2 HR HPT HQT
        go_wp2
        rw [rounds_succ]
        go_wp2_with (go_at_call 38; refine (sign64 _ _ _).mono ?_; rintro e w' ⟨rfl, rfl⟩)
        refine bodyPost_ret (by first | (simp [results, Tryz.results10, go_sem]; done) | (simp [results, Tryz.results10, go_sem]; rfl)) rfl ⟨by rw [HT.out]; rfl, HB2.out⟩
end Go.Proofs.YtbhfnfokihdjjaaGreatDoor

namespace Go.Proofs.YtbhfnfokihdjjaaGreatDoor
open Go.RowKit Go.BigFrame

/-- Is the second end ahead of the first? -/
def backB (ax ay bx by_ : Int) : Bool := decide (ax > bx) || (ax == bx && decide (ay > by_))
set_option maxRecDepth 20000 in
set_option maxHeartbeats 1000000 in
theorem rlaid_any (ax ay bx by_ : Int) (w : World) :
    Calls Tryz.prog 15 #[.agg #[.int .i64 ax, .int .i64 ay, .int .i64 bx, .int .i64 by_]] w fun e w' => e = .returned (if backB ax ay bx by_ then .agg #[.int .i64 bx, .int .i64 by_, .int .i64 ax, .int .i64 ay] else .agg #[.int .i64 ax, .int .i64 ay, .int .i64 bx, .int .i64 by_]) ∧ Below w.heap.size w w' := by
  unfold backB
  cases h1 : decide (ax > bx)
  · cases h2 : (ax == bx)
    · go_enter Tryz.func15, Tryz.ntmps15
      go_wp2
      refine bodyPost_ret (by simp [results, Tryz.results15, go_sem]; rfl) rfl ⟨by simp, by focus (repeat (first | (with_reducible exact Below.refl _ _) | (with_reducible assumption) | ((with_reducible refine Below.setCell ?_ ?_ _); rotate_left; (focus (first | omega | (simp; done) | (simp; omega)))) | ((with_reducible refine Below.alloc ?_ ?_ _); rotate_left; (focus (first | omega | (simp; done) | (simp; omega)))) | (with_reducible refine Below.drew ?_) | (refine below_on ?_ (by assumption))))⟩
    · cases h3 : decide (ay > by_)
      · go_enter Tryz.func15, Tryz.ntmps15
        go_wp2
        refine bodyPost_ret (by simp [results, Tryz.results15, go_sem]; rfl) rfl ⟨by simp, by focus (repeat (first | (with_reducible exact Below.refl _ _) | (with_reducible assumption) | ((with_reducible refine Below.setCell ?_ ?_ _); rotate_left; (focus (first | omega | (simp; done) | (simp; omega)))) | ((with_reducible refine Below.alloc ?_ ?_ _); rotate_left; (focus (first | omega | (simp; done) | (simp; omega)))) | (with_reducible refine Below.drew ?_) | (refine below_on ?_ (by assumption))))⟩
      · go_enter Tryz.func15, Tryz.ntmps15
        go_wp2
        refine bodyPost_ret (by simp [results, Tryz.results15, go_sem]; rfl) rfl ⟨by simp, by focus (repeat (first | (with_reducible exact Below.refl _ _) | (with_reducible assumption) | ((with_reducible refine Below.setCell ?_ ?_ _); rotate_left; (focus (first | omega | (simp; done) | (simp; omega)))) | ((with_reducible refine Below.alloc ?_ ?_ _); rotate_left; (focus (first | omega | (simp; done) | (simp; omega)))) | (with_reducible refine Below.drew ?_) | (refine below_on ?_ (by assumption))))⟩
  · go_enter Tryz.func15, Tryz.ntmps15
    go_wp2
    refine bodyPost_ret (by simp [results, Tryz.results15, go_sem]; rfl) rfl ⟨by simp, by focus (repeat (first | (with_reducible exact Below.refl _ _) | (with_reducible assumption) | ((with_reducible refine Below.setCell ?_ ?_ _); rotate_left; (focus (first | omega | (simp; done) | (simp; omega)))) | ((with_reducible refine Below.alloc ?_ ?_ _); rotate_left; (focus (first | omega | (simp; done) | (simp; omega)))) | (with_reducible refine Below.drew ?_) | (refine below_on ?_ (by assumption))))⟩
theorem or_back (ax ay bx by_ : Int) : decide (orI (cmpI ax bx) (cmpI ay by_) > 0) = backB ax ay bx by_ := by
  unfold orI cmpI backB
  rw [Bool.eq_iff_iff]
  simp only [decide_eq_true_eq, Bool.or_eq_true, Bool.and_eq_true, beq_iff_eq]
  split <;> split <;> (try split) <;> (try split) <;> omega
theorem compare64b (x y : Int) (w : World) : Calls Tryz.prog 40 #[.int .i64 x, .int .i64 y] w fun e w' => e = .returned (.int .i64 (cmpI x y)) ∧ Below w.heap.size w w' :=
  (compare64 x y w).mono fun _ _ ⟨h, k⟩ => ⟨h, k ▸ Below.refl _ _⟩
set_option maxRecDepth 20000 in
set_option maxHeartbeats 1000000 in
theorem laid_any (ax ay bx by_ : Int) (w : World) :
    Calls Tryz.prog 11 #[.agg #[.int .i64 ax, .int .i64 ay, .int .i64 bx, .int .i64 by_]] w fun e w' => e = .returned (.tuple #[if segB ax ay bx by_ then (if backB ax ay bx by_ then .agg #[.int .i64 bx, .int .i64 by_, .int .i64 ax, .int .i64 ay] else .agg #[.int .i64 ax, .int .i64 ay, .int .i64 bx, .int .i64 by_]) else .agg #[.int .i64 0, .int .i64 0, .int .i64 0, .int .i64 0], .int .i64 (if segB ax ay bx by_ then 0 else 2)]) ∧ Below w.heap.size w w' := by
  obtain ⟨p, hp⟩ : ∃ p, segB ax ay bx by_ = p := ⟨_, rfl⟩
  obtain ⟨q, hq⟩ : ∃ q, backB ax ay bx by_ = q := ⟨_, rfl⟩
  have HP := Hd.mk hp
  have HQ := Hd.mk ((or_back ax ay bx by_).trans hq)
  rw [hp, hq]
  clear hp hq
  go_enter Tryz.func11, Tryz.ntmps11
  go_wp2_with fail
  refine (seg_check ax ay bx by_ _).mono ?_
  rw [HP.out]
  rintro e wa ⟨rfl, hb⟩
  have z0 := heap_below hb (heap_old (heap_new w (.cells #[.int .i64 ax, .int .i64 ay, .int .i64 bx, .int .i64 by_] 25)) _)
  have z1 := heap_below hb (heap_at (n := w.heap.size + 1) (by simp) (.cells #[.int .i64 0, .int .i64 0, .int .i64 0, .int .i64 0] 25))
  have hB : Below w.heap.size w wa := below_on (by focus (repeat (first | (with_reducible exact Below.refl _ _) | (with_reducible assumption) | ((with_reducible refine Below.setCell ?_ ?_ _); rotate_left; (focus (first | omega | (simp; done) | (simp; omega)))) | ((with_reducible refine Below.alloc ?_ ?_ _); rotate_left; (focus (first | omega | (simp; done) | (simp; omega)))) | (with_reducible refine Below.drew ?_) | (refine below_on ?_ (by assumption))))) hb
  have c1 := cell_at z1
  have f1 := frozen_at z1
  clear hb HP
  cases p with
  | false =>
    go_wp2
    obtain ⟨l1, l2, l3⟩ := laid_four (w.heap.size + 1) wa (.int .i64 0) (.int .i64 0) (.int .i64 0) (.int .i64 0)
    have c2 := cell_at (l1 z1 rfl)
    refine bodyPost_ret (by simp [results, Tryz.results11, go_sem, c2]; rfl) rfl ⟨by simp, hB.trans (l3 _ (by omega))⟩
  | true =>
    go_upto_region 4 with (fail)
    refine region_qt 13 (by kernel_rfl) (by kernel_rfl) fun X _ mk hmk hcl => ?_
    have c0 := mk_cell hmk z0
    simp only [List.take_succ_cons, List.take_zero, List.drop_succ_cons, List.drop_zero]
    repeat (go_big_quiet_step ((go_at_call 40; exact (compare64b _ _ _).mono fun e w' ⟨he, hw⟩ => ⟨he, hcl _ _ hw⟩)))
    refine wpQuiet_nil ?_
    rintro _ ⟨x, rfl⟩
    have hbx := hmk x
    clear hcl hmk c0 c1 f1
    generalize mk x = W2 at hbx ⊢
    have y0 := heap_below hbx z0
    have y1 := heap_below hbx z1
    have hB2 := below_on hB hbx
    have s0 := lt_of_block y0
    have s1 := lt_of_block y1
    have c0 := cell_at y0
    have f0 := frozen_at y0
    have c1 := cell_at y1
    have f1 := frozen_at y1
    have n0 : w.heap.size ≠ W2.heap.size := by omega
    have n1 : w.heap.size + 1 ≠ W2.heap.size := by omega
    have hq := HQ.out
    clear hbx z0 z1 hB HQ
    cases q with
    | false =>
      go_wp2_with (first | (go_at_call 40; refine (compare64 _ _ _).mono ?_; rintro e w' ⟨rfl, rfl⟩) | (go_at_call 39; refine (or_two W2.heap.size _ _ _ (cell_at (heap_new _ _) 0) (cell_at (heap_new _ _) 1)).mono ?_; rintro e w' ⟨rfl, rfl⟩))
      obtain ⟨l1, l2, l3⟩ := laid_four (w.heap.size + 1) W2 (.int .i64 ax) (.int .i64 ay) (.int .i64 bx) (.int .i64 by_)
      have c2 := cell_at (heap_old (l1 y1 rfl) (.cells #[.int .i64 (cmpI ax bx), .int .i64 (cmpI ay by_)] 3))
      have hF := hB2.trans (l3 w.heap.size (by omega))
      refine bodyPost_ret (by first | (simp [results, Tryz.results11, go_sem, c2]; done) | (simp [results, Tryz.results11, go_sem, c2]; rfl)) rfl ⟨by simp, hF.alloc hF.size _⟩
    | true =>
      go_wp2_with (first | (go_at_call 40; refine (compare64 _ _ _).mono ?_; rintro e w' ⟨rfl, rfl⟩) | (go_at_call 39; refine (or_two W2.heap.size _ _ _ (cell_at (heap_new _ _) 0) (cell_at (heap_new _ _) 1)).mono ?_; rintro e w' ⟨rfl, rfl⟩))
      obtain ⟨l1, l2, l3⟩ := laid_four w.heap.size W2 (.int .i64 bx) (.int .i64 by_) (.int .i64 ax) (.int .i64 ay)
      obtain ⟨m1, m2, m3⟩ := laid_four (w.heap.size + 1) ((((W2.setCell ⟨w.heap.size, 0, none⟩ (.int .i64 bx)).setCell ⟨w.heap.size, 1, none⟩ (.int .i64 by_)).setCell ⟨w.heap.size, 2, none⟩ (.int .i64 ax)).setCell ⟨w.heap.size, 3, none⟩ (.int .i64 ay)) (.int .i64 bx) (.int .i64 by_) (.int .i64 ax) (.int .i64 ay)
      have c2 := cell_at (heap_old (m1 (l2 _ _ (by omega) y1) rfl) (.cells #[.int .i64 (cmpI ax bx), .int .i64 (cmpI ay by_)] 3))
      have hF := (hB2.trans (l3 w.heap.size (Nat.le_refl _))).trans (m3 w.heap.size (by omega))
      refine bodyPost_ret (by first | (simp [results, Tryz.results11, go_sem, c2]; done) | (simp [results, Tryz.results11, go_sem, c2]; rfl)) rfl ⟨by simp, hF.alloc hF.size _⟩
end Go.Proofs.YtbhfnfokihdjjaaGreatDoor

namespace Go.Proofs.YtbhfnfokihdjjaaGreatDoor
open Go.RowKit Go.BigFrame

theorem law_of (a b c d : Int) (w : World) : Calls Tryz.prog 44 #[.int .i64 a, .int .i64 b, .int .i64 c, .int .i64 d] w fun e w' => e = .returned (.agg #[.int .i64 a, .int .i64 b, .int .i64 c, .int .i64 d]) ∧ Below w.heap.size w w' := by
  go_enter Tryz.func44, Tryz.ntmps44
  go_wp2
  refine bodyPost_ret (by first | (simp [results, Tryz.results44, go_sem]; done) | (simp [results, Tryz.results44, go_sem]; rfl)) rfl ⟨rfl, by focus (repeat (first | (with_reducible exact Below.refl _ _) | (with_reducible assumption) | ((with_reducible refine Below.setCell ?_ ?_ _); rotate_left; (focus (first | omega | (simp; done) | (simp; omega)))) | ((with_reducible refine Below.alloc ?_ ?_ _); rotate_left; (focus (first | omega | (simp; done) | (simp; omega)))) | (with_reducible refine Below.drew ?_) | (refine below_on ?_ (by assumption))))⟩
theorem fieldsSeg : (Tryz.prog.fieldsOf 25).toList.map (fun f => (f.name == "_", f.type, f.offset)) = [(false, 23, 0), (false, 23, 2)] := by kernel_rfl
@[go_sem] theorem eqSeg (w : World) (d : Nat) (a0 a1 a2 a3 b0 b1 b2 b3 : Int) :
    (Op.equalIn (d + 3) 25 (.agg #[.int .i64 a0, .int .i64 a1, .int .i64 a2, .int .i64 a3]) (.agg #[.int .i64 b0, .int .i64 b1, .int .i64 b2, .int .i64 b3])).run Tryz.prog w = .ok ((a0 == b0 && a1 == b1) && (a2 == b2 && a3 == b3)) w := by
  rw [run_equalIn_struct (P := Tryz.prog) w (d + 2) 25 _ _ (by kernel_rfl) (by kernel_rfl)]
  have h := fieldsSeg
  generalize (Tryz.prog.fieldsOf 25).toList = fs at h
  obtain ⟨f0, f1, rfl⟩ : ∃ f0 f1, fs = [f0, f1] := by
    have hl := congrArg List.length h
    rw [List.length_map] at hl
    cases fs with
    | nil => simp at hl
    | cons f0 fs =>
      cases fs with
      | nil => simp at hl
      | cons f1 fs =>
        cases fs with
        | nil => exact ⟨f0, f1, rfl⟩
        | cons f2 fs => simp at hl
  · simp only [List.map_cons, List.map_nil, List.cons.injEq, Prod.mk.injEq, and_true] at h
    obtain ⟨⟨n0, t0, o0⟩, n1, t1, o1⟩ := h
    have m0 : f0.name ≠ "_" := by simpa using n0
    have m1 : f1.name ≠ "_" := by simpa using n1
    have hu : Tryz.prog.underlying 23 = some (.struct (Tryz.prog.fieldsOf 23)) := by kernel_rfl
    have g1 : ∀ w : World, (isAgg 23).run Tryz.prog w = .ok true w := fun w => by simp [isAgg, run_underlying hu]
    have c1 : Tryz.prog.cellsOf 23 = 2 := by kernel_rfl
    obtain ⟨i1, hi1⟩ : ∃ i, Tryz.prog.info? 23 = some i := by
      cases h : Tryz.prog.info? 23 with
      | some i => exact ⟨i, rfl⟩
      | none => exact absurd h (by intro h; have : (Tryz.prog.info? 23).isSome = true := (by kernel_rfl); rw [h] at this; cases this)
    have s1 : ∀ w : World, (sizeOf 23).run Tryz.prog w = .ok 2 w := fun w => by rw [run_sizeOf w hi1, c1]
    simp only [Op.eqFields, if_pos m0, if_pos m1, t0, t1, o0, o1, part, Sem.run_bind, g1, Result.andThen_ok]
    have e0 := fun w => eqNode w d a0 a1 b0 b1
    have e1 := fun w => eqNode w d a2 a3 b2 b3
    cases hb : (a0 == b0 && a1 == b1)
    · rw [hb] at e0
      simp [e0]
    · rw [hb] at e0
      cases hr : (a2 == b2 && a3 == b3)
      · rw [hr] at e1
        simp [e0, e1]
      · rw [hr] at e1
        simp [e0, e1]
end Go.Proofs.YtbhfnfokihdjjaaGreatDoor

namespace Go.Proofs.YtbhfnfokihdjjaaGreatDoor
open Go.RowKit Go.BigFrame

/-- The numbers of a segment laid. -/
def laidI (ax ay bx by_ : Int) (k : Nat) : Int := if segB ax ay bx by_ then (if backB ax ay bx by_ then [bx, by_, ax, ay].getD k 0 else [ax, ay, bx, by_].getD k 0) else 0
theorem laid_c (ax ay bx by_ x0 x1 x2 x3 : Int) (p : Bool) (hp : segB ax ay bx by_ = p) (h0 : laidI ax ay bx by_ 0 = x0) (h1 : laidI ax ay bx by_ 1 = x1) (h2 : laidI ax ay bx by_ 2 = x2) (h3 : laidI ax ay bx by_ 3 = x3) (w : World) :
    Calls Tryz.prog 11 #[.agg #[.int .i64 ax, .int .i64 ay, .int .i64 bx, .int .i64 by_]] w fun e w' => e = .returned (.tuple #[.agg #[.int .i64 x0, .int .i64 x1, .int .i64 x2, .int .i64 x3], .int .i64 (if p then 0 else 2)]) ∧ Below w.heap.size w w' := by
  have h := laid_any ax ay bx by_ w
  unfold laidI at h0 h1 h2 h3
  rw [hp] at h h0 h1 h2 h3
  subst h0 h1 h2 h3
  cases p with
  | false => exact h
  | true =>
    cases hq : backB ax ay bx by_
    · rw [hq] at h
      exact h
    · rw [hq] at h
      exact h
set_option maxRecDepth 20000 in
set_option maxHeartbeats 1000000 in
theorem same_any (ax ay bx by_ cx cy dx dy : Int) (w : World) :
    Calls Tryz.prog 33 #[.agg #[.int .i64 ax, .int .i64 ay, .int .i64 bx, .int .i64 by_], .agg #[.int .i64 cx, .int .i64 cy, .int .i64 dx, .int .i64 dy]] w fun e w' =>
      e = .returned (.bool (segB ax ay bx by_ && (segB cx cy dx dy && ((laidI ax ay bx by_ 0 == laidI cx cy dx dy 0 && laidI ax ay bx by_ 1 == laidI cx cy dx dy 1) && (laidI ax ay bx by_ 2 == laidI cx cy dx dy 2 && laidI ax ay bx by_ 3 == laidI cx cy dx dy 3))))) ∧ Below w.heap.size w w' := by
  obtain ⟨p, hp⟩ : ∃ p, segB ax ay bx by_ = p := ⟨_, rfl⟩
  obtain ⟨q, hq⟩ : ∃ q, segB cx cy dx dy = q := ⟨_, rfl⟩
  obtain ⟨x0, h0⟩ : ∃ x, laidI ax ay bx by_ 0 = x := ⟨_, rfl⟩
  obtain ⟨x1, h1⟩ : ∃ x, laidI ax ay bx by_ 1 = x := ⟨_, rfl⟩
  obtain ⟨x2, h2⟩ : ∃ x, laidI ax ay bx by_ 2 = x := ⟨_, rfl⟩
  obtain ⟨x3, h3⟩ : ∃ x, laidI ax ay bx by_ 3 = x := ⟨_, rfl⟩
  obtain ⟨y0, k0⟩ : ∃ x, laidI cx cy dx dy 0 = x := ⟨_, rfl⟩
  obtain ⟨y1, k1⟩ : ∃ x, laidI cx cy dx dy 1 = x := ⟨_, rfl⟩
  obtain ⟨y2, k2⟩ : ∃ x, laidI cx cy dx dy 2 = x := ⟨_, rfl⟩
  obtain ⟨y3, k3⟩ : ∃ x, laidI cx cy dx dy 3 = x := ⟨_, rfl⟩
  have HA := Hd.mk (fun w => laid_c ax ay bx by_ x0 x1 x2 x3 p hp h0 h1 h2 h3 w)
  have HB := Hd.mk (fun w => laid_c cx cy dx dy y0 y1 y2 y3 q hq k0 k1 k2 k3 w)
  rw [hp, hq, h0, h1, h2, h3, k0, k1, k2, k3]
  clear hp hq h0 h1 h2 h3 k0 k1 k2 k3
  go_enter Tryz.func33, Tryz.ntmps33
  go_wp2_with fail
  refine (HA.out _).mono ?_
  rintro e wa ⟨rfl, hb⟩
  have z1 := heap_below hb (heap_at (n := w.heap.size + 1) (by simp) (.cells #[.int .i64 cx, .int .i64 cy, .int .i64 dx, .int .i64 dy] 25))
  have hB : Below w.heap.size w wa := below_on (by focus (repeat (first | (with_reducible exact Below.refl _ _) | (with_reducible assumption) | ((with_reducible refine Below.setCell ?_ ?_ _); rotate_left; (focus (first | omega | (simp; done) | (simp; omega)))) | ((with_reducible refine Below.alloc ?_ ?_ _); rotate_left; (focus (first | omega | (simp; done) | (simp; omega)))) | (with_reducible refine Below.drew ?_) | (refine below_on ?_ (by assumption))))) hb
  have c1 := cell_at z1
  have s1 := lt_of_block z1
  have n1 := Nat.ne_of_lt s1
  clear hb HA
  cases p
  all_goals
    go_wp2_with fail
    refine (HB.out _).mono ?_
    rintro e wb ⟨rfl, hb⟩
    have y5 := heap_below hb (heap_new wa (.cells #[.int .i64 x0, .int .i64 x1, .int .i64 x2, .int .i64 x3] 25))
    have hB2 : Below w.heap.size w wb := below_on (by have := hB.size; focus (repeat (first | (with_reducible exact Below.refl _ _) | (with_reducible assumption) | ((with_reducible refine Below.setCell ?_ ?_ _); rotate_left; (focus (first | omega | (simp; done) | (simp; omega)))) | ((with_reducible refine Below.alloc ?_ ?_ _); rotate_left; (focus (first | omega | (simp; done) | (simp; omega)))) | (with_reducible refine Below.drew ?_) | (refine below_on ?_ (by assumption))))) hb
    have c5 := cell_at y5
    have s5 := lt_of_block y5
    have n5 := Nat.ne_of_lt s5
    have hs2 := hB2.size
    clear hb HB z1 c1 s1 n1 hB
    cases q
    all_goals
      go_wp2
      all_goals
        go_ret
        exact ⟨by first | rfl | (simp; done) | simp_all, by focus (repeat (first | (with_reducible exact Below.refl _ _) | (with_reducible assumption) | ((with_reducible refine Below.setCell ?_ ?_ _); rotate_left; (focus (first | omega | (simp; done) | (simp; omega)))) | ((with_reducible refine Below.alloc ?_ ?_ _); rotate_left; (focus (first | omega | (simp; done) | (simp; omega)))) | (with_reducible refine Below.drew ?_) | (refine below_on ?_ (by assumption))))⟩
end Go.Proofs.YtbhfnfokihdjjaaGreatDoor

namespace Go.Proofs.YtbhfnfokihdjjaaGreatDoor
open Go.RowKit Go.BigFrame

/-- Is a fraction not too great for a point? By its digits. -/
def fitsB (a b : Nat) : Bool := decide (dg a 1 < 4294967296) && ((bits .or .u64 (dg a 2) (dg a 3) == 0) && (bits .or .u64 (bits .or .u64 (dg b 1) (dg b 2)) (dg b 3) == 0))
set_option maxRecDepth 20000 in
set_option maxHeartbeats 1000000 in
theorem fits_any (s t : Bool) (a b : Nat) (w : World) :
    Calls Tryz.prog 81 #[.agg #[.bool (s), .int .u64 (dg (a) 0), .int .u64 (dg (a) 1), .int .u64 (dg (a) 2), .int .u64 (dg (a) 3), .bool (t), .int .u64 (dg (b) 0), .int .u64 (dg (b) 1), .int .u64 (dg (b) 2), .int .u64 (dg (b) 3)]] w fun e w' => e = .returned (.bool (fitsB a b)) ∧ Below w.heap.size w w' := by
  unfold fitsB
  cases h1 : decide (dg a 1 < 4294967296)
  · go_enter Tryz.func81, Tryz.ntmps81
    go_wp2
    go_ret
    exact ⟨by simp, by focus (repeat (first | (with_reducible exact Below.refl _ _) | (with_reducible assumption) | ((with_reducible refine Below.setCell ?_ ?_ _); rotate_left; (focus (first | omega | (simp; done) | (simp; omega)))) | ((with_reducible refine Below.alloc ?_ ?_ _); rotate_left; (focus (first | omega | (simp; done) | (simp; omega)))) | (with_reducible refine Below.drew ?_) | (refine below_on ?_ (by assumption))))⟩
  · cases h2 : (bits .or .u64 (dg a 2) (dg a 3) == 0)
    · go_enter Tryz.func81, Tryz.ntmps81
      go_wp2
      go_ret
      exact ⟨by simp, by focus (repeat (first | (with_reducible exact Below.refl _ _) | (with_reducible assumption) | ((with_reducible refine Below.setCell ?_ ?_ _); rotate_left; (focus (first | omega | (simp; done) | (simp; omega)))) | ((with_reducible refine Below.alloc ?_ ?_ _); rotate_left; (focus (first | omega | (simp; done) | (simp; omega)))) | (with_reducible refine Below.drew ?_) | (refine below_on ?_ (by assumption))))⟩
    · cases h3 : (bits .or .u64 (bits .or .u64 (dg b 1) (dg b 2)) (dg b 3) == 0)
      · go_enter Tryz.func81, Tryz.ntmps81
        go_wp2
        go_ret
        exact ⟨by simp, by focus (repeat (first | (with_reducible exact Below.refl _ _) | (with_reducible assumption) | ((with_reducible refine Below.setCell ?_ ?_ _); rotate_left; (focus (first | omega | (simp; done) | (simp; omega)))) | ((with_reducible refine Below.alloc ?_ ?_ _); rotate_left; (focus (first | omega | (simp; done) | (simp; omega)))) | (with_reducible refine Below.drew ?_) | (refine below_on ?_ (by assumption))))⟩
      · go_enter Tryz.func81, Tryz.ntmps81
        go_wp2
        go_ret
        exact ⟨by simp, by focus (repeat (first | (with_reducible exact Below.refl _ _) | (with_reducible assumption) | ((with_reducible refine Below.setCell ?_ ?_ _); rotate_left; (focus (first | omega | (simp; done) | (simp; omega)))) | ((with_reducible refine Below.alloc ?_ ?_ _); rotate_left; (focus (first | omega | (simp; done) | (simp; omega)))) | (with_reducible refine Below.drew ?_) | (refine below_on ?_ (by assumption))))⟩
theorem or_wordsS {a b : Int} (a0 : 0 ≤ a) (b0 : 0 ≤ b) (al : a < 18446744073709551616) (bl : b < 18446744073709551616) :
    0 ≤ bits .or .u64 a b ∧ bits .or .u64 a b < 18446744073709551616 ∧ (bits .or .u64 a b = 0 ↔ a = 0 ∧ b = 0) := by
  obtain ⟨x, rfl⟩ := Int.eq_ofNat_of_zero_le a0
  obtain ⟨y, rfl⟩ := Int.eq_ofNat_of_zero_le b0
  rw [bits_or_u64_nat x y (by omega) (by omega)]
  refine ⟨by omega, ?_, ?_⟩
  · have : x ||| y < 2 ^ 64 := Nat.or_lt_two_pow (by omega) (by omega)
    omega
  · have h : x ||| y = 0 ↔ x = 0 ∧ y = 0 := Nat.or_eq_zero_iff
    omega
/-- The same by the numbers. -/
theorem fits_iff {a b : Nat} (ha : a < 2 ^ 256) (hb : b < 2 ^ 256) : fitsB a b = true ↔ a < 2 ^ 96 ∧ b < 2 ^ 64 := by
  have g2 := or_wordsS (dg_nonneg a 2) (dg_nonneg a 3) (dg_lt a 2) (dg_lt a 3)
  have g3 := or_wordsS (dg_nonneg b 1) (dg_nonneg b 2) (dg_lt b 1) (dg_lt b 2)
  have g4 := or_wordsS g3.1 (dg_nonneg b 3) g3.2.1 (dg_lt b 3)
  have ma := mg_dg ha
  have mb := mg_dg hb
  unfold fitsB
  simp only [Bool.and_eq_true, decide_eq_true_eq, beq_iff_eq, g2.2.2, g4.2.2, g3.2.2]
  have a0 := dg_nonneg a 0
  have a1 := dg_nonneg a 1
  have a2 := dg_nonneg a 2
  have a3 := dg_nonneg a 3
  have al := dg_lt a 0
  have b0 := dg_nonneg b 0
  have b1 := dg_nonneg b 1
  have b2 := dg_nonneg b 2
  have b3 := dg_nonneg b 3
  have bl := dg_lt b 0
  unfold mg at ma mb
  clear g2 g3 g4 ha hb
  generalize dg a 0 = A0 at *
  generalize dg a 1 = A1 at *
  generalize dg a 2 = A2 at *
  generalize dg a 3 = A3 at *
  generalize dg b 0 = B0 at *
  generalize dg b 1 = B1 at *
  generalize dg b 2 = B2 at *
  generalize dg b 3 = B3 at *
  omega
end Go.Proofs.YtbhfnfokihdjjaaGreatDoor

namespace Go.Proofs.YtbhfnfokihdjjaaGreatDoor
open Go.RowKit Go.BigFrame

theorem fits_v (s t : Bool) (a b : Nat) (f : Bool) (h : fitsB a b = f) (w : World) :
    Calls Tryz.prog 81 #[.agg #[.bool (s), .int .u64 (dg (a) 0), .int .u64 (dg (a) 1), .int .u64 (dg (a) 2), .int .u64 (dg (a) 3), .bool (t), .int .u64 (dg (b) 0), .int .u64 (dg (b) 1), .int .u64 (dg (b) 2), .int .u64 (dg (b) 3)]] w fun e w' => e = .returned (.bool f) ∧ Below w.heap.size w w' := by
  rw [← h]
  exact fits_any s t a b w
set_option maxRecDepth 20000 in
set_option maxHeartbeats 2000000 in
theorem pright_any (p q r s : Bool × Nat) (hp : p.2 < 2 ^ 256) (hq : q.2 < 2 ^ 256) (hr : r.2 < 2 ^ 256) (hs : s.2 < 2 ^ 256) (b c : Bool) (hb : b = true ↔ okR p q) (hc : c = true ↔ okR r s) (w : World) :
    Calls Tryz.prog 49 #[.agg #[.bool p.1, .int .u64 (dg (p.2) 0), .int .u64 (dg (p.2) 1), .int .u64 (dg (p.2) 2), .int .u64 (dg (p.2) 3), .bool q.1, .int .u64 (dg (q.2) 0), .int .u64 (dg (q.2) 1), .int .u64 (dg (q.2) 2), .int .u64 (dg (q.2) 3), .bool r.1, .int .u64 (dg (r.2) 0), .int .u64 (dg (r.2) 1), .int .u64 (dg (r.2) 2), .int .u64 (dg (r.2) 3), .bool s.1, .int .u64 (dg (s.2) 0), .int .u64 (dg (s.2) 1), .int .u64 (dg (s.2) 2), .int .u64 (dg (s.2) 3)]] w fun e w' => e = .returned (.int .i64 (if b && (c && (fitsB p.2 q.2 && fitsB r.2 s.2)) then 0 else 2)) ∧ Below w.heap.size w w' := by
  obtain ⟨f, hf⟩ : ∃ f, fitsB p.2 q.2 = f := ⟨_, rfl⟩
  obtain ⟨g, hg⟩ : ∃ g, fitsB r.2 s.2 = g := ⟨_, rfl⟩
  rw [hf, hg]
  have H1 := Hd.mk (fun w => rat_check_any p q hp hq b hb w)
  have H2 := Hd.mk (fun w => rat_check_any r s hr hs c hc w)
  have H3 := Hd.mk (fun w => fits_v p.1 q.1 p.2 q.2 f hf w)
  have H4 := Hd.mk (fun w => fits_v r.1 s.1 r.2 s.2 g hg w)
  clear hp hq hr hs hb hc hf hg
  go_enter Tryz.func49, Tryz.ntmps49
  go_wp2_with fail
  refine (H1.out _).mono ?_
  rintro e wa ⟨rfl, hb⟩
  have z0 := heap_below hb (heap_new w (.cells #[.bool p.1, .int .u64 (dg (p.2) 0), .int .u64 (dg (p.2) 1), .int .u64 (dg (p.2) 2), .int .u64 (dg (p.2) 3), .bool q.1, .int .u64 (dg (q.2) 0), .int .u64 (dg (q.2) 1), .int .u64 (dg (q.2) 2), .int .u64 (dg (q.2) 3), .bool r.1, .int .u64 (dg (r.2) 0), .int .u64 (dg (r.2) 1), .int .u64 (dg (r.2) 2), .int .u64 (dg (r.2) 3), .bool s.1, .int .u64 (dg (s.2) 0), .int .u64 (dg (s.2) 1), .int .u64 (dg (s.2) 2), .int .u64 (dg (s.2) 3)] 46))
  have hB : Below w.heap.size w wa := below_on (by focus (repeat (first | (with_reducible exact Below.refl _ _) | (with_reducible assumption) | ((with_reducible refine Below.setCell ?_ ?_ _); rotate_left; (focus (first | omega | (simp; done) | (simp; omega)))) | ((with_reducible refine Below.alloc ?_ ?_ _); rotate_left; (focus (first | omega | (simp; done) | (simp; omega)))) | (with_reducible refine Below.drew ?_) | (refine below_on ?_ (by assumption))))) hb
  have c0 := cell_at z0
  clear hb H1
  cases b with
  | false =>
    go_wp2
    go_ret
    exact ⟨rfl, hB⟩
  | true =>
    go_wp2_with fail
    refine (H2.out _).mono ?_
    rintro e wb ⟨rfl, hb⟩
    have z1 := heap_below hb z0
    have hB1 := below_on hB hb
    have c1 := cell_at z1
    clear hb H2 z0 c0 hB
    cases c with
    | false =>
      go_wp2
      go_ret
      exact ⟨rfl, hB1⟩
    | true =>
      go_wp2_with fail
      refine (H3.out _).mono ?_
      rintro e wc ⟨rfl, hb⟩
      have z2 := heap_below hb z1
      have hB2 := below_on hB1 hb
      have c2 := cell_at z2
      clear hb H3 z1 c1 hB1
      cases f with
      | false =>
        go_wp2
        go_ret
        exact ⟨rfl, hB2⟩
      | true =>
        go_wp2_with fail
        refine (H4.out _).mono ?_
        rintro e wd ⟨rfl, hb⟩
        have z3 := heap_below hb z2
        have hB3 := below_on hB2 hb
        have c3 := cell_at z3
        clear hb H4 z2 c2 hB2
        cases g
        all_goals
          go_wp2
          go_ret
          exact ⟨rfl, hB3⟩
end Go.Proofs.YtbhfnfokihdjjaaGreatDoor

namespace Go.Proofs.YtbhfnfokihdjjaaGreatDoor
open Go.RowKit Go.BigFrame

/-- How two fractions stand. -/
def cmpR (p q p2 q2 : Bool × Nat) : Int := sgI (zof p.1 p.2 * zof q2.1 q2.2 - zof p2.1 p2.2 * zof q.1 q.2)
def SmallF (p q : Bool × Nat) : Prop := p.2 < 2 ^ 256 ∧ q.2 < 2 ^ 256 ∧ okR p q
theorem rcmp_v (p q p2 q2 : Bool × Nat) (h : SmallF p q) (h2 : SmallF p2 q2) (x : Int) (hx : cmpR p q p2 q2 = x) (w : World) :
    Calls Tryz.prog 82 #[.agg #[.bool (p.1), .int .u64 (dg (p.2) 0), .int .u64 (dg (p.2) 1), .int .u64 (dg (p.2) 2), .int .u64 (dg (p.2) 3), .bool (q.1), .int .u64 (dg (q.2) 0), .int .u64 (dg (q.2) 1), .int .u64 (dg (q.2) 2), .int .u64 (dg (q.2) 3)], .agg #[.bool (p2.1), .int .u64 (dg (p2.2) 0), .int .u64 (dg (p2.2) 1), .int .u64 (dg (p2.2) 2), .int .u64 (dg (p2.2) 3), .bool (q2.1), .int .u64 (dg (q2.2) 0), .int .u64 (dg (q2.2) 1), .int .u64 (dg (q2.2) 2), .int .u64 (dg (q2.2) 3)]] w fun e w' => e = .returned (.tuple #[.int .i64 x, .int .i64 0]) ∧ Below w.heap.size w w' := by
  rw [← hx]
  exact rcmp_ok p q p2 q2 h.1 h.2.1 h2.1 h2.2.1 h.2.2 h2.2.2 w
set_option maxRecDepth 20000 in
set_option maxHeartbeats 2000000 in
theorem place_cmp (p q r s p2 q2 r2 s2 : Bool × Nat) (h1 : SmallF p q) (h2 : SmallF r s) (h3 : SmallF p2 q2) (h4 : SmallF r2 s2) (w : World) :
    Calls Tryz.prog 88 #[.agg #[.bool p.1, .int .u64 (dg (p.2) 0), .int .u64 (dg (p.2) 1), .int .u64 (dg (p.2) 2), .int .u64 (dg (p.2) 3), .bool q.1, .int .u64 (dg (q.2) 0), .int .u64 (dg (q.2) 1), .int .u64 (dg (q.2) 2), .int .u64 (dg (q.2) 3), .bool r.1, .int .u64 (dg (r.2) 0), .int .u64 (dg (r.2) 1), .int .u64 (dg (r.2) 2), .int .u64 (dg (r.2) 3), .bool s.1, .int .u64 (dg (s.2) 0), .int .u64 (dg (s.2) 1), .int .u64 (dg (s.2) 2), .int .u64 (dg (s.2) 3)], .agg #[.bool p2.1, .int .u64 (dg (p2.2) 0), .int .u64 (dg (p2.2) 1), .int .u64 (dg (p2.2) 2), .int .u64 (dg (p2.2) 3), .bool q2.1, .int .u64 (dg (q2.2) 0), .int .u64 (dg (q2.2) 1), .int .u64 (dg (q2.2) 2), .int .u64 (dg (q2.2) 3), .bool r2.1, .int .u64 (dg (r2.2) 0), .int .u64 (dg (r2.2) 1), .int .u64 (dg (r2.2) 2), .int .u64 (dg (r2.2) 3), .bool s2.1, .int .u64 (dg (s2.2) 0), .int .u64 (dg (s2.2) 1), .int .u64 (dg (s2.2) 2), .int .u64 (dg (s2.2) 3)]] w fun e w' => e = .returned (.int .i64 (if cmpR p q p2 q2 == 0 then cmpR r s r2 s2 else cmpR p q p2 q2)) ∧ Below w.heap.size w w' := by
  obtain ⟨x, hx⟩ : ∃ x, cmpR p q p2 q2 = x := ⟨_, rfl⟩
  obtain ⟨y, hy⟩ : ∃ y, cmpR r s r2 s2 = y := ⟨_, rfl⟩
  have HA := Hd.mk (fun w => rcmp_v p q p2 q2 h1 h3 x hx w)
  have HB := Hd.mk (fun w => rcmp_v r s r2 s2 h2 h4 y hy w)
  rw [hx, hy]
  clear h1 h2 h3 h4 hx hy
  go_enter Tryz.func88, Tryz.ntmps88
  go_wp2_with fail
  refine (HA.out _).mono ?_
  rintro e wa ⟨rfl, hb⟩
  have z0 := heap_below hb (heap_old (heap_new w (.cells #[.bool p.1, .int .u64 (dg (p.2) 0), .int .u64 (dg (p.2) 1), .int .u64 (dg (p.2) 2), .int .u64 (dg (p.2) 3), .bool q.1, .int .u64 (dg (q.2) 0), .int .u64 (dg (q.2) 1), .int .u64 (dg (q.2) 2), .int .u64 (dg (q.2) 3), .bool r.1, .int .u64 (dg (r.2) 0), .int .u64 (dg (r.2) 1), .int .u64 (dg (r.2) 2), .int .u64 (dg (r.2) 3), .bool s.1, .int .u64 (dg (s.2) 0), .int .u64 (dg (s.2) 1), .int .u64 (dg (s.2) 2), .int .u64 (dg (s.2) 3)] 139)) _)
  have z1 := heap_below hb (heap_at (n := w.heap.size + 1) (by simp) (.cells #[.bool p2.1, .int .u64 (dg (p2.2) 0), .int .u64 (dg (p2.2) 1), .int .u64 (dg (p2.2) 2), .int .u64 (dg (p2.2) 3), .bool q2.1, .int .u64 (dg (q2.2) 0), .int .u64 (dg (q2.2) 1), .int .u64 (dg (q2.2) 2), .int .u64 (dg (q2.2) 3), .bool r2.1, .int .u64 (dg (r2.2) 0), .int .u64 (dg (r2.2) 1), .int .u64 (dg (r2.2) 2), .int .u64 (dg (r2.2) 3), .bool s2.1, .int .u64 (dg (s2.2) 0), .int .u64 (dg (s2.2) 1), .int .u64 (dg (s2.2) 2), .int .u64 (dg (s2.2) 3)] 139))
  have hB : Below w.heap.size w wa := below_on (by focus (repeat (first | (with_reducible exact Below.refl _ _) | (with_reducible assumption) | ((with_reducible refine Below.setCell ?_ ?_ _); rotate_left; (focus (first | omega | (simp; done) | (simp; omega)))) | ((with_reducible refine Below.alloc ?_ ?_ _); rotate_left; (focus (first | omega | (simp; done) | (simp; omega)))) | (with_reducible refine Below.drew ?_) | (refine below_on ?_ (by assumption))))) hb
  have c0 := cell_at z0
  have c1 := cell_at z1
  clear hb HA z0 z1
  go_wp2_with (first
    | (go_at_call 87; refine (point_must_ok _ _).mono ?_; rintro e w' ⟨rfl, rfl⟩)
    | (go_at_call 82; refine (HB.out _).mono ?_; rintro e wb ⟨rfl, hb⟩; have hB2 := below_on hB hb; clear hb c0 c1 HB hB))
  all_goals
    go_ret
    exact ⟨by simp_all, hB2⟩
end Go.Proofs.YtbhfnfokihdjjaaGreatDoor
