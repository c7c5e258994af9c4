/-
  LimbMirrors: the walk where an Int may not be; all paths together. Conditions stand in each theorem.
-/
import Derived.Test.YteibcklcegkbcaaMi2
namespace Go.Proofs.Yteibcklcegkbcaa
open Go.RowKit Go.BigFrame

theorem neg_e (p : Bool × Nat) (E : Int) (hp : p.2 < 2 ^ 256) (hE : errC p = E) (w : World) :
    Calls Try.prog 25 #[.agg #[.bool (p.1), .int .u64 (dg (p.2) 0), .int .u64 (dg (p.2) 1), .int .u64 (dg (p.2) 2), .int .u64 (dg (p.2) 3)]] w fun e w' => e = .returned (.tuple #[.agg #[.bool (ng (negV p)), .int .u64 (dg (ab (negV p)) 0), .int .u64 (dg (ab (negV p)) 1), .int .u64 (dg (ab (negV p)) 2), .int .u64 (dg (ab (negV p)) 3)], .int .i64 E]) ∧ Below w.heap.size w w' := hE ▸ neg_any p hp w
theorem errC_or (p : Bool × Nat) : (okP p ∧ errC p = 0) ∨ (¬ okP p ∧ errC p = 2) := by
  unfold errC
  by_cases h : okP p
  · exact .inl ⟨h, if_pos h⟩
  · exact .inr ⟨h, if_neg h⟩
set_option maxRecDepth 100000 in
set_option maxHeartbeats 4000000 in
theorem mirrors_bad (p q : Bool × Nat) (HP : Hd (p.2 < 2 ^ 256)) (HQ : Hd (q.2 < 2 ^ 256)) (h : ¬ (okP p ∧ okP q)) (w : World) :
    Calls Try.prog 6 #[.agg #[.bool (p.1), .int .u64 (dg (p.2) 0), .int .u64 (dg (p.2) 1), .int .u64 (dg (p.2) 2), .int .u64 (dg (p.2) 3)], .agg #[.bool (q.1), .int .u64 (dg (q.2) 0), .int .u64 (dg (q.2) 1), .int .u64 (dg (q.2) 2), .int .u64 (dg (q.2) 3)]] w fun e w' => e = .returned (.bool true) ∧ Below w.heap.size w w' := by
  rcases errC_or p with ⟨k1, e1⟩ | ⟨k1, e1⟩
  · rcases errC_or q with ⟨k2, e2⟩ | ⟨k2, e2⟩
    · exact absurd ⟨k1, k2⟩ h
    · have H1 := Hd.mk e1
      have H2 := Hd.mk e2
      clear h k1 k2 e1 e2
      go_enter Try.func6, Try.ntmps6
      have hB := Below.refl w.heap.size w
      go_upto_region 1 with (fail)
      refine abs_wp (fun W => W.heap[w.heap.size]? = some (.cells #[.bool (p.1), .int .u64 (dg (p.2) 0), .int .u64 (dg (p.2) 1), .int .u64 (dg (p.2) 2), .int .u64 (dg (p.2) 3)] 25 (0, 0)) ∧ W.heap[w.heap.size + 1]? = some (.cells #[.bool (q.1), .int .u64 (dg (q.2) 0), .int .u64 (dg (q.2) 1), .int .u64 (dg (q.2) 2), .int .u64 (dg (q.2) 3)] 25 (0, 0)) ∧ Below w.heap.size w W) ⟨heap_old (heap_new _ _) _, heap_at (by simp) _, by focus (repeat (first | (with_reducible exact Below.refl _ _) | (with_reducible assumption) | ((with_reducible refine Below.setCell ?_ ?_ _); rotate_left; (focus (first | omega | (simp; done) | (simp; omega)))) | ((with_reducible refine Below.alloc ?_ ?_ _); rotate_left; (focus (first | omega | (simp; done) | (simp; omega)))) | (with_reducible refine Below.drew ?_) | (refine below_on ?_ (by assumption))))⟩ fun W ⟨y0, y1, gB⟩ => ?_
      clear hB
      have c0 := cell_at y0
      go_wp2_with fail
      refine (neg_e p 0 HP.out H1.out _).mono ?_
      rintro e w1 ⟨rfl, hb1⟩
      have z1 := heap_below hb1 y1
      have hB := below_on gB hb1
      have hsz := hB.size
      clear y0 y1 gB c0 hb1
      go_upto_region 2 with (fail)
      refine abs_wp (fun W => W.heap[w.heap.size + 1]? = some (.cells #[.bool (q.1), .int .u64 (dg (q.2) 0), .int .u64 (dg (q.2) 1), .int .u64 (dg (q.2) 2), .int .u64 (dg (q.2) 3)] 25 (0, 0)) ∧ Below w.heap.size w W) ⟨heap_old z1 _, by focus (repeat (first | (with_reducible exact Below.refl _ _) | (with_reducible assumption) | ((with_reducible refine Below.setCell ?_ ?_ _); rotate_left; (focus (first | omega | (simp; done) | (simp; omega)))) | ((with_reducible refine Below.alloc ?_ ?_ _); rotate_left; (focus (first | omega | (simp; done) | (simp; omega)))) | (with_reducible refine Below.drew ?_) | (refine below_on ?_ (by assumption))))⟩ fun W ⟨y1, gB⟩ => ?_
      clear hB z1 hsz
      have c1 := cell_at y1
      go_wp2_with fail
      refine (neg_e q 2 HQ.out H2.out _).mono ?_
      rintro e w2 ⟨rfl, hb1⟩
      have hB := below_on gB hb1
      have hsz := hB.size
      clear y1 gB c1 hb1
      go_upto_region 3 with (fail)
      refine abs_wp (fun W => Below w.heap.size w W) (by focus (repeat (first | (with_reducible exact Below.refl _ _) | (with_reducible assumption) | ((with_reducible refine Below.setCell ?_ ?_ _); rotate_left; (focus (first | omega | (simp; done) | (simp; omega)))) | ((with_reducible refine Below.alloc ?_ ?_ _); rotate_left; (focus (first | omega | (simp; done) | (simp; omega)))) | (with_reducible refine Below.drew ?_) | (refine below_on ?_ (by assumption))))) fun W gB => ?_
      clear hB hsz
      go_upto_region 4 with ((go_at_call 14; refine (num_s _ _).mono ?_; rintro e w' ⟨rfl, rfl⟩))
      go_wp2_with fail
      refine (works_any _).mono ?_
      rintro e wz ⟨rfl, hb⟩
      have hF := below_on gB hb
      go_wp2
      go_ret
      exact ⟨rfl, hF⟩
  · rcases errC_or q with ⟨k2, e2⟩ | ⟨k2, e2⟩
    · have H1 := Hd.mk e1
      have H2 := Hd.mk e2
      clear h k1 k2 e1 e2
      go_enter Try.func6, Try.ntmps6
      have hB := Below.refl w.heap.size w
      go_upto_region 1 with (fail)
      refine abs_wp (fun W => W.heap[w.heap.size]? = some (.cells #[.bool (p.1), .int .u64 (dg (p.2) 0), .int .u64 (dg (p.2) 1), .int .u64 (dg (p.2) 2), .int .u64 (dg (p.2) 3)] 25 (0, 0)) ∧ W.heap[w.heap.size + 1]? = some (.cells #[.bool (q.1), .int .u64 (dg (q.2) 0), .int .u64 (dg (q.2) 1), .int .u64 (dg (q.2) 2), .int .u64 (dg (q.2) 3)] 25 (0, 0)) ∧ Below w.heap.size w W) ⟨heap_old (heap_new _ _) _, heap_at (by simp) _, by focus (repeat (first | (with_reducible exact Below.refl _ _) | (with_reducible assumption) | ((with_reducible refine Below.setCell ?_ ?_ _); rotate_left; (focus (first | omega | (simp; done) | (simp; omega)))) | ((with_reducible refine Below.alloc ?_ ?_ _); rotate_left; (focus (first | omega | (simp; done) | (simp; omega)))) | (with_reducible refine Below.drew ?_) | (refine below_on ?_ (by assumption))))⟩ fun W ⟨y0, y1, gB⟩ => ?_
      clear hB
      have c0 := cell_at y0
      go_wp2_with fail
      refine (neg_e p 2 HP.out H1.out _).mono ?_
      rintro e w1 ⟨rfl, hb1⟩
      have z1 := heap_below hb1 y1
      have hB := below_on gB hb1
      have hsz := hB.size
      clear y0 y1 gB c0 hb1
      go_upto_region 2 with (fail)
      refine abs_wp (fun W => W.heap[w.heap.size + 1]? = some (.cells #[.bool (q.1), .int .u64 (dg (q.2) 0), .int .u64 (dg (q.2) 1), .int .u64 (dg (q.2) 2), .int .u64 (dg (q.2) 3)] 25 (0, 0)) ∧ Below w.heap.size w W) ⟨heap_old z1 _, by focus (repeat (first | (with_reducible exact Below.refl _ _) | (with_reducible assumption) | ((with_reducible refine Below.setCell ?_ ?_ _); rotate_left; (focus (first | omega | (simp; done) | (simp; omega)))) | ((with_reducible refine Below.alloc ?_ ?_ _); rotate_left; (focus (first | omega | (simp; done) | (simp; omega)))) | (with_reducible refine Below.drew ?_) | (refine below_on ?_ (by assumption))))⟩ fun W ⟨y1, gB⟩ => ?_
      clear hB z1 hsz
      have c1 := cell_at y1
      go_wp2_with fail
      refine (neg_e q 0 HQ.out H2.out _).mono ?_
      rintro e w2 ⟨rfl, hb1⟩
      have hB := below_on gB hb1
      have hsz := hB.size
      clear y1 gB c1 hb1
      go_upto_region 3 with (fail)
      refine abs_wp (fun W => Below w.heap.size w W) (by focus (repeat (first | (with_reducible exact Below.refl _ _) | (with_reducible assumption) | ((with_reducible refine Below.setCell ?_ ?_ _); rotate_left; (focus (first | omega | (simp; done) | (simp; omega)))) | ((with_reducible refine Below.alloc ?_ ?_ _); rotate_left; (focus (first | omega | (simp; done) | (simp; omega)))) | (with_reducible refine Below.drew ?_) | (refine below_on ?_ (by assumption))))) fun W gB => ?_
      clear hB hsz
      go_upto_region 4 with ((go_at_call 14; refine (num_s _ _).mono ?_; rintro e w' ⟨rfl, rfl⟩))
      go_wp2_with fail
      refine (works_any _).mono ?_
      rintro e wz ⟨rfl, hb⟩
      have hF := below_on gB hb
      go_wp2
      go_ret
      exact ⟨rfl, hF⟩
    · have H1 := Hd.mk e1
      have H2 := Hd.mk e2
      clear h k1 k2 e1 e2
      go_enter Try.func6, Try.ntmps6
      have hB := Below.refl w.heap.size w
      go_upto_region 1 with (fail)
      refine abs_wp (fun W => W.heap[w.heap.size]? = some (.cells #[.bool (p.1), .int .u64 (dg (p.2) 0), .int .u64 (dg (p.2) 1), .int .u64 (dg (p.2) 2), .int .u64 (dg (p.2) 3)] 25 (0, 0)) ∧ W.heap[w.heap.size + 1]? = some (.cells #[.bool (q.1), .int .u64 (dg (q.2) 0), .int .u64 (dg (q.2) 1), .int .u64 (dg (q.2) 2), .int .u64 (dg (q.2) 3)] 25 (0, 0)) ∧ Below w.heap.size w W) ⟨heap_old (heap_new _ _) _, heap_at (by simp) _, by focus (repeat (first | (with_reducible exact Below.refl _ _) | (with_reducible assumption) | ((with_reducible refine Below.setCell ?_ ?_ _); rotate_left; (focus (first | omega | (simp; done) | (simp; omega)))) | ((with_reducible refine Below.alloc ?_ ?_ _); rotate_left; (focus (first | omega | (simp; done) | (simp; omega)))) | (with_reducible refine Below.drew ?_) | (refine below_on ?_ (by assumption))))⟩ fun W ⟨y0, y1, gB⟩ => ?_
      clear hB
      have c0 := cell_at y0
      go_wp2_with fail
      refine (neg_e p 2 HP.out H1.out _).mono ?_
      rintro e w1 ⟨rfl, hb1⟩
      have z1 := heap_below hb1 y1
      have hB := below_on gB hb1
      have hsz := hB.size
      clear y0 y1 gB c0 hb1
      go_upto_region 2 with (fail)
      refine abs_wp (fun W => W.heap[w.heap.size + 1]? = some (.cells #[.bool (q.1), .int .u64 (dg (q.2) 0), .int .u64 (dg (q.2) 1), .int .u64 (dg (q.2) 2), .int .u64 (dg (q.2) 3)] 25 (0, 0)) ∧ Below w.heap.size w W) ⟨heap_old z1 _, by focus (repeat (first | (with_reducible exact Below.refl _ _) | (with_reducible assumption) | ((with_reducible refine Below.setCell ?_ ?_ _); rotate_left; (focus (first | omega | (simp; done) | (simp; omega)))) | ((with_reducible refine Below.alloc ?_ ?_ _); rotate_left; (focus (first | omega | (simp; done) | (simp; omega)))) | (with_reducible refine Below.drew ?_) | (refine below_on ?_ (by assumption))))⟩ fun W ⟨y1, gB⟩ => ?_
      clear hB z1 hsz
      have c1 := cell_at y1
      go_wp2_with fail
      refine (neg_e q 2 HQ.out H2.out _).mono ?_
      rintro e w2 ⟨rfl, hb1⟩
      have hB := below_on gB hb1
      have hsz := hB.size
      clear y1 gB c1 hb1
      go_upto_region 3 with (fail)
      refine abs_wp (fun W => Below w.heap.size w W) (by focus (repeat (first | (with_reducible exact Below.refl _ _) | (with_reducible assumption) | ((with_reducible refine Below.setCell ?_ ?_ _); rotate_left; (focus (first | omega | (simp; done) | (simp; omega)))) | ((with_reducible refine Below.alloc ?_ ?_ _); rotate_left; (focus (first | omega | (simp; done) | (simp; omega)))) | (with_reducible refine Below.drew ?_) | (refine below_on ?_ (by assumption))))) fun W gB => ?_
      clear hB hsz
      go_upto_region 4 with ((go_at_call 14; refine (num_s _ _).mono ?_; rintro e w' ⟨rfl, rfl⟩))
      go_wp2_with fail
      refine (works_any _).mono ?_
      rintro e wz ⟨rfl, hb⟩
      have hF := below_on gB hb
      go_wp2
      go_ret
      exact ⟨rfl, hF⟩
theorem add_cases (x y : Int) (hx : ab x < 2 ^ 256) : (ab (x + y) < 2 ^ 256 ∧ addV [x, y] = x + y ∧ addE [x, y] = 0) ∨ (¬ ab (x + y) < 2 ^ 256 ∧ addV [x, y] = 0 ∧ addE [x, y] = 110) := by
  by_cases h : ab (x + y) < 2 ^ 256
  · refine .inl ⟨h, ?_, ?_⟩
    · simp only [addV, addF, Int.zero_add, if_pos hx, if_pos h]; rfl
    · simp only [addE, addF, Int.zero_add, if_pos hx, if_pos h]; rfl
  · refine .inr ⟨h, ?_, ?_⟩
    · simp only [addV, addF, Int.zero_add, if_pos hx, if_neg h]; rfl
    · simp only [addE, addF, Int.zero_add, if_pos hx, if_neg h]; rfl
theorem mul_cases (x y : Int) (hx : ab x < 2 ^ 256) : (ab (x * y) < 2 ^ 256 ∧ mulV [x, y] = x * y ∧ mulE [x, y] = 0) ∨ (¬ ab (x * y) < 2 ^ 256 ∧ mulV [x, y] = 0 ∧ mulE [x, y] = 110) := by
  by_cases h : ab (x * y) < 2 ^ 256
  · refine .inl ⟨h, ?_, ?_⟩
    · simp only [mulV, mulF, Int.one_mul, if_pos hx, if_pos h]; rfl
    · simp only [mulE, mulF, Int.one_mul, if_pos hx, if_pos h]; rfl
  · refine .inr ⟨h, ?_, ?_⟩
    · simp only [mulV, mulF, Int.one_mul, if_pos hx, if_neg h]; rfl
    · simp only [mulE, mulF, Int.one_mul, if_pos hx, if_neg h]; rfl
theorem ab_tdiv (m n : Int) : ab (m.tdiv n) = ab m / ab n := by unfold ab; exact Int.natAbs_tdiv m n
theorem ab_tmod (m n : Int) : ab (m.tmod n) = ab m % ab n := by unfold ab; exact Int.natAbs_tmod m n
theorem mirrors_ok (m n : Int) (hx : ab m < 2 ^ 256) (hy : ab n < 2 ^ 256) (w : World) :
    Calls Try.prog 6 #[.agg #[.bool (ng (m)), .int .u64 (dg (ab (m)) 0), .int .u64 (dg (ab (m)) 1), .int .u64 (dg (ab (m)) 2), .int .u64 (dg (ab (m)) 3)], .agg #[.bool (ng (n)), .int .u64 (dg (ab (n)) 0), .int .u64 (dg (ab (n)) 1), .int .u64 (dg (ab (n)) 2), .int .u64 (dg (ab (n)) 3)]] w fun e w' => e = .returned (.bool true) ∧ Below w.heap.size w w' := by
  have hx2 : ab (-m) < 2 ^ 256 := by rw [ab_neg']; exact hx
  have hy2 : ab (-n) < 2 ^ 256 := by rw [ab_neg']; exact hy
  have hd : ab (-(m.tdiv n)) < 2 ^ 256 := by rw [ab_neg', ab_tdiv]; exact Nat.lt_of_le_of_lt (Nat.div_le_self _ _) hx
  have he : ab (-(m.tmod n)) < 2 ^ 256 := by rw [ab_neg', ab_tmod]; exact Nat.lt_of_le_of_lt (Nat.mod_le _ _) hx
  have hs : -m + -n = -(m + n) := by omega
  have hm : -m * n = -(m * n) := Int.neg_mul ..
  rcases add_cases m n hx with ⟨a1, a2, a3⟩ | ⟨a1, a2, a3⟩
  · have a4 : ab (-(m + n)) < 2 ^ 256 := by rw [ab_neg']; exact a1
    obtain ⟨a5, a6⟩ : addV [-m, -n] = -(m + n) ∧ addE [-m, -n] = 0 := by
      rcases add_cases (-m) (-n) hx2 with ⟨b1, b2, b3⟩ | ⟨b1, b2, b3⟩
      · exact ⟨b2.trans hs, b3⟩
      · exact absurd (hs ▸ a4) b1
    rcases mul_cases m n hx with ⟨c1, c2, c3⟩ | ⟨c1, c2, c3⟩
    · have c4 : ab (-(m * n)) < 2 ^ 256 := by rw [ab_neg']; exact c1
      obtain ⟨c5, c6⟩ : mulV [-m, n] = -(m * n) ∧ mulE [-m, n] = 0 := by
        rcases mul_cases (-m) n hx2 with ⟨b1, b2, b3⟩ | ⟨b1, b2, b3⟩
        · exact ⟨b2.trans hm, b3⟩
        · exact absurd (hm ▸ c4) b1
      by_cases h0 : n = 0
      · exact mirrors_110 m n ⟨hx⟩ ⟨hy⟩ ⟨hx2⟩ ⟨hy2⟩ ⟨a2, a3, a5, a6, a4, trivial⟩ ⟨c2, c3, c5, c6, c4, trivial⟩ ⟨h0⟩ w
      · exact mirrors_111 m n ⟨hx⟩ ⟨hy⟩ ⟨hx2⟩ ⟨hy2⟩ ⟨a2, a3, a5, a6, a4, trivial⟩ ⟨c2, c3, c5, c6, c4, trivial⟩ ⟨h0⟩ ⟨hd⟩ ⟨he⟩ w
    · by_cases h0 : n = 0
      · exact mirrors_100 m n ⟨hx⟩ ⟨hy⟩ ⟨hx2⟩ ⟨hy2⟩ ⟨a2, a3, a5, a6, a4, trivial⟩ ⟨c2, c3⟩ ⟨h0⟩ w
      · exact mirrors_101 m n ⟨hx⟩ ⟨hy⟩ ⟨hx2⟩ ⟨hy2⟩ ⟨a2, a3, a5, a6, a4, trivial⟩ ⟨c2, c3⟩ ⟨h0⟩ ⟨hd⟩ ⟨he⟩ w
  · rcases mul_cases m n hx with ⟨c1, c2, c3⟩ | ⟨c1, c2, c3⟩
    · have c4 : ab (-(m * n)) < 2 ^ 256 := by rw [ab_neg']; exact c1
      obtain ⟨c5, c6⟩ : mulV [-m, n] = -(m * n) ∧ mulE [-m, n] = 0 := by
        rcases mul_cases (-m) n hx2 with ⟨b1, b2, b3⟩ | ⟨b1, b2, b3⟩
        · exact ⟨b2.trans hm, b3⟩
        · exact absurd (hm ▸ c4) b1
      by_cases h0 : n = 0
      · exact mirrors_010 m n ⟨hx⟩ ⟨hy⟩ ⟨hx2⟩ ⟨hy2⟩ ⟨a2, a3⟩ ⟨c2, c3, c5, c6, c4, trivial⟩ ⟨h0⟩ w
      · exact mirrors_011 m n ⟨hx⟩ ⟨hy⟩ ⟨hx2⟩ ⟨hy2⟩ ⟨a2, a3⟩ ⟨c2, c3, c5, c6, c4, trivial⟩ ⟨h0⟩ ⟨hd⟩ ⟨he⟩ w
    · by_cases h0 : n = 0
      · exact mirrors_000 m n ⟨hx⟩ ⟨hy⟩ ⟨hx2⟩ ⟨hy2⟩ ⟨a2, a3⟩ ⟨c2, c3⟩ ⟨h0⟩ w
      · exact mirrors_001 m n ⟨hx⟩ ⟨hy⟩ ⟨hx2⟩ ⟨hy2⟩ ⟨a2, a3⟩ ⟨c2, c3⟩ ⟨h0⟩ ⟨hd⟩ ⟨he⟩ w
theorem mirrors_any (p q : Bool × Nat) (hp : p.2 < 2 ^ 256) (hq : q.2 < 2 ^ 256) (w : World) :
    Calls Try.prog 6 #[.agg #[.bool (p.1), .int .u64 (dg (p.2) 0), .int .u64 (dg (p.2) 1), .int .u64 (dg (p.2) 2), .int .u64 (dg (p.2) 3)], .agg #[.bool (q.1), .int .u64 (dg (q.2) 0), .int .u64 (dg (q.2) 1), .int .u64 (dg (q.2) 2), .int .u64 (dg (q.2) 3)]] w fun e w' => e = .returned (.bool true) ∧ Below w.heap.size w w' := by
  by_cases h : okP p ∧ okP q
  · have e1 := pr_of h.1
    have e2 := pr_of h.2
    generalize zof p.1 p.2 = m at e1
    generalize zof q.1 q.2 = n at e2
    subst e1 e2
    exact mirrors_ok m n hp hq w
  · exact mirrors_bad p q ⟨hp⟩ ⟨hq⟩ h w
end Go.Proofs.Yteibcklcegkbcaa
