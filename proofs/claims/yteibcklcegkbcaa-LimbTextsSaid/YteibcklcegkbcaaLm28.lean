/-
  Walks: works of the law package. Conditions stand in each theorem.
-/
import Derived.Test.YteibcklcegkbcaaLm26
import Derived.Laws.StructEq
namespace Go.Proofs.Yteibcklcegkbcaa
open Go.RowKit Go.BigFrame

theorem fieldsInt : (Try.prog.fieldsOf 25).toList.map (fun f => (f.name == "_", f.type, f.offset)) = [(false, 4, 0), (false, 23, 1)] := by kernel_rfl
@[go_sem] theorem eqInt (w : World) (d : Nat) (p q : Bool) (a0 a1 a2 a3 b0 b1 b2 b3 : Int) :
    (Op.equalIn (d + 3) 25 (.agg #[.bool p, .int .u64 a0, .int .u64 a1, .int .u64 a2, .int .u64 a3]) (.agg #[.bool q, .int .u64 b0, .int .u64 b1, .int .u64 b2, .int .u64 b3])).run Try.prog w =
      .ok (p == q && (a0 == b0 && (a1 == b1 && (a2 == b2 && a3 == b3)))) w := by
  rw [run_equalIn_struct (P := Try.prog) w (d + 2) 25 _ _ (by kernel_rfl) (by kernel_rfl)]
  have h := fieldsInt
  generalize (Try.prog.fieldsOf 25).toList = fs at h
  obtain ⟨f0, f1, rfl⟩ : ∃ f0 f1, fs = [f0, f1] := by
    have hl := congrArg List.length h
    rw [List.length_map] at hl
    cases fs with
    | nil => simp at hl
    | cons f0 fs =>
      cases fs with
      | nil => simp at hl
      | cons f1 fs =>
        cases fs with
        | nil => exact ⟨f0, f1, rfl⟩
        | cons f2 fs => simp at hl
  · simp only [List.map_cons, List.map_nil, List.cons.injEq, Prod.mk.injEq, and_true] at h
    obtain ⟨⟨n0, t0, o0⟩, n1, t1, o1⟩ := h
    have m0 : f0.name ≠ "_" := by simpa using n0
    have m1 : f1.name ≠ "_" := by simpa using n1
    have g0 : ∀ w : World, (isAgg 4).run Try.prog w = .ok false w := fun w => by simp [isAgg, run_underlying Try.underlying4]
    have g1 : ∀ w : World, (isAgg 23).run Try.prog w = .ok true w := fun w => by simp [isAgg, run_underlying Try.underlying23]
    have c1 : Try.prog.cellsOf 23 = 4 := by kernel_rfl
    obtain ⟨i1, hi1⟩ : ∃ i, Try.prog.info? 23 = some i := by
      cases h : Try.prog.info? 23 with
      | some i => exact ⟨i, rfl⟩
      | none => exact absurd h (by intro h; have : (Try.prog.info? 23).isSome = true := (by kernel_rfl); rw [h] at this; cases this)
    have s1 : ∀ w : World, (sizeOf 23).run Try.prog w = .ok 4 w := fun w => by rw [run_sizeOf w hi1, c1]
    simp only [Op.eqFields, if_pos m0, if_pos m1, t0, t1, o0, o1, part, Sem.run_bind, g0, g1, s1, Result.andThen_ok]
    have e0 := fun w => run_equalIn_bool' (P := Try.prog) (w := w) (d + 1) 4 p q Try.underlying4
    have e1 := fun w => eqArr w d a0 a1 a2 a3 b0 b1 b2 b3
    cases hb : (p == q)
    · rw [hb] at e0
      simp [e0]
    · rw [hb] at e0
      cases hr : (a0 == b0 && (a1 == b1 && (a2 == b2 && a3 == b3)))
      · rw [hr] at e1
        simp [e0, e1]
      · rw [hr] at e1
        simp [e0, e1]
theorem num_any (n : Int) (w : World) : Calls Try.prog 14 #[.int .i64 n] w fun e w' => e = .returned (.int .i64 n) ∧ w' = w := by
  go_enter Try.func14, Try.ntmps14
  go_wp2
  go_ret
  exact ⟨rfl, rfl⟩
set_option maxHeartbeats 1000000 in
theorem sure_any (z n : Int) (w : World) : Calls Try.prog 26 #[.agg #[.bool (ng (z)), .int .u64 (dg (ab (z)) 0), .int .u64 (dg (ab (z)) 1), .int .u64 (dg (ab (z)) 2), .int .u64 (dg (ab (z)) 3)], .int .i64 n] w fun e w' => e = .returned (.tuple #[.agg #[.bool (ng (z)), .int .u64 (dg (ab (z)) 0), .int .u64 (dg (ab (z)) 1), .int .u64 (dg (ab (z)) 2), .int .u64 (dg (ab (z)) 3)], .bool (n == 0)]) ∧ Below w.heap.size w w' := by
  go_enter Try.func26, Try.ntmps26
  go_upto_region 1 with (fail)
  have hm : w.heap.size ≠ w.heap.size + 1 := by omega
  refine abs_wp (fun W => W.heap[w.heap.size]? = some (.cells #[.bool (ng (z)), .int .u64 (dg (ab (z)) 0), .int .u64 (dg (ab (z)) 1), .int .u64 (dg (ab (z)) 2), .int .u64 (dg (ab (z)) 3)] 25 (0, 0)) ∧ W.heap[w.heap.size + 1]? = some (.cells #[.bool false, .int .u64 0, .int .u64 0, .int .u64 0, .int .u64 0] 25 (0, 0)) ∧ Below w.heap.size w W) ⟨heap_old (heap_new _ _) _, heap_at (by simp) _, by focus (repeat (first | (with_reducible exact Below.refl _ _) | (with_reducible assumption) | ((with_reducible refine Below.setCell ?_ ?_ _); rotate_left; (focus (first | omega | (simp; done) | (simp; omega)))) | ((with_reducible refine Below.alloc ?_ ?_ _); rotate_left; (focus (first | omega | (simp; done) | (simp; omega)))) | (with_reducible refine Below.drew ?_) | (refine below_on ?_ (by assumption))))⟩ fun W ⟨y0, y1, hB⟩ => ?_
  have f1 := frozen_at y1
  have k0 : W.cell? ⟨w.heap.size + 1, 0, none⟩ = some (.bool false) := cell_at y1 0
  have k1 : W.cell? ⟨w.heap.size + 1, 1, none⟩ = some (.int .u64 0) := cell_at y1 1
  have k2 : W.cell? ⟨w.heap.size + 1, 2, none⟩ = some (.int .u64 0) := cell_at y1 2
  have k3 : W.cell? ⟨w.heap.size + 1, 3, none⟩ = some (.int .u64 0) := cell_at y1 3
  have k4 : W.cell? ⟨w.heap.size + 1, 4, none⟩ = some (.int .u64 0) := cell_at y1 4
  have g0 : W.cell? ⟨w.heap.size, 0, none⟩ = some (.bool (ng z)) := cell_at y0 0
  have g1 : W.cell? ⟨w.heap.size, 1, none⟩ = some (.int .u64 (dg (ab z) 0)) := cell_at y0 1
  have g2 : W.cell? ⟨w.heap.size, 2, none⟩ = some (.int .u64 (dg (ab z) 1)) := cell_at y0 2
  have g3 : W.cell? ⟨w.heap.size, 3, none⟩ = some (.int .u64 (dg (ab z) 2)) := cell_at y0 3
  have g4 : W.cell? ⟨w.heap.size, 4, none⟩ = some (.int .u64 (dg (ab z) 3)) := cell_at y0 4
  go_region_held3 (fun W' => W'.cell? ⟨w.heap.size, 0, none⟩ = some (.bool (ng z)) ∧ W'.cell? ⟨w.heap.size, 1, none⟩ = some (.int .u64 (dg (ab z) 0)) ∧ W'.cell? ⟨w.heap.size, 2, none⟩ = some (.int .u64 (dg (ab z) 1)) ∧ W'.cell? ⟨w.heap.size, 3, none⟩ = some (.int .u64 (dg (ab z) 2)) ∧ W'.cell? ⟨w.heap.size, 4, none⟩ = some (.int .u64 (dg (ab z) 3))) (simp [go_sem, *]) ((go_at_call 14; refine (num_any _ _).mono ?_; rintro e w' ⟨rfl, rfl⟩))
  go_wp2
  refine abs_post (fun W' => W'.heap[w.heap.size + 1]? = some (.cells #[.bool (ng (z)), .int .u64 (dg (ab (z)) 0), .int .u64 (dg (ab (z)) 1), .int .u64 (dg (ab (z)) 2), .int .u64 (dg (ab (z)) 3)] 25 (0, 0)) ∧ Below w.heap.size w W') ?_ fun W' ⟨y0, hB⟩ => ?_
  · obtain ⟨l1, l2, l3⟩ := laid_five (w.heap.size + 1) W (.bool (ng z)) (.int .u64 (dg (ab z) 0)) (.int .u64 (dg (ab z) 1)) (.int .u64 (dg (ab z) 2)) (.int .u64 (dg (ab z) 3))
    exact ⟨(congrArg (fun h => h[w.heap.size + 1]?) (drew_heap _)).trans (l1 y1 rfl), Below.drew (hB.trans (l3 _ (by omega)))⟩
  · have c0 := cell_at y0
    refine bodyPost_ret (by simp [results, Try.results26, go_sem, c0]) rfl ⟨rfl, hB⟩
open Go.RowKit Go.BigFrame

theorem quo_at (x y q r : Int) (hx : ab x < 2 ^ 256) (hy : ab y < 2 ^ 256) (h0 : y ≠ 0) (hq : x.tdiv y = q) (hr : x.tmod y = r) (w : World) :
    Calls Try.prog 11 #[.agg #[.bool (ng (x)), .int .u64 (dg (ab (x)) 0), .int .u64 (dg (ab (x)) 1), .int .u64 (dg (ab (x)) 2), .int .u64 (dg (ab (x)) 3)], .agg #[.bool (ng (y)), .int .u64 (dg (ab (y)) 0), .int .u64 (dg (ab (y)) 1), .int .u64 (dg (ab (y)) 2), .int .u64 (dg (ab (y)) 3)]] w fun e w' => e = .returned (.tuple #[.agg #[.bool (ng (q)), .int .u64 (dg (ab (q)) 0), .int .u64 (dg (ab (q)) 1), .int .u64 (dg (ab (q)) 2), .int .u64 (dg (ab (q)) 3)], .agg #[.bool (ng (r)), .int .u64 (dg (ab (r)) 0), .int .u64 (dg (ab (r)) 1), .int .u64 (dg (ab (r)) 2), .int .u64 (dg (ab (r)) 3)], .int .i64 0]) ∧ Below w.heap.size w w' := by
  have h := quo_ok x y hx hy h0 w
  rw [hq, hr] at h
  exact h
theorem gcd_at (x y g : Int) (hx : ab x < 2 ^ 256) (hy : ab y < 2 ^ 256) (hg : ((Nat.gcd (ab x) (ab y) : Nat) : Int) = g) (w : World) :
    Calls Try.prog 12 #[.agg #[.bool (ng (x)), .int .u64 (dg (ab (x)) 0), .int .u64 (dg (ab (x)) 1), .int .u64 (dg (ab (x)) 2), .int .u64 (dg (ab (x)) 3)], .agg #[.bool (ng (y)), .int .u64 (dg (ab (y)) 0), .int .u64 (dg (ab (y)) 1), .int .u64 (dg (ab (y)) 2), .int .u64 (dg (ab (y)) 3)]] w fun e w' => e = .returned (.tuple #[.agg #[.bool (ng (g)), .int .u64 (dg (ab (g)) 0), .int .u64 (dg (ab (g)) 1), .int .u64 (dg (ab (g)) 2), .int .u64 (dg (ab (g)) 3)], .int .i64 0]) ∧ Below w.heap.size w w' := by
  have h := gcd_ok x y hx hy w
  rw [hg] at h
  exact h
theorem text_at (z : Int) (s : ByteArray) (hz : ab z < 2 ^ 256) (h : textZ z = s) (w : World) :
    Calls Try.prog 20 #[.agg #[.bool (ng (z)), .int .u64 (dg (ab (z)) 0), .int .u64 (dg (ab (z)) 1), .int .u64 (dg (ab (z)) 2), .int .u64 (dg (ab (z)) 3)]] w fun e w' => e = .returned (.tuple #[.string s, .int .i64 0]) ∧ Below w.heap.size w w' := h ▸ text_ok z hz w
theorem text120 : textZ (-120) = ⟨#[45, 49, 50, 48]⟩ := by
  have h : dec10 120 = [0, 2, 1] := by
    rw [dec10_big (by decide), dec10_big (by decide), dec10_small (by decide)]
  unfold textZ revB
  rw [show ab (-120) = 120 from rfl, h]
  rfl
def maxI : Int := 115792089237316195423570985008687907853269984665640564039457584007913129639935
theorem ints_max {W : World} {b : Nat} {t : TypeId} {f : Nat × Nat}
    (h : W.heap[b]? = some (.cells #[.bool false, .int .u64 18446744073709551615, .int .u64 18446744073709551615, .int .u64 18446744073709551615, .int .u64 18446744073709551615, .bool (ng 1), .int .u64 (dg (ab 1) 0), .int .u64 (dg (ab 1) 1), .int .u64 (dg (ab 1) 2), .int .u64 (dg (ab 1) 3)] t f)) :
    IntsAt W (some ⟨b, 0, none⟩) ([maxI, 1].map pr) := by
  refine ints_two_z (t := t) (f := f) (by decide) (by decide) (h.trans ?_)
  have h0 : ng maxI = false := by decide
  have h1 : dg (ab maxI) 0 = 18446744073709551615 := by decide
  have h2 : dg (ab maxI) 1 = 18446744073709551615 := by decide
  have h3 : dg (ab maxI) 2 = 18446744073709551615 := by decide
  have h4 : dg (ab maxI) 3 = 18446744073709551615 := by decide
  rw [h0, h1, h2, h3, h4]
theorem addV_max : addV [maxI, 1] = 0 := by
  have h1 : ab (0 + maxI) < 2 ^ 256 := by decide
  have h2 : ¬ ab (0 + maxI + 1) < 2 ^ 256 := by decide
  simp only [addV, addF, if_pos h1, if_neg h2]; rfl
theorem addE_max : addE [maxI, 1] = 110 := by
  have h1 : ab (0 + maxI) < 2 ^ 256 := by decide
  have h2 : ¬ ab (0 + maxI + 1) < 2 ^ 256 := by decide
  simp only [addE, addF, if_pos h1, if_neg h2]; rfl
theorem add_at (A : Option Addr) (c : Nat) (zs : List Int) (v n : Int) (w : World) (hI : IntsAt w A (zs.map pr)) (hv : addV zs = v) (hn : addE zs = n) :
    Calls Try.prog 27 #[.slice A zs.length c] w fun e w' => e = .returned (.tuple #[.agg #[.bool (ng (v)), .int .u64 (dg (ab (v)) 0), .int .u64 (dg (ab (v)) 1), .int .u64 (dg (ab (v)) 2), .int .u64 (dg (ab (v)) 3)], .int .i64 n]) ∧ Below w.heap.size w w' := by
  subst hv hn
  exact add_ok A c zs w hI
theorem parse_at (s : ByteArray) (v n : Int) (hs : s.size ≤ 1000000) (hv : parseV (strB s) = v) (hn : parseE (strB s) = n) (w : World) :
    Calls Try.prog 21 #[.string s] w fun e w' => e = .returned (.tuple #[.agg #[.bool (ng (v)), .int .u64 (dg (ab (v)) 0), .int .u64 (dg (ab (v)) 1), .int .u64 (dg (ab (v)) 2), .int .u64 (dg (ab (v)) 3)], .int .i64 n]) ∧ Below w.heap.size w w' := by
  subst hv hn
  exact parse_any s hs w
theorem parse_m0 : parseV (strB ⟨#[45, 48]⟩) = 0 ∧ parseE (strB ⟨#[45, 48]⟩) = 111 := by decide
theorem parse_007 : parseV (strB ⟨#[48, 48, 55]⟩) = 0 ∧ parseE (strB ⟨#[48, 48, 55]⟩) = 111 := by decide
set_option maxHeartbeats 2000000 in
theorem works_any (w : World) : Calls Try.prog 15 #[] w fun e w' => e = .returned (.bool true) ∧ Below w.heap.size w w' := by
  go_enter Try.func15, Try.ntmps15
  go_wp2_with fail
  refine (of_word (-7) (by decide) (by decide) _).mono ?_
  rintro e w1 ⟨rfl, hb1⟩
  go_wp2_with fail
  refine (of_word 2 (by decide) (by decide) _).mono ?_
  rintro e w2 ⟨rfl, hb2⟩
  have hw2 : Below w.heap.size w w2 := below_on hb1 hb2
  clear hb1 hb2
  go_wp2_with fail
  refine (quo_at (-7) 2 (-3) (-1) (by decide) (by decide) (by decide) (by decide) (by decide) _).mono ?_
  rintro e w3 ⟨rfl, hb3⟩
  have hw3 : Below w.heap.size w w3 := below_on hw2 hb3
  clear hw2 hb3
  have hs3 := hw3.size
  go_upto_region 2 with (fail)
  refine abs_wp (fun W => W.heap[w3.heap.size]? = some (.cells #[.bool (ng (-3)), .int .u64 (dg (ab (-3)) 0), .int .u64 (dg (ab (-3)) 1), .int .u64 (dg (ab (-3)) 2), .int .u64 (dg (ab (-3)) 3)] 25 (0, 0)) ∧ W.heap[w3.heap.size + 1]? = some (.cells #[.bool (ng (-1)), .int .u64 (dg (ab (-1)) 0), .int .u64 (dg (ab (-1)) 1), .int .u64 (dg (ab (-1)) 2), .int .u64 (dg (ab (-1)) 3)] 25 (0, 0)) ∧ Below w.heap.size w W) ⟨heap_old (heap_new _ _) _, heap_at (by simp) _, by focus (repeat (first | (with_reducible exact Below.refl _ _) | (with_reducible assumption) | ((with_reducible refine Below.setCell ?_ ?_ _); rotate_left; (focus (first | omega | (simp; done) | (simp; omega)))) | ((with_reducible refine Below.alloc ?_ ?_ _); rotate_left; (focus (first | omega | (simp; done) | (simp; omega)))) | (with_reducible refine Below.drew ?_) | (refine below_on ?_ (by assumption))))⟩ fun W ⟨z1, z2, hB⟩ => ?_
  clear hw3
  -- Gcd
  go_wp2_with fail
  refine (of_word (-12) (by decide) (by decide) _).mono ?_
  rintro e w4 ⟨rfl, hb4⟩
  go_wp2_with fail
  refine (of_word 18 (by decide) (by decide) _).mono ?_
  rintro e w5 ⟨rfl, hb5⟩
  go_wp2_with fail
  refine (gcd_at (-12) 18 6 (by decide) (by decide) (by decide) _).mono ?_
  rintro e w6 ⟨rfl, hb6⟩
  have h6 : Below W.heap.size W w6 := below_on (below_on hb4 hb5) hb6
  have z3 := heap_below h6 z1
  have z4 := heap_below h6 z2
  have hw6 := below_on hB h6
  have hs6 := hw6.size
  clear hb4 hb5 hb6 h6 z1 z2 hB
  go_upto_region 3 with (fail)
  refine abs_wp (fun W => W.heap[w3.heap.size]? = some (.cells #[.bool (ng (-3)), .int .u64 (dg (ab (-3)) 0), .int .u64 (dg (ab (-3)) 1), .int .u64 (dg (ab (-3)) 2), .int .u64 (dg (ab (-3)) 3)] 25 (0, 0)) ∧ W.heap[w3.heap.size + 1]? = some (.cells #[.bool (ng (-1)), .int .u64 (dg (ab (-1)) 0), .int .u64 (dg (ab (-1)) 1), .int .u64 (dg (ab (-1)) 2), .int .u64 (dg (ab (-1)) 3)] 25 (0, 0)) ∧ W.heap[w6.heap.size]? = some (.cells #[.bool (ng (6)), .int .u64 (dg (ab (6)) 0), .int .u64 (dg (ab (6)) 1), .int .u64 (dg (ab (6)) 2), .int .u64 (dg (ab (6)) 3)] 25 (0, 0)) ∧ Below w.heap.size w W) ⟨heap_old z3 _, heap_old z4 _, heap_new _ _, by focus (repeat (first | (with_reducible exact Below.refl _ _) | (with_reducible assumption) | ((with_reducible refine Below.setCell ?_ ?_ _); rotate_left; (focus (first | omega | (simp; done) | (simp; omega)))) | ((with_reducible refine Below.alloc ?_ ?_ _); rotate_left; (focus (first | omega | (simp; done) | (simp; omega)))) | (with_reducible refine Below.drew ?_) | (refine below_on ?_ (by assumption))))⟩ fun W ⟨z1, z2, z5, hB⟩ => ?_
  clear z3 z4 hw6
  -- Text
  go_wp2_with fail
  refine (of_word (-120) (by decide) (by decide) _).mono ?_
  rintro e w7 ⟨rfl, hb7⟩
  go_wp2_with fail
  refine (text_at (-120) ⟨#[45, 49, 50, 48]⟩ (by decide) text120 _).mono ?_
  rintro e w8 ⟨rfl, hb8⟩
  -- Quo by nought
  go_wp2_with fail
  refine (of_word 1 (by decide) (by decide) _).mono ?_
  rintro e w9 ⟨rfl, hb9⟩
  go_wp2_with fail
  refine (of_word 0 (by decide) (by decide) _).mono ?_
  rintro e w10 ⟨rfl, hb10⟩
  go_wp2_with fail
  refine (quo_zero 1 0 (by decide) (by decide) rfl _).mono ?_
  rintro e w11 ⟨rfl, hb11⟩
  have h11 : Below W.heap.size W w11 := below_on (below_on (below_on (below_on hb7 hb8) hb9) hb10) hb11
  have z3 := heap_below h11 z1
  have z4 := heap_below h11 z2
  have z6 := heap_below h11 z5
  have hw11 := below_on hB h11
  have hs11 := hw11.size
  clear hb7 hb8 hb9 hb10 hb11 h11 z1 z2 z5 hB
  go_upto_region 5 with (fail)
  refine abs_wp (fun W => W.heap[w3.heap.size]? = some (.cells #[.bool (ng (-3)), .int .u64 (dg (ab (-3)) 0), .int .u64 (dg (ab (-3)) 1), .int .u64 (dg (ab (-3)) 2), .int .u64 (dg (ab (-3)) 3)] 25 (0, 0)) ∧ W.heap[w3.heap.size + 1]? = some (.cells #[.bool (ng (-1)), .int .u64 (dg (ab (-1)) 0), .int .u64 (dg (ab (-1)) 1), .int .u64 (dg (ab (-1)) 2), .int .u64 (dg (ab (-1)) 3)] 25 (0, 0)) ∧ W.heap[w6.heap.size]? = some (.cells #[.bool (ng (6)), .int .u64 (dg (ab (6)) 0), .int .u64 (dg (ab (6)) 1), .int .u64 (dg (ab (6)) 2), .int .u64 (dg (ab (6)) 3)] 25 (0, 0)) ∧ Below w.heap.size w W) ⟨heap_old (heap_old z3 _) _, heap_old (heap_old z4 _) _, heap_old (heap_old z6 _) _, by focus (repeat (first | (with_reducible exact Below.refl _ _) | (with_reducible assumption) | ((with_reducible refine Below.setCell ?_ ?_ _); rotate_left; (focus (first | omega | (simp; done) | (simp; omega)))) | ((with_reducible refine Below.alloc ?_ ?_ _); rotate_left; (focus (first | omega | (simp; done) | (simp; omega)))) | (with_reducible refine Below.drew ?_) | (refine below_on ?_ (by assumption))))⟩ fun W ⟨z1, z2, z5, hB⟩ => ?_
  clear z3 z4 z6 hw11
  -- Add, too great
  go_wp2_with fail
  refine (of_word 1 (by decide) (by decide) _).mono ?_
  rintro e w12 ⟨rfl, hb12⟩
  have hs12 := hb12.size
  go_wp2_with fail
  refine (add_at _ _ [maxI, 1] 0 110 _ (ints_max (b := w12.heap.size) (by focus (repeat (first | (with_reducible exact heap_at (by first | rfl | (simp; done) | (simp; omega)) _) | (with_reducible refine heap_old ?_ _))))) addV_max addE_max).mono ?_
  rintro e w13 ⟨rfl, hb13⟩
  have h13 : Below W.heap.size W w13 := by
    focus (repeat (first | (with_reducible exact Below.refl _ _) | (with_reducible assumption) | ((with_reducible refine Below.setCell ?_ ?_ _); rotate_left; (focus (first | omega | (simp; done) | (simp; omega)))) | ((with_reducible refine Below.alloc ?_ ?_ _); rotate_left; (focus (first | omega | (simp; done) | (simp; omega)))) | (with_reducible refine Below.drew ?_) | (refine below_on ?_ (by assumption))))
  have z3 := heap_below h13 z1
  have z4 := heap_below h13 z2
  have z6 := heap_below h13 z5
  have hw13 := below_on hB h13
  have hs13 := hw13.size
  clear hb12 hb13 h13 z1 z2 z5 hB
  go_upto_region 6 with (fail)
  refine abs_wp (fun W => W.heap[w3.heap.size]? = some (.cells #[.bool (ng (-3)), .int .u64 (dg (ab (-3)) 0), .int .u64 (dg (ab (-3)) 1), .int .u64 (dg (ab (-3)) 2), .int .u64 (dg (ab (-3)) 3)] 25 (0, 0)) ∧ W.heap[w3.heap.size + 1]? = some (.cells #[.bool (ng (-1)), .int .u64 (dg (ab (-1)) 0), .int .u64 (dg (ab (-1)) 1), .int .u64 (dg (ab (-1)) 2), .int .u64 (dg (ab (-1)) 3)] 25 (0, 0)) ∧ W.heap[w6.heap.size]? = some (.cells #[.bool (ng (6)), .int .u64 (dg (ab (6)) 0), .int .u64 (dg (ab (6)) 1), .int .u64 (dg (ab (6)) 2), .int .u64 (dg (ab (6)) 3)] 25 (0, 0)) ∧ Below w.heap.size w W) ⟨heap_old z3 _, heap_old z4 _, heap_old z6 _, by focus (repeat (first | (with_reducible exact Below.refl _ _) | (with_reducible assumption) | ((with_reducible refine Below.setCell ?_ ?_ _); rotate_left; (focus (first | omega | (simp; done) | (simp; omega)))) | ((with_reducible refine Below.alloc ?_ ?_ _); rotate_left; (focus (first | omega | (simp; done) | (simp; omega)))) | (with_reducible refine Below.drew ?_) | (refine below_on ?_ (by assumption))))⟩ fun W ⟨z1, z2, z5, hB⟩ => ?_
  clear z3 z4 z6 hw13
  -- Parse
  go_wp2_with fail
  refine (parse_at ⟨#[45, 48]⟩ 0 111 (by decide) parse_m0.1 parse_m0.2 _).mono ?_
  rintro e w14 ⟨rfl, hb14⟩
  have z3 := heap_below hb14 z1
  have z4 := heap_below hb14 z2
  have z6 := heap_below hb14 z5
  have hw14 := below_on hB hb14
  have hs14 := hw14.size
  clear hb14 z1 z2 z5 hB
  go_upto_region 7 with (fail)
  refine abs_wp (fun W => W.heap[w3.heap.size]? = some (.cells #[.bool (ng (-3)), .int .u64 (dg (ab (-3)) 0), .int .u64 (dg (ab (-3)) 1), .int .u64 (dg (ab (-3)) 2), .int .u64 (dg (ab (-3)) 3)] 25 (0, 0)) ∧ W.heap[w3.heap.size + 1]? = some (.cells #[.bool (ng (-1)), .int .u64 (dg (ab (-1)) 0), .int .u64 (dg (ab (-1)) 1), .int .u64 (dg (ab (-1)) 2), .int .u64 (dg (ab (-1)) 3)] 25 (0, 0)) ∧ W.heap[w6.heap.size]? = some (.cells #[.bool (ng (6)), .int .u64 (dg (ab (6)) 0), .int .u64 (dg (ab (6)) 1), .int .u64 (dg (ab (6)) 2), .int .u64 (dg (ab (6)) 3)] 25 (0, 0)) ∧ Below w.heap.size w W) ⟨heap_old z3 _, heap_old z4 _, heap_old z6 _, by focus (repeat (first | (with_reducible exact Below.refl _ _) | (with_reducible assumption) | ((with_reducible refine Below.setCell ?_ ?_ _); rotate_left; (focus (first | omega | (simp; done) | (simp; omega)))) | ((with_reducible refine Below.alloc ?_ ?_ _); rotate_left; (focus (first | omega | (simp; done) | (simp; omega)))) | (with_reducible refine Below.drew ?_) | (refine below_on ?_ (by assumption))))⟩ fun W ⟨z1, z2, z5, hB⟩ => ?_
  clear z3 z4 z6 hw14
  go_wp2_with fail
  refine (parse_at ⟨#[48, 48, 55]⟩ 0 111 (by decide) parse_007.1 parse_007.2 _).mono ?_
  rintro e w15 ⟨rfl, hb15⟩
  have z3 := heap_below hb15 z1
  have z4 := heap_below hb15 z2
  have z6 := heap_below hb15 z5
  have hw15 := below_on hB hb15
  have hs15 := hw15.size
  clear hb15 z1 z2 z5 hB
  go_upto_region 8 with (fail)
  refine abs_wp (fun W => W.heap[w3.heap.size]? = some (.cells #[.bool (ng (-3)), .int .u64 (dg (ab (-3)) 0), .int .u64 (dg (ab (-3)) 1), .int .u64 (dg (ab (-3)) 2), .int .u64 (dg (ab (-3)) 3)] 25 (0, 0)) ∧ W.heap[w3.heap.size + 1]? = some (.cells #[.bool (ng (-1)), .int .u64 (dg (ab (-1)) 0), .int .u64 (dg (ab (-1)) 1), .int .u64 (dg (ab (-1)) 2), .int .u64 (dg (ab (-1)) 3)] 25 (0, 0)) ∧ W.heap[w6.heap.size]? = some (.cells #[.bool (ng (6)), .int .u64 (dg (ab (6)) 0), .int .u64 (dg (ab (6)) 1), .int .u64 (dg (ab (6)) 2), .int .u64 (dg (ab (6)) 3)] 25 (0, 0)) ∧ Below w.heap.size w W) ⟨heap_old z3 _, heap_old z4 _, heap_old z6 _, by focus (repeat (first | (with_reducible exact Below.refl _ _) | (with_reducible assumption) | ((with_reducible refine Below.setCell ?_ ?_ _); rotate_left; (focus (first | omega | (simp; done) | (simp; omega)))) | ((with_reducible refine Below.alloc ?_ ?_ _); rotate_left; (focus (first | omega | (simp; done) | (simp; omega)))) | (with_reducible refine Below.drew ?_) | (refine below_on ?_ (by assumption))))⟩ fun W ⟨z1, z2, z5, hB⟩ => ?_
  clear z3 z4 z6 hw15
  refine region_qt 53 (by kernel_rfl) (by kernel_rfl) fun X _ mk hmk hcl => ?_
  have q1 := fun x => cell_at (heap_below (hmk x) z1)
  have q2 := fun x => cell_at (heap_below (hmk x) z2)
  have q5 := fun x => cell_at (heap_below (hmk x) z5)
  have h30 : dg (ab (-3)) 0 = 3 := by decide
  have h10 : dg (ab (-1)) 0 = 1 := by decide
  simp only [List.take_succ_cons, List.take_zero, List.drop_succ_cons, List.drop_zero]
  repeat (go_big_quiet_step ((first | (go_at_call 31; exact (of_word _ (by decide) (by decide) _).mono fun e w' ⟨he, hw⟩ => ⟨he, hcl _ _ hw⟩) | (go_at_call 14; exact (num_any _ _).mono fun e w' ⟨he, hw⟩ => ⟨he, hw ▸ ⟨_, rfl⟩⟩))))
  refine wpQuiet_nil ?_
  rintro _ ⟨x, rfl⟩
  have hW1 := hmk x
  clear hcl hmk q1 q2 q5
  generalize mk x = W1 at hW1
  have hF : Below w.heap.size w W1 := below_on hB hW1
  go_wp2
  go_ret
  exact ⟨rfl, hF⟩
end Go.Proofs.Yteibcklcegkbcaa
