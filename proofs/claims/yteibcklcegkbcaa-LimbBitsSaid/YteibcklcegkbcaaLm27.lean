/-
  Walks: == of Ints; num, sure of the law package. Conditions stand in each theorem.
-/
import Derived.Test.YteibcklcegkbcaaLm26
import Derived.Laws.StructEq
namespace Go.Proofs.Yteibcklcegkbcaa
open Go.RowKit Go.BigFrame

theorem fieldsInt : (Try.prog.fieldsOf 25).toList.map (fun f => (f.name == "_", f.type, f.offset)) = [(false, 4, 0), (false, 23, 1)] := by kernel_rfl
@[go_sem] theorem eqInt (w : World) (d : Nat) (p q : Bool) (a0 a1 a2 a3 b0 b1 b2 b3 : Int) :
    (Op.equalIn (d + 3) 25 (.agg #[.bool p, .int .u64 a0, .int .u64 a1, .int .u64 a2, .int .u64 a3]) (.agg #[.bool q, .int .u64 b0, .int .u64 b1, .int .u64 b2, .int .u64 b3])).run Try.prog w =
      .ok (p == q && (a0 == b0 && (a1 == b1 && (a2 == b2 && a3 == b3)))) w := by
  rw [run_equalIn_struct (P := Try.prog) w (d + 2) 25 _ _ (by kernel_rfl) (by kernel_rfl)]
  have h := fieldsInt
  generalize (Try.prog.fieldsOf 25).toList = fs at h
  obtain ⟨f0, f1, rfl⟩ : ∃ f0 f1, fs = [f0, f1] := by
    have hl := congrArg List.length h
    rw [List.length_map] at hl
    cases fs with
    | nil => simp at hl
    | cons f0 fs =>
      cases fs with
      | nil => simp at hl
      | cons f1 fs =>
        cases fs with
        | nil => exact ⟨f0, f1, rfl⟩
        | cons f2 fs => simp at hl
  · simp only [List.map_cons, List.map_nil, List.cons.injEq, Prod.mk.injEq, and_true] at h
    obtain ⟨⟨n0, t0, o0⟩, n1, t1, o1⟩ := h
    have m0 : f0.name ≠ "_" := by simpa using n0
    have m1 : f1.name ≠ "_" := by simpa using n1
    have g0 : ∀ w : World, (isAgg 4).run Try.prog w = .ok false w := fun w => by simp [isAgg, run_underlying Try.underlying4]
    have g1 : ∀ w : World, (isAgg 23).run Try.prog w = .ok true w := fun w => by simp [isAgg, run_underlying Try.underlying23]
    have c1 : Try.prog.cellsOf 23 = 4 := by kernel_rfl
    obtain ⟨i1, hi1⟩ : ∃ i, Try.prog.info? 23 = some i := by
      cases h : Try.prog.info? 23 with
      | some i => exact ⟨i, rfl⟩
      | none => exact absurd h (by intro h; have : (Try.prog.info? 23).isSome = true := (by kernel_rfl); rw [h] at this; cases this)
    have s1 : ∀ w : World, (sizeOf 23).run Try.prog w = .ok 4 w := fun w => by rw [run_sizeOf w hi1, c1]
    simp only [Op.eqFields, if_pos m0, if_pos m1, t0, t1, o0, o1, part, Sem.run_bind, g0, g1, s1, Result.andThen_ok]
    have e0 := fun w => run_equalIn_bool' (P := Try.prog) (w := w) (d + 1) 4 p q Try.underlying4
    have e1 := fun w => eqArr w d a0 a1 a2 a3 b0 b1 b2 b3
    cases hb : (p == q)
    · rw [hb] at e0
      simp [e0]
    · rw [hb] at e0
      cases hr : (a0 == b0 && (a1 == b1 && (a2 == b2 && a3 == b3)))
      · rw [hr] at e1
        simp [e0, e1]
      · rw [hr] at e1
        simp [e0, e1]
theorem num_any (n : Int) (w : World) : Calls Try.prog 14 #[.int .i64 n] w fun e w' => e = .returned (.int .i64 n) ∧ w' = w := by
  go_enter Try.func14, Try.ntmps14
  go_wp2
  go_ret
  exact ⟨rfl, rfl⟩
set_option maxHeartbeats 1000000 in
theorem sure_any (z n : Int) (w : World) : Calls Try.prog 26 #[.agg #[.bool (ng (z)), .int .u64 (dg (ab (z)) 0), .int .u64 (dg (ab (z)) 1), .int .u64 (dg (ab (z)) 2), .int .u64 (dg (ab (z)) 3)], .int .i64 n] w fun e w' => e = .returned (.tuple #[.agg #[.bool (ng (z)), .int .u64 (dg (ab (z)) 0), .int .u64 (dg (ab (z)) 1), .int .u64 (dg (ab (z)) 2), .int .u64 (dg (ab (z)) 3)], .bool (n == 0)]) ∧ Below w.heap.size w w' := by
  go_enter Try.func26, Try.ntmps26
  go_upto_region 1 with (fail)
  have hm : w.heap.size ≠ w.heap.size + 1 := by omega
  refine abs_wp (fun W => W.heap[w.heap.size]? = some (.cells #[.bool (ng (z)), .int .u64 (dg (ab (z)) 0), .int .u64 (dg (ab (z)) 1), .int .u64 (dg (ab (z)) 2), .int .u64 (dg (ab (z)) 3)] 25 (0, 0)) ∧ W.heap[w.heap.size + 1]? = some (.cells #[.bool false, .int .u64 0, .int .u64 0, .int .u64 0, .int .u64 0] 25 (0, 0)) ∧ Below w.heap.size w W) ⟨heap_old (heap_new _ _) _, heap_at (by simp) _, by focus (repeat (first | (with_reducible exact Below.refl _ _) | (with_reducible assumption) | ((with_reducible refine Below.setCell ?_ ?_ _); rotate_left; (focus (first | omega | (simp; done) | (simp; omega)))) | ((with_reducible refine Below.alloc ?_ ?_ _); rotate_left; (focus (first | omega | (simp; done) | (simp; omega)))) | (with_reducible refine Below.drew ?_) | (refine below_on ?_ (by assumption))))⟩ fun W ⟨y0, y1, hB⟩ => ?_
  have f1 := frozen_at y1
  have k0 : W.cell? ⟨w.heap.size + 1, 0, none⟩ = some (.bool false) := cell_at y1 0
  have k1 : W.cell? ⟨w.heap.size + 1, 1, none⟩ = some (.int .u64 0) := cell_at y1 1
  have k2 : W.cell? ⟨w.heap.size + 1, 2, none⟩ = some (.int .u64 0) := cell_at y1 2
  have k3 : W.cell? ⟨w.heap.size + 1, 3, none⟩ = some (.int .u64 0) := cell_at y1 3
  have k4 : W.cell? ⟨w.heap.size + 1, 4, none⟩ = some (.int .u64 0) := cell_at y1 4
  have g0 : W.cell? ⟨w.heap.size, 0, none⟩ = some (.bool (ng z)) := cell_at y0 0
  have g1 : W.cell? ⟨w.heap.size, 1, none⟩ = some (.int .u64 (dg (ab z) 0)) := cell_at y0 1
  have g2 : W.cell? ⟨w.heap.size, 2, none⟩ = some (.int .u64 (dg (ab z) 1)) := cell_at y0 2
  have g3 : W.cell? ⟨w.heap.size, 3, none⟩ = some (.int .u64 (dg (ab z) 2)) := cell_at y0 3
  have g4 : W.cell? ⟨w.heap.size, 4, none⟩ = some (.int .u64 (dg (ab z) 3)) := cell_at y0 4
  go_region_held3 (fun W' => W'.cell? ⟨w.heap.size, 0, none⟩ = some (.bool (ng z)) ∧ W'.cell? ⟨w.heap.size, 1, none⟩ = some (.int .u64 (dg (ab z) 0)) ∧ W'.cell? ⟨w.heap.size, 2, none⟩ = some (.int .u64 (dg (ab z) 1)) ∧ W'.cell? ⟨w.heap.size, 3, none⟩ = some (.int .u64 (dg (ab z) 2)) ∧ W'.cell? ⟨w.heap.size, 4, none⟩ = some (.int .u64 (dg (ab z) 3))) (simp [go_sem, *]) ((go_at_call 14; refine (num_any _ _).mono ?_; rintro e w' ⟨rfl, rfl⟩))
  go_wp2
  refine abs_post (fun W' => W'.heap[w.heap.size + 1]? = some (.cells #[.bool (ng (z)), .int .u64 (dg (ab (z)) 0), .int .u64 (dg (ab (z)) 1), .int .u64 (dg (ab (z)) 2), .int .u64 (dg (ab (z)) 3)] 25 (0, 0)) ∧ Below w.heap.size w W') ?_ fun W' ⟨y0, hB⟩ => ?_
  · obtain ⟨l1, l2, l3⟩ := laid_five (w.heap.size + 1) W (.bool (ng z)) (.int .u64 (dg (ab z) 0)) (.int .u64 (dg (ab z) 1)) (.int .u64 (dg (ab z) 2)) (.int .u64 (dg (ab z) 3))
    exact ⟨(congrArg (fun h => h[w.heap.size + 1]?) (drew_heap _)).trans (l1 y1 rfl), Below.drew (hB.trans (l3 _ (by omega)))⟩
  · have c0 := cell_at y0
    refine bodyPost_ret (by simp [results, Try.results26, go_sem, c0]) rfl ⟨rfl, hB⟩
end Go.Proofs.Yteibcklcegkbcaa
