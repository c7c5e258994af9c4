/-
  Walks of ratio: signed wide numbers. Conditions stand in each theorem.
-/
import Derived.Test.YtfgdichdddknlaaDoorLm13
import Derived.Test.YtfgdichdddknlaaDoorWd2
namespace Go.Proofs.YtfgdichdddknlaaDoor
open Go.RowKit Go.BigFrame

theorem below_upw {n : Nat} {w S W1 : World} (hn : n ≤ w.heap.size) (h : Below n w S) (k : Below S.heap.size S W1) : Below n w W1 := h.trans (k.mono (Nat.le_trans hn h.size))
def LaidK (n b : Nat) (v : Array Value) (W w' : World) : Prop :=
  (∀ {c : Array Value} {t : TypeId}, W.heap[b]? = some (.cells c t (0, 0)) → c.size = n → w'.heap[b]? = some (.cells v t (0, 0))) ∧ (∀ k o, k ≠ b → W.heap[k]? = some o → w'.heap[k]? = some o) ∧ ∀ n, n ≤ b → Below n W w'
theorem laid_9 (b : Nat) (W : World) (v0 v1 v2 v3 v4 v5 v6 v7 v8 : Value) : LaidK 9 b #[v0, v1, v2, v3, v4, v5, v6, v7, v8] W (((((((((W.setCell ⟨b, 0, none⟩ v0).setCell ⟨b, 1, none⟩ v1).setCell ⟨b, 2, none⟩ v2).setCell ⟨b, 3, none⟩ v3).setCell ⟨b, 4, none⟩ v4).setCell ⟨b, 5, none⟩ v5).setCell ⟨b, 6, none⟩ v6).setCell ⟨b, 7, none⟩ v7).setCell ⟨b, 8, none⟩ v8) := by
  refine ⟨fun {c t} h hs => ?_, fun k o hk h => ?_, fun n hn => ?_⟩
  · obtain ⟨c0, c1, c2, c3, c4, c5, c6, c7, c8, rfl⟩ : ∃ c0 c1 c2 c3 c4 c5 c6 c7 c8, c = #[c0, c1, c2, c3, c4, c5, c6, c7, c8] := by
      obtain ⟨l⟩ := c
      match l, hs with
      | [c0, c1, c2, c3, c4, c5, c6, c7, c8], _ => exact ⟨c0, c1, c2, c3, c4, c5, c6, c7, c8, rfl⟩
    have := (heap_set (heap_set (heap_set (heap_set (heap_set (heap_set (heap_set (heap_set (heap_set h 0 v0) 1 v1) 2 v2) 3 v3) 4 v4) 5 v5) 6 v6) 7 v7) 8 v8)
    simpa using this
  · repeat (refine heap_set_other ?_ hk _)
    exact h
  · repeat (refine Below.setCell ?_ hn _)
    exact Below.refl _ _
theorem laid_10 (b : Nat) (W : World) (v0 v1 v2 v3 v4 v5 v6 v7 v8 v9 : Value) : LaidK 10 b #[v0, v1, v2, v3, v4, v5, v6, v7, v8, v9] W ((((((((((W.setCell ⟨b, 0, none⟩ v0).setCell ⟨b, 1, none⟩ v1).setCell ⟨b, 2, none⟩ v2).setCell ⟨b, 3, none⟩ v3).setCell ⟨b, 4, none⟩ v4).setCell ⟨b, 5, none⟩ v5).setCell ⟨b, 6, none⟩ v6).setCell ⟨b, 7, none⟩ v7).setCell ⟨b, 8, none⟩ v8).setCell ⟨b, 9, none⟩ v9) := by
  refine ⟨fun {c t} h hs => ?_, fun k o hk h => ?_, fun n hn => ?_⟩
  · obtain ⟨c0, c1, c2, c3, c4, c5, c6, c7, c8, c9, rfl⟩ : ∃ c0 c1 c2 c3 c4 c5 c6 c7 c8 c9, c = #[c0, c1, c2, c3, c4, c5, c6, c7, c8, c9] := by
      obtain ⟨l⟩ := c
      match l, hs with
      | [c0, c1, c2, c3, c4, c5, c6, c7, c8, c9], _ => exact ⟨c0, c1, c2, c3, c4, c5, c6, c7, c8, c9, rfl⟩
    have := (heap_set (heap_set (heap_set (heap_set (heap_set (heap_set (heap_set (heap_set (heap_set (heap_set h 0 v0) 1 v1) 2 v2) 3 v3) 4 v4) 5 v5) 6 v6) 7 v7) 8 v8) 9 v9)
    simpa using this
  · repeat (refine heap_set_other ?_ hk _)
    exact h
  · repeat (refine Below.setCell ?_ hn _)
    exact Below.refl _ _

set_option maxHeartbeats 1000000 in
theorem eq_nine {P : Program} (w : World) (d : Nat) {t e : TypeId} {i : TypeInfo} (hu : P.underlying t = some (.array 9 e)) (hi : P.info? e = some i) (hc : P.cellsOf e = 1) (he : P.underlying e = some (.int .u64)) (a0 a1 a2 a3 a4 a5 a6 a7 a8 b0 b1 b2 b3 b4 b5 b6 b7 b8 : Int) :
    (Op.equalIn (d + 2) t (.agg #[.int .u64 a0, .int .u64 a1, .int .u64 a2, .int .u64 a3, .int .u64 a4, .int .u64 a5, .int .u64 a6, .int .u64 a7, .int .u64 a8]) (.agg #[.int .u64 b0, .int .u64 b1, .int .u64 b2, .int .u64 b3, .int .u64 b4, .int .u64 b5, .int .u64 b6, .int .u64 b7, .int .u64 b8])).run P w = .ok (a0 == b0 && (a1 == b1 && (a2 == b2 && (a3 == b3 && (a4 == b4 && (a5 == b5 && (a6 == b6 && (a7 == b7 && (a8 == b8))))))))) w := by
  have hs : ∀ w : World, (sizeOf e).run P w = .ok 1 w := fun w => by rw [run_sizeOf w hi, hc]
  have hg : ∀ w : World, (isAgg e).run P w = .ok false w := fun w => by simp [isAgg, run_underlying he]
  have hp : ∀ (w : World) (xs : Array Value) (k : Nat) (v : Value), xs[k]? = some v → (part e xs k).run P w = .ok v w := fun w xs k v hv => by
    simp [part, hg, hv]
  rw [run_equalIn_array w (d + 1) _ _ hu hi, hc]
  simp only [List.range_succ, List.range_zero, List.nil_append, List.cons_append, Op.eqItems, Sem.run_bind]
  rw [hp w _ _ (.int .u64 a0) (by simp)]
  simp only [Result.andThen_ok]
  rw [hp w _ _ (.int .u64 b0) (by simp)]
  simp only [Result.andThen_ok]
  rw [run_equalIn_int w d e .u64 .u64 a0 b0 he]
  simp only [Result.andThen_ok]
  cases h0 : (a0 == b0)
  · simp
  simp only [Bool.not_true, Bool.false_eq_true, if_false, Sem.run_bind]
  rw [hp w _ _ (.int .u64 a1) (by simp)]
  simp only [Result.andThen_ok]
  rw [hp w _ _ (.int .u64 b1) (by simp)]
  simp only [Result.andThen_ok]
  rw [run_equalIn_int w d e .u64 .u64 a1 b1 he]
  simp only [Result.andThen_ok]
  cases h1 : (a1 == b1)
  · simp
  simp only [Bool.not_true, Bool.false_eq_true, if_false, Sem.run_bind]
  rw [hp w _ _ (.int .u64 a2) (by simp)]
  simp only [Result.andThen_ok]
  rw [hp w _ _ (.int .u64 b2) (by simp)]
  simp only [Result.andThen_ok]
  rw [run_equalIn_int w d e .u64 .u64 a2 b2 he]
  simp only [Result.andThen_ok]
  cases h2 : (a2 == b2)
  · simp
  simp only [Bool.not_true, Bool.false_eq_true, if_false, Sem.run_bind]
  rw [hp w _ _ (.int .u64 a3) (by simp)]
  simp only [Result.andThen_ok]
  rw [hp w _ _ (.int .u64 b3) (by simp)]
  simp only [Result.andThen_ok]
  rw [run_equalIn_int w d e .u64 .u64 a3 b3 he]
  simp only [Result.andThen_ok]
  cases h3 : (a3 == b3)
  · simp
  simp only [Bool.not_true, Bool.false_eq_true, if_false, Sem.run_bind]
  rw [hp w _ _ (.int .u64 a4) (by simp)]
  simp only [Result.andThen_ok]
  rw [hp w _ _ (.int .u64 b4) (by simp)]
  simp only [Result.andThen_ok]
  rw [run_equalIn_int w d e .u64 .u64 a4 b4 he]
  simp only [Result.andThen_ok]
  cases h4 : (a4 == b4)
  · simp
  simp only [Bool.not_true, Bool.false_eq_true, if_false, Sem.run_bind]
  rw [hp w _ _ (.int .u64 a5) (by simp)]
  simp only [Result.andThen_ok]
  rw [hp w _ _ (.int .u64 b5) (by simp)]
  simp only [Result.andThen_ok]
  rw [run_equalIn_int w d e .u64 .u64 a5 b5 he]
  simp only [Result.andThen_ok]
  cases h5 : (a5 == b5)
  · simp
  simp only [Bool.not_true, Bool.false_eq_true, if_false, Sem.run_bind]
  rw [hp w _ _ (.int .u64 a6) (by simp)]
  simp only [Result.andThen_ok]
  rw [hp w _ _ (.int .u64 b6) (by simp)]
  simp only [Result.andThen_ok]
  rw [run_equalIn_int w d e .u64 .u64 a6 b6 he]
  simp only [Result.andThen_ok]
  cases h6 : (a6 == b6)
  · simp
  simp only [Bool.not_true, Bool.false_eq_true, if_false, Sem.run_bind]
  rw [hp w _ _ (.int .u64 a7) (by simp)]
  simp only [Result.andThen_ok]
  rw [hp w _ _ (.int .u64 b7) (by simp)]
  simp only [Result.andThen_ok]
  rw [run_equalIn_int w d e .u64 .u64 a7 b7 he]
  simp only [Result.andThen_ok]
  cases h7 : (a7 == b7)
  · simp
  simp only [Bool.not_true, Bool.false_eq_true, if_false, Sem.run_bind]
  rw [hp w _ _ (.int .u64 a8) (by simp)]
  simp only [Result.andThen_ok]
  rw [hp w _ _ (.int .u64 b8) (by simp)]
  simp only [Result.andThen_ok]
  rw [run_equalIn_int w d e .u64 .u64 a8 b8 he]
  simp only [Result.andThen_ok]
  cases h8 : (a8 == b8)
  · simp
  simp
theorem infoU64 : ∃ i, Tryd.prog.info? 96 = some i := by
  cases h : Tryd.prog.info? 96 with
  | some i => exact ⟨i, rfl⟩
  | none => exact absurd h (by
      have h1 : (Tryd.prog.info? 96).isSome = true := by kernel_rfl
      intro h2
      rw [h2] at h1
      cases h1)
end Go.Proofs.YtfgdichdddknlaaDoor
