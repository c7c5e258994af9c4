/-
  Walks of ratio: the fraction of two wide numbers, in lowest terms. Conditions stand in each theorem.
-/
import Derived.Laws.CopyOwn
import Derived.Test.YtbhfnfokihdjjaaGreatDoorWd6
import Derived.Test.YtbhfnfokihdjjaaGreatDoorWe8
namespace Go.Proofs.YtbhfnfokihdjjaaGreatDoor
open Go.RowKit Go.BigFrame

theorem run_clear_row {P : Program} (w : World) (dT ty elem : TypeId) (g o n cap : Nat) (cur : Array Value) (t : TypeId) (z : Value) (hu : P.underlying dT = some (.slice elem)) (hz : ∀ w, (zeroValue elem).run P w = .ok z w) (hzs : z.cells.size = 1) (h1 : z.cells[0]!.oneCell' = true)
    (hg : w.heap[g]? = some (.cells cur t (0, 0))) (hn : 0 < n) (hfit : o + n ≤ cur.size) :
    (Builtin.clear_ #[dT] ty #[.slice (some ⟨g, o, none⟩) n cap]).run P w = .ok (.tuple #[]) (w.setRow g (cur.toList.take o ++ (List.replicate n z.cells[0]! ++ cur.toList.drop (o + n))).toArray) := by
  have hc : (Builtin.zeroCells z.cells n).toList = List.replicate n z.cells[0]! := by
    apply List.ext_getElem
    · simp [Builtin.zeroCells, hzs]
    · intro i h1 h2
      simp [Builtin.zeroCells, hzs, Nat.mod_one]
  have hst := run_storeCells_at P g o t (List.replicate n z.cells[0]!) 0 cur w hg (by simpa using hfit) (fun v hv => by rw [(List.mem_replicate.1 hv).2]; exact h1)
  obtain ⟨m, rfl⟩ : ∃ m, n = m + 1 := ⟨n - 1, by omega⟩
  simp [Builtin.clear_, run_underlying hu, hz, hc, hst]
theorem wpList_clear_own {P : Program} {w : World} {ops : Array Oper} {rest : List Oper} {o : Oper} {a : Act} {Q : Exit → Act → World → Prop} (hgd : o.guard = none) (d : Operand) (dT : TypeId)
    (ho : o.op = .call { callee := .builtin .clear, args := #[d], argTypes := #[dT] }) (elem : TypeId) (hu : P.underlying dT = some (.slice elem)) (z : Value) (hz : ∀ w, (zeroValue elem).run P w = .ok z w) (hzs : z.cells.size = 1) (h1 : z.cells[0]!.oneCell' = true)
    (g off n cap : Nat) (hd : a.eval d = .slice (some ⟨g, off, none⟩) n cap) (cur : Array Value) (t : TypeId) (hg : w.heap[g]? = some (.cells cur t (0, 0))) (hn : 0 < n) (hfit : off + n ≤ cur.size)
    (h : wpList P ops Q rest (a.put o.dst (.tuple #[])) (w.setRow g (cur.toList.take off ++ (List.replicate n z.cells[0]! ++ cur.toList.drop (off + n))).toArray)) : wpList P ops Q (o :: rest) a w := by
  refine wpList_plain hgd fun K hK => ?_
  have hrun := run_clear_row (P := P) w dT o.type elem g off n cap cur t z hu hz hzs h1 hg hn hfit
  unfold Oper.wp
  simp [execOp, ho, resolve, invoke, builtin, hd, hrun, Result.andThen]
  exact hK _ _ h
theorem wide_of {a : Nat} (k : Nat) (hk : 4 ≤ k) (h : a < 2 ^ 256) : a < 2 ^ (64 * k) := Nat.lt_of_lt_of_le h (Nat.pow_le_pow_right (by decide) (by omega))
set_option maxRecDepth 20000 in
set_option maxHeartbeats 2000000 in
theorem wnarrow_ok (s : Bool) (a : Nat) (b : Bool) (hs : (s && decide (a ≠ 0)) = b) (ha : a < 2 ^ 256) (w : World) :
    Calls Tryz.prog 156 #[.agg #[.int .u64 (dg (a) 0), .int .u64 (dg (a) 1), .int .u64 (dg (a) 2), .int .u64 (dg (a) 3), .int .u64 (dg (a) 4), .int .u64 (dg (a) 5), .int .u64 (dg (a) 6), .int .u64 (dg (a) 7), .int .u64 (dg (a) 8)], .bool s] w fun e w' => e = .returned (.agg #[.bool (b), .int .u64 (dg (a) 0), .int .u64 (dg (a) 1), .int .u64 (dg (a) 2), .int .u64 (dg (a) 3)]) ∧ Below w.heap.size w w' := by
  have hz := nine_zero (wide_of 9 (by decide) ha)
  have HA := Hd.mk ha
  have e4 := dg_high ha (Nat.le_refl 4)
  have e5 := dg_high ha (show 4 ≤ 5 by decide)
  have e6 := dg_high ha (show 4 ≤ 6 by decide)
  have e7 := dg_high ha (show 4 ≤ 7 by decide)
  have e8 := dg_high ha (show 4 ≤ 8 by decide)
  have HE := Hd.mk (And.intro e4 (And.intro e5 (And.intro e6 (And.intro e7 e8))))
  clear e4 e5 e6 e7 e8 ha
  cases s with
  | false =>
    have hb : b = false := hs.symm
    subst hb
    clear hs hz
    go_enter Tryz.func156, Tryz.ntmps156
    go_upto_region 2 with (fail)
    try clear hz
    refine abs_wp (fun W => W.heap[w.heap.size]? = some (.cells #[.int .u64 (dg (a) 0), .int .u64 (dg (a) 1), .int .u64 (dg (a) 2), .int .u64 (dg (a) 3), .int .u64 (dg (a) 4), .int .u64 (dg (a) 5), .int .u64 (dg (a) 6), .int .u64 (dg (a) 7), .int .u64 (dg (a) 8)] 160 (0, 0)) ∧ W.heap[w.heap.size + 1]? = some (.cells #[.bool false, .int .u64 0, .int .u64 0, .int .u64 0, .int .u64 0] 42 (0, 0)) ∧ W.heap[w.heap.size + 1 + 1]? = some (.cells #[.bool false, .int .u64 0, .int .u64 0, .int .u64 0, .int .u64 0] 42 (0, 0)) ∧ Below w.heap.size w W) ⟨heap_old (heap_old (heap_new _ _) _) _, heap_old (heap_at (by simp) _) _, heap_at (by simp) _, by focus (repeat (first | (with_reducible exact Below.refl _ _) | (with_reducible assumption) | ((with_reducible refine Below.setCell ?_ ?_ _); rotate_left; (focus (first | omega | (simp; done) | (simp; omega)))) | ((with_reducible refine Below.alloc ?_ ?_ _); rotate_left; (focus (first | omega | (simp; done) | (simp; omega)))) | (with_reducible refine Below.drew ?_) | (refine below_on ?_ (by assumption))))⟩ fun W ⟨z0, z1, z2, hB⟩ => ?_
    refine region_qt 3 (by kernel_rfl) (by kernel_rfl) fun X _ mk hmk hcl => ?_
    simp only [List.take_succ_cons, List.take_zero, List.drop_succ_cons, List.drop_zero]
    repeat (go_big_quiet_step (skip))
    refine wpQuiet_nil ?_
    rintro _ ⟨x, rfl⟩
    have hx := hmk x
    clear hcl hmk
    generalize mk x = W1 at hx
    have y0 := heap_below hx z0
    have y1 := heap_below hx z1
    have y2 := heap_below hx z2
    have hB1 := below_on hB hx
    clear hx z0 z1 z2 hB
    refine wpList_copy_own rfl (.tmp 15) (.tmp 16) 228 228 rfl 39 (by kernel_rfl) (by kernel_rfl) (w.heap.size + 1 + 1) 1 4 4 ⟨w.heap.size, 0, none⟩ 9 9 rfl rfl _ _ y2 [.int .u64 (dg (a) 0), .int .u64 (dg (a) 1), .int .u64 (dg (a) 2), .int .u64 (dg (a) 3)] rfl ?_ (by simp) ?_ ?_
    · intro j v hv
      have c0 := cell_at y0
      obtain rfl | rfl | rfl | rfl | h4 : j = 0 ∨ j = 1 ∨ j = 2 ∨ j = 3 ∨ 4 ≤ j := by omega
      · exact (c0 0).trans hv
      · exact (c0 1).trans hv
      · exact (c0 2).trans hv
      · exact (c0 3).trans hv
      · rw [List.getElem?_eq_none (by simpa using h4)] at hv
        cases hv
    · intro v hv
      simp only [List.mem_cons, List.not_mem_nil, or_false] at hv
      rcases hv with rfl | rfl | rfl | rfl
      all_goals rfl
    refine abs_list (fun W => W.heap[w.heap.size]? = some (.cells #[.int .u64 (dg (a) 0), .int .u64 (dg (a) 1), .int .u64 (dg (a) 2), .int .u64 (dg (a) 3), .int .u64 (dg (a) 4), .int .u64 (dg (a) 5), .int .u64 (dg (a) 6), .int .u64 (dg (a) 7), .int .u64 (dg (a) 8)] 160 (0, 0)) ∧ W.heap[w.heap.size + 1]? = some (.cells #[.bool false, .int .u64 0, .int .u64 0, .int .u64 0, .int .u64 0] 42 (0, 0)) ∧ W.heap[w.heap.size + 1 + 1]? = some (.cells #[.bool (false), .int .u64 (dg (a) 0), .int .u64 (dg (a) 1), .int .u64 (dg (a) 2), .int .u64 (dg (a) 3)] 42 (0, 0)) ∧ Below w.heap.size w W) ⟨(setRow_other _ _ _ _ (by omega)).trans y0, (setRow_other _ _ _ _ (by omega)).trans y1, setRow_heap _ _ _ _ _ _ y2, below_setRow hB1 (by omega) _⟩ fun W2 ⟨z0, z1, z2, hB⟩ => ?_
    clear y0 y1 y2 hB1
    have c0 := cell_at z0
    have s2 := lt_of_block z2
    go_upto_region 4 with (fail)
    refine abs_wp (fun W => W.heap[w.heap.size]? = some (.cells #[.int .u64 (dg (a) 0), .int .u64 (dg (a) 1), .int .u64 (dg (a) 2), .int .u64 (dg (a) 3), .int .u64 (dg (a) 4), .int .u64 (dg (a) 5), .int .u64 (dg (a) 6), .int .u64 (dg (a) 7), .int .u64 (dg (a) 8)] 160 (0, 0)) ∧ W.heap[w.heap.size + 1]? = some (.cells #[.bool false, .int .u64 0, .int .u64 0, .int .u64 0, .int .u64 0] 42 (0, 0)) ∧ W.heap[w.heap.size + 1 + 1]? = some (.cells #[.bool (false), .int .u64 (dg (a) 0), .int .u64 (dg (a) 1), .int .u64 (dg (a) 2), .int .u64 (dg (a) 3)] 42 (0, 0)) ∧ W.heap[W2.heap.size]? = some (.cells #[.int .u64 (dg (a) 0), .int .u64 (dg (a) 1), .int .u64 (dg (a) 2), .int .u64 (dg (a) 3), .int .u64 (dg (a) 4), .int .u64 (dg (a) 5), .int .u64 (dg (a) 6), .int .u64 (dg (a) 7), .int .u64 (dg (a) 8)] 160 (0, 0)) ∧ Below w.heap.size w W) ⟨heap_old z0 _, heap_old z1 _, heap_old z2 _, heap_new _ _, by focus (repeat (first | (with_reducible exact Below.refl _ _) | (with_reducible assumption) | ((with_reducible refine Below.setCell ?_ ?_ _); rotate_left; (focus (first | omega | (simp; done) | (simp; omega)))) | ((with_reducible refine Below.alloc ?_ ?_ _); rotate_left; (focus (first | omega | (simp; done) | (simp; omega)))) | (with_reducible refine Below.drew ?_) | (refine below_on ?_ (by assumption))))⟩ fun W ⟨y0, y1, y2, y3, hB1⟩ => ?_
    clear z0 z1 z2 hB c0
    obtain ⟨m, hm⟩ : ∃ m, m = W2.heap.size := ⟨_, rfl⟩
    rw [← hm] at y3 s2 ⊢
    clear hm
    go_upto_region 5 with ((with_reducible show wpList _ _ _ _ _ _); refine wpList_clear_own rfl (.tmp 19) 228 rfl 39 (by kernel_rfl) (.int .u64 0) (fun w => by kernel_rfl) rfl rfl m 0 4 9 rfl _ _ y3 (by decide) (by simp) ?_)
    refine abs_wp (fun W => W.heap[w.heap.size]? = some (.cells #[.int .u64 (dg (a) 0), .int .u64 (dg (a) 1), .int .u64 (dg (a) 2), .int .u64 (dg (a) 3), .int .u64 (dg (a) 4), .int .u64 (dg (a) 5), .int .u64 (dg (a) 6), .int .u64 (dg (a) 7), .int .u64 (dg (a) 8)] 160 (0, 0)) ∧ W.heap[w.heap.size + 1]? = some (.cells #[.bool false, .int .u64 0, .int .u64 0, .int .u64 0, .int .u64 0] 42 (0, 0)) ∧ W.heap[w.heap.size + 1 + 1]? = some (.cells #[.bool (false), .int .u64 (dg (a) 0), .int .u64 (dg (a) 1), .int .u64 (dg (a) 2), .int .u64 (dg (a) 3)] 42 (0, 0)) ∧ W.heap[m]? = some (.cells #[.int .u64 0, .int .u64 0, .int .u64 0, .int .u64 0, .int .u64 0, .int .u64 0, .int .u64 0, .int .u64 0, .int .u64 0] 160 (0, 0)) ∧ Below w.heap.size w W) ⟨(setRow_other _ _ _ _ (by omega)).trans y0, (setRow_other _ _ _ _ (by omega)).trans y1, (setRow_other _ _ _ _ (by omega)).trans y2, ?_, below_setRow hB1 (by omega) _⟩ fun W ⟨z0, z1, z2, z3, hB⟩ => ?_
    · refine (setRow_heap _ _ _ _ _ _ y3).trans ?_
      rw [HE.out.1, HE.out.2.1, HE.out.2.2.1, HE.out.2.2.2.1, HE.out.2.2.2.2]
      rfl
    clear y0 y1 y2 y3 hB1
    have c3 := cell_at z3
    have c2 := cell_at z2
    have c1 := cell_at z1
    have f1 := frozen_at z1
    go_wp2_with fail
    refine (ratio_must_ok _ _).mono ?_
    rintro e w' ⟨rfl, rfl⟩
    go_wp2
    obtain ⟨l1, l2, l3⟩ := laid_five (w.heap.size + 1) w' (.bool false) (.int .u64 (dg a 0)) (.int .u64 (dg a 1)) (.int .u64 (dg a 2)) (.int .u64 (dg a 3))
    have k1 := cell_at (l1 z1 rfl)
    refine bodyPost_ret (by simp [results, Tryz.results156, go_sem, k1] <;> rfl) rfl ⟨rfl, hB.trans (l3 _ (by omega))⟩
  | true =>
    have hz2 : decide (a = 0) = !b := by rw [← hs]; by_cases h : a = 0 <;> simp [h]
    rw [hz2] at hz
    clear hs hz2
    go_enter Tryz.func156, Tryz.ntmps156
    go_upto_region 2 with (fail)
    try clear hz
    refine abs_wp (fun W => W.heap[w.heap.size]? = some (.cells #[.int .u64 (dg (a) 0), .int .u64 (dg (a) 1), .int .u64 (dg (a) 2), .int .u64 (dg (a) 3), .int .u64 (dg (a) 4), .int .u64 (dg (a) 5), .int .u64 (dg (a) 6), .int .u64 (dg (a) 7), .int .u64 (dg (a) 8)] 160 (0, 0)) ∧ W.heap[w.heap.size + 1]? = some (.cells #[.bool false, .int .u64 0, .int .u64 0, .int .u64 0, .int .u64 0] 42 (0, 0)) ∧ W.heap[w.heap.size + 1 + 1]? = some (.cells #[.bool b, .int .u64 0, .int .u64 0, .int .u64 0, .int .u64 0] 42 (0, 0)) ∧ Below w.heap.size w W) ⟨heap_old (heap_old (heap_new _ _) _) _, heap_old (heap_at (by simp) _) _, heap_at (by simp) _, by focus (repeat (first | (with_reducible exact Below.refl _ _) | (with_reducible assumption) | ((with_reducible refine Below.setCell ?_ ?_ _); rotate_left; (focus (first | omega | (simp; done) | (simp; omega)))) | ((with_reducible refine Below.alloc ?_ ?_ _); rotate_left; (focus (first | omega | (simp; done) | (simp; omega)))) | (with_reducible refine Below.drew ?_) | (refine below_on ?_ (by assumption))))⟩ fun W ⟨z0, z1, z2, hB⟩ => ?_
    refine region_qt 3 (by kernel_rfl) (by kernel_rfl) fun X _ mk hmk hcl => ?_
    simp only [List.take_succ_cons, List.take_zero, List.drop_succ_cons, List.drop_zero]
    repeat (go_big_quiet_step (skip))
    refine wpQuiet_nil ?_
    rintro _ ⟨x, rfl⟩
    have hx := hmk x
    clear hcl hmk
    generalize mk x = W1 at hx
    have y0 := heap_below hx z0
    have y1 := heap_below hx z1
    have y2 := heap_below hx z2
    have hB1 := below_on hB hx
    clear hx z0 z1 z2 hB
    refine wpList_copy_own rfl (.tmp 15) (.tmp 16) 228 228 rfl 39 (by kernel_rfl) (by kernel_rfl) (w.heap.size + 1 + 1) 1 4 4 ⟨w.heap.size, 0, none⟩ 9 9 rfl rfl _ _ y2 [.int .u64 (dg (a) 0), .int .u64 (dg (a) 1), .int .u64 (dg (a) 2), .int .u64 (dg (a) 3)] rfl ?_ (by simp) ?_ ?_
    · intro j v hv
      have c0 := cell_at y0
      obtain rfl | rfl | rfl | rfl | h4 : j = 0 ∨ j = 1 ∨ j = 2 ∨ j = 3 ∨ 4 ≤ j := by omega
      · exact (c0 0).trans hv
      · exact (c0 1).trans hv
      · exact (c0 2).trans hv
      · exact (c0 3).trans hv
      · rw [List.getElem?_eq_none (by simpa using h4)] at hv
        cases hv
    · intro v hv
      simp only [List.mem_cons, List.not_mem_nil, or_false] at hv
      rcases hv with rfl | rfl | rfl | rfl
      all_goals rfl
    refine abs_list (fun W => W.heap[w.heap.size]? = some (.cells #[.int .u64 (dg (a) 0), .int .u64 (dg (a) 1), .int .u64 (dg (a) 2), .int .u64 (dg (a) 3), .int .u64 (dg (a) 4), .int .u64 (dg (a) 5), .int .u64 (dg (a) 6), .int .u64 (dg (a) 7), .int .u64 (dg (a) 8)] 160 (0, 0)) ∧ W.heap[w.heap.size + 1]? = some (.cells #[.bool false, .int .u64 0, .int .u64 0, .int .u64 0, .int .u64 0] 42 (0, 0)) ∧ W.heap[w.heap.size + 1 + 1]? = some (.cells #[.bool (b), .int .u64 (dg (a) 0), .int .u64 (dg (a) 1), .int .u64 (dg (a) 2), .int .u64 (dg (a) 3)] 42 (0, 0)) ∧ Below w.heap.size w W) ⟨(setRow_other _ _ _ _ (by omega)).trans y0, (setRow_other _ _ _ _ (by omega)).trans y1, setRow_heap _ _ _ _ _ _ y2, below_setRow hB1 (by omega) _⟩ fun W2 ⟨z0, z1, z2, hB⟩ => ?_
    clear y0 y1 y2 hB1
    have c0 := cell_at z0
    have s2 := lt_of_block z2
    go_upto_region 4 with (fail)
    refine abs_wp (fun W => W.heap[w.heap.size]? = some (.cells #[.int .u64 (dg (a) 0), .int .u64 (dg (a) 1), .int .u64 (dg (a) 2), .int .u64 (dg (a) 3), .int .u64 (dg (a) 4), .int .u64 (dg (a) 5), .int .u64 (dg (a) 6), .int .u64 (dg (a) 7), .int .u64 (dg (a) 8)] 160 (0, 0)) ∧ W.heap[w.heap.size + 1]? = some (.cells #[.bool false, .int .u64 0, .int .u64 0, .int .u64 0, .int .u64 0] 42 (0, 0)) ∧ W.heap[w.heap.size + 1 + 1]? = some (.cells #[.bool (b), .int .u64 (dg (a) 0), .int .u64 (dg (a) 1), .int .u64 (dg (a) 2), .int .u64 (dg (a) 3)] 42 (0, 0)) ∧ W.heap[W2.heap.size]? = some (.cells #[.int .u64 (dg (a) 0), .int .u64 (dg (a) 1), .int .u64 (dg (a) 2), .int .u64 (dg (a) 3), .int .u64 (dg (a) 4), .int .u64 (dg (a) 5), .int .u64 (dg (a) 6), .int .u64 (dg (a) 7), .int .u64 (dg (a) 8)] 160 (0, 0)) ∧ Below w.heap.size w W) ⟨heap_old z0 _, heap_old z1 _, heap_old z2 _, heap_new _ _, by focus (repeat (first | (with_reducible exact Below.refl _ _) | (with_reducible assumption) | ((with_reducible refine Below.setCell ?_ ?_ _); rotate_left; (focus (first | omega | (simp; done) | (simp; omega)))) | ((with_reducible refine Below.alloc ?_ ?_ _); rotate_left; (focus (first | omega | (simp; done) | (simp; omega)))) | (with_reducible refine Below.drew ?_) | (refine below_on ?_ (by assumption))))⟩ fun W ⟨y0, y1, y2, y3, hB1⟩ => ?_
    clear z0 z1 z2 hB c0
    obtain ⟨m, hm⟩ : ∃ m, m = W2.heap.size := ⟨_, rfl⟩
    rw [← hm] at y3 s2 ⊢
    clear hm
    go_upto_region 5 with ((with_reducible show wpList _ _ _ _ _ _); refine wpList_clear_own rfl (.tmp 19) 228 rfl 39 (by kernel_rfl) (.int .u64 0) (fun w => by kernel_rfl) rfl rfl m 0 4 9 rfl _ _ y3 (by decide) (by simp) ?_)
    refine abs_wp (fun W => W.heap[w.heap.size]? = some (.cells #[.int .u64 (dg (a) 0), .int .u64 (dg (a) 1), .int .u64 (dg (a) 2), .int .u64 (dg (a) 3), .int .u64 (dg (a) 4), .int .u64 (dg (a) 5), .int .u64 (dg (a) 6), .int .u64 (dg (a) 7), .int .u64 (dg (a) 8)] 160 (0, 0)) ∧ W.heap[w.heap.size + 1]? = some (.cells #[.bool false, .int .u64 0, .int .u64 0, .int .u64 0, .int .u64 0] 42 (0, 0)) ∧ W.heap[w.heap.size + 1 + 1]? = some (.cells #[.bool (b), .int .u64 (dg (a) 0), .int .u64 (dg (a) 1), .int .u64 (dg (a) 2), .int .u64 (dg (a) 3)] 42 (0, 0)) ∧ W.heap[m]? = some (.cells #[.int .u64 0, .int .u64 0, .int .u64 0, .int .u64 0, .int .u64 0, .int .u64 0, .int .u64 0, .int .u64 0, .int .u64 0] 160 (0, 0)) ∧ Below w.heap.size w W) ⟨(setRow_other _ _ _ _ (by omega)).trans y0, (setRow_other _ _ _ _ (by omega)).trans y1, (setRow_other _ _ _ _ (by omega)).trans y2, ?_, below_setRow hB1 (by omega) _⟩ fun W ⟨z0, z1, z2, z3, hB⟩ => ?_
    · refine (setRow_heap _ _ _ _ _ _ y3).trans ?_
      rw [HE.out.1, HE.out.2.1, HE.out.2.2.1, HE.out.2.2.2.1, HE.out.2.2.2.2]
      rfl
    clear y0 y1 y2 y3 hB1
    have c3 := cell_at z3
    have c2 := cell_at z2
    have c1 := cell_at z1
    have f1 := frozen_at z1
    go_wp2_with fail
    refine (ratio_must_ok _ _).mono ?_
    rintro e w' ⟨rfl, rfl⟩
    go_wp2
    obtain ⟨l1, l2, l3⟩ := laid_five (w.heap.size + 1) w' (.bool b) (.int .u64 (dg a 0)) (.int .u64 (dg a 1)) (.int .u64 (dg a 2)) (.int .u64 (dg a 3))
    have k1 := cell_at (l1 z1 rfl)
    refine bodyPost_ret (by simp [results, Tryz.results156, go_sem, k1] <;> rfl) rfl ⟨rfl, hB.trans (l3 _ (by omega))⟩
end Go.Proofs.YtbhfnfokihdjjaaGreatDoor

namespace Go.Proofs.YtbhfnfokihdjjaaGreatDoor
open Go.RowKit Go.BigFrame

theorem gcd_pos_right {n d : Nat} (hd : 0 < d) : 0 < Nat.gcd n d := Nat.gcd_pos_of_pos_right n hd
theorem made_room {n d e X : Nat} (hd : 0 < d) (h : d ≤ e) (hX : e + e ≤ X) : Nat.gcd n d + Nat.gcd n d ≤ X := by
  have := Nat.gcd_le_right n hd
  omega
theorem dbl_room {d k e : Nat} (h : d < 2 ^ k) (hk : k + 1 ≤ e) : d + d ≤ 2 ^ e := by
  have h1 : 2 ^ (k + 1) ≤ 2 ^ e := Nat.pow_le_pow_right (by decide) hk
  rw [Nat.pow_succ] at h1
  omega
set_option maxRecDepth 20000 in
set_option maxHeartbeats 2000000 in
theorem made_ok (s : Bool) (n d g N D : Nat) (b : Bool) (hn : n < 2 ^ (64 * 9)) (hd0 : 0 < d) (hd : d < 2 ^ (64 * 9)) (hg : Nat.gcd n d = g) (hg2 : g + g ≤ 2 ^ (64 * 9)) (hN : n / g = N) (hD : d / g = D) (hNl : N < 2 ^ 256) (hDl : D < 2 ^ 256) (hb : (s && decide (N ≠ 0)) = b) (w : World) (hV : Vars w) :
    Calls Tryz.prog 133 #[.agg #[.int .u64 (dg (n) 0), .int .u64 (dg (n) 1), .int .u64 (dg (n) 2), .int .u64 (dg (n) 3), .int .u64 (dg (n) 4), .int .u64 (dg (n) 5), .int .u64 (dg (n) 6), .int .u64 (dg (n) 7), .int .u64 (dg (n) 8), .bool (s)], .agg #[.int .u64 (dg (d) 0), .int .u64 (dg (d) 1), .int .u64 (dg (d) 2), .int .u64 (dg (d) 3), .int .u64 (dg (d) 4), .int .u64 (dg (d) 5), .int .u64 (dg (d) 6), .int .u64 (dg (d) 7), .int .u64 (dg (d) 8)]] w fun e w' => e = .returned (.agg #[.bool (b), .int .u64 (dg (N) 0), .int .u64 (dg (N) 1), .int .u64 (dg (N) 2), .int .u64 (dg (N) 3), .bool (false), .int .u64 (dg (D) 0), .int .u64 (dg (D) 1), .int .u64 (dg (D) 2), .int .u64 (dg (D) 3)]) ∧ Below w.heap.size w w' := by
  have hg0 : 0 < g := by rw [← hg]; exact gcd_pos_right hd0
  have HG : Hd (∀ w, Vars w → Calls Tryz.prog 154 #[.agg #[.int .u64 (dg (n) 0), .int .u64 (dg (n) 1), .int .u64 (dg (n) 2), .int .u64 (dg (n) 3), .int .u64 (dg (n) 4), .int .u64 (dg (n) 5), .int .u64 (dg (n) 6), .int .u64 (dg (n) 7), .int .u64 (dg (n) 8)], .agg #[.int .u64 (dg (d) 0), .int .u64 (dg (d) 1), .int .u64 (dg (d) 2), .int .u64 (dg (d) 3), .int .u64 (dg (d) 4), .int .u64 (dg (d) 5), .int .u64 (dg (d) 6), .int .u64 (dg (d) 7), .int .u64 (dg (d) 8)]] w fun e w' => e = .returned (.agg #[.int .u64 (dg (g) 0), .int .u64 (dg (g) 1), .int .u64 (dg (g) 2), .int .u64 (dg (g) 3), .int .u64 (dg (g) 4), .int .u64 (dg (g) 5), .int .u64 (dg (g) 6), .int .u64 (dg (g) 7), .int .u64 (dg (g) 8)]) ∧ Below w.heap.size w w') := ⟨fun w hv => by rw [← hg]; exact wgcd_any n d hn hd w hv⟩
  have HB : Hd (∀ x y, ((x = n ∧ y = N) ∨ (x = d ∧ y = D)) → ∀ w, Calls Tryz.prog 155 #[.agg #[.int .u64 (dg (x) 0), .int .u64 (dg (x) 1), .int .u64 (dg (x) 2), .int .u64 (dg (x) 3), .int .u64 (dg (x) 4), .int .u64 (dg (x) 5), .int .u64 (dg (x) 6), .int .u64 (dg (x) 7), .int .u64 (dg (x) 8)], .agg #[.int .u64 (dg (g) 0), .int .u64 (dg (g) 1), .int .u64 (dg (g) 2), .int .u64 (dg (g) 3), .int .u64 (dg (g) 4), .int .u64 (dg (g) 5), .int .u64 (dg (g) 6), .int .u64 (dg (g) 7), .int .u64 (dg (g) 8)]] w fun e w' => e = .returned (.agg #[.int .u64 (dg (y) 0), .int .u64 (dg (y) 1), .int .u64 (dg (y) 2), .int .u64 (dg (y) 3), .int .u64 (dg (y) 4), .int .u64 (dg (y) 5), .int .u64 (dg (y) 6), .int .u64 (dg (y) 7), .int .u64 (dg (y) 8)]) ∧ Below w.heap.size w w') := ⟨by
    rintro x y (⟨rfl, rfl⟩ | ⟨rfl, rfl⟩) w
    · rw [← hN]; exact wby_any _ _ hg0 hg2 hn w
    · rw [← hD]; exact wby_any _ _ hg0 hg2 hd w⟩
  have HW : Hd (∀ x t u, ((x = N ∧ t = s ∧ u = b) ∨ (x = D ∧ t = false ∧ u = false)) → ∀ w, Calls Tryz.prog 156 #[.agg #[.int .u64 (dg (x) 0), .int .u64 (dg (x) 1), .int .u64 (dg (x) 2), .int .u64 (dg (x) 3), .int .u64 (dg (x) 4), .int .u64 (dg (x) 5), .int .u64 (dg (x) 6), .int .u64 (dg (x) 7), .int .u64 (dg (x) 8)], .bool t] w fun e w' => e = .returned (.agg #[.bool (u), .int .u64 (dg (x) 0), .int .u64 (dg (x) 1), .int .u64 (dg (x) 2), .int .u64 (dg (x) 3)]) ∧ Below w.heap.size w w') := ⟨by
    rintro x t u (⟨rfl, rfl, rfl⟩ | ⟨rfl, rfl, rfl⟩) w
    · exact wnarrow_ok _ _ _ hb hNl w
    · exact wnarrow_ok _ _ _ rfl hDl w⟩
  have HV := Hd.mk hV
  clear hn hd hd0 hg hg2 hN hD hNl hDl hb hV hg0
  go_enter Tryz.func133, Tryz.ntmps133
  go_wp2_with fail
  refine (HG.out _ (HV.out.below (by focus (repeat (first | (with_reducible exact Below.refl _ _) | (with_reducible assumption) | ((with_reducible refine Below.setCell ?_ ?_ _); rotate_left; (focus (first | omega | (simp; done) | (simp; omega)))) | ((with_reducible refine Below.alloc ?_ ?_ _); rotate_left; (focus (first | omega | (simp; done) | (simp; omega)))) | (with_reducible refine Below.drew ?_) | (refine below_on ?_ (by assumption))))))).mono ?_
  rintro e w1 ⟨rfl, hb⟩
  have z0 := heap_below hb (heap_old (heap_old (heap_new w (.cells #[.int .u64 (dg (n) 0), .int .u64 (dg (n) 1), .int .u64 (dg (n) 2), .int .u64 (dg (n) 3), .int .u64 (dg (n) 4), .int .u64 (dg (n) 5), .int .u64 (dg (n) 6), .int .u64 (dg (n) 7), .int .u64 (dg (n) 8), .bool (s)] 162)) _) _)
  have z1 := heap_below hb (heap_old (heap_at (n := w.heap.size + 1) (by simp) (.cells #[.int .u64 (dg (d) 0), .int .u64 (dg (d) 1), .int .u64 (dg (d) 2), .int .u64 (dg (d) 3), .int .u64 (dg (d) 4), .int .u64 (dg (d) 5), .int .u64 (dg (d) 6), .int .u64 (dg (d) 7), .int .u64 (dg (d) 8)] 160)) _)
  have z2 := heap_below hb (heap_at (n := w.heap.size + 1 + 1) (by simp) (.cells #[.bool false, .int .u64 0, .int .u64 0, .int .u64 0, .int .u64 0, .bool false, .int .u64 0, .int .u64 0, .int .u64 0, .int .u64 0] 44))
  have hB : Below w.heap.size w w1 := below_on (by focus (repeat (first | (with_reducible exact Below.refl _ _) | (with_reducible assumption) | ((with_reducible refine Below.setCell ?_ ?_ _); rotate_left; (focus (first | omega | (simp; done) | (simp; omega)))) | ((with_reducible refine Below.alloc ?_ ?_ _); rotate_left; (focus (first | omega | (simp; done) | (simp; omega)))) | (with_reducible refine Below.drew ?_) | (refine below_on ?_ (by assumption))))) hb
  have hs := hB.size
  clear hb
  go_upto_region 2 with (fail)
  refine abs_wp (fun W => W.heap[w.heap.size]? = some (.cells #[.int .u64 (dg (n) 0), .int .u64 (dg (n) 1), .int .u64 (dg (n) 2), .int .u64 (dg (n) 3), .int .u64 (dg (n) 4), .int .u64 (dg (n) 5), .int .u64 (dg (n) 6), .int .u64 (dg (n) 7), .int .u64 (dg (n) 8), .bool (s)] 162 (0, 0)) ∧ W.heap[w.heap.size + 1]? = some (.cells #[.int .u64 (dg (d) 0), .int .u64 (dg (d) 1), .int .u64 (dg (d) 2), .int .u64 (dg (d) 3), .int .u64 (dg (d) 4), .int .u64 (dg (d) 5), .int .u64 (dg (d) 6), .int .u64 (dg (d) 7), .int .u64 (dg (d) 8)] 160 (0, 0)) ∧ W.heap[w.heap.size + 1 + 1]? = some (.cells #[.bool false, .int .u64 0, .int .u64 0, .int .u64 0, .int .u64 0, .bool false, .int .u64 0, .int .u64 0, .int .u64 0, .int .u64 0] 44 (0, 0)) ∧ W.heap[w1.heap.size]? = some (.cells #[.int .u64 (dg (g) 0), .int .u64 (dg (g) 1), .int .u64 (dg (g) 2), .int .u64 (dg (g) 3), .int .u64 (dg (g) 4), .int .u64 (dg (g) 5), .int .u64 (dg (g) 6), .int .u64 (dg (g) 7), .int .u64 (dg (g) 8)] 160 (0, 0)) ∧ Below w.heap.size w W) ⟨heap_old z0 _, heap_old z1 _, heap_old z2 _, heap_new _ _, by focus (repeat (first | (with_reducible exact Below.refl _ _) | (with_reducible assumption) | ((with_reducible refine Below.setCell ?_ ?_ _); rotate_left; (focus (first | omega | (simp; done) | (simp; omega)))) | ((with_reducible refine Below.alloc ?_ ?_ _); rotate_left; (focus (first | omega | (simp; done) | (simp; omega)))) | (with_reducible refine Below.drew ?_) | (refine below_on ?_ (by assumption))))⟩ fun W ⟨y0, y1, y2, y3, hB1⟩ => ?_
  clear z0 z1 z2 hB hs
  refine region_qt 12 (by kernel_rfl) (by kernel_rfl) fun X _ mk hmk hcl => ?_
  have c0 := mk_cell hmk y0
  have c1 := mk_cell hmk y1
  have c3 := mk_cell hmk y3
  simp only [List.take_succ_cons, List.take_zero, List.drop_succ_cons, List.drop_zero]
  repeat (go_big_quiet_step (first | (go_at_call 155; exact (HB.out _ _ (by first | (with_reducible exact Or.inl ⟨rfl, rfl⟩) | (with_reducible exact Or.inr ⟨rfl, rfl⟩)) _).mono fun e w' h => ⟨h.1, hcl _ _ h.2⟩) | (go_at_call 156; exact (HW.out _ _ _ (by first | (with_reducible exact Or.inl ⟨rfl, rfl, rfl⟩) | (with_reducible exact Or.inr ⟨rfl, rfl, rfl⟩)) _).mono fun e w' h => ⟨h.1, hcl _ _ h.2⟩)))
  refine wpQuiet_nil ?_
  rintro _ ⟨x, rfl⟩
  clear c0 c1 c3
  have hx := hmk x
  clear hcl hmk
  generalize mk x = W1 at hx
  have z2 := heap_below hx y2
  have hB2 := below_on hB1 hx
  have c2 := cell_at z2
  have f2 := frozen_at z2
  clear hx y0 y1 y2 y3 hB1
  go_wp2
  obtain ⟨l1, l2, l3⟩ := laid_10 (w.heap.size + 1 + 1) W1 (.bool b) (.int .u64 (dg N 0)) (.int .u64 (dg N 1)) (.int .u64 (dg N 2)) (.int .u64 (dg N 3)) (.bool false) (.int .u64 (dg D 0)) (.int .u64 (dg D 1)) (.int .u64 (dg D 2)) (.int .u64 (dg D 3))
  have k2 := cell_at (l1 z2 rfl)
  refine bodyPost_ret (by simp [results, Tryz.results133, go_sem, k2] <;> rfl) rfl ⟨rfl, hB2.trans (l3 _ (by omega))⟩
end Go.Proofs.YtbhfnfokihdjjaaGreatDoor
