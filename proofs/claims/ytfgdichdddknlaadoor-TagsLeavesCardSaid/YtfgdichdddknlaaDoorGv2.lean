/-
  The law TagsLeaves for any numbers. Conditions stand in each theorem.
-/
import Derived.Test.YtfgdichdddknlaaDoorGv1
namespace Go.Proofs.YtfgdichdddknlaaDoor
open Go.RowKit Go.BigFrame Go.Shelf
attribute [local go_sem] Oper.semAt_some
set_option maxRecDepth 100000 in
set_option maxHeartbeats 4000000 in
theorem leaveslaw_long (HW : ∀ w, VarsT w → Calls Tryd.prog 4 #[] w fun e w' => e = .returned (.bool true) ∧ Below w.heap.size w w') (A : Option Addr) (m : Nat) (hm : 20 < m) (cap : Nat) (many : Int) (w : World) (hV : VarsT w) :
    Calls Tryd.prog 3 #[.slice A m cap, .int .i64 many] w fun e w' => e = .returned (.bool true) ∧ Below w.heap.size w w' := by
  refine (callsIn_wide (n := 6)).1 ?_
  refine callsIn_of_wp_marks Tryd.func3 rfl trivial ?_ rfl
  simp only [Tryd.ntmps3, List.size_toArray, List.length_cons, List.length_nil, Nat.reduceAdd, Nat.reduceSub, Array.replicate_succ, Array.replicate_zero, List.push_toArray, List.append_toArray, List.nil_append, List.cons_append]
  refine (wpIn_wide (n := 6)).2 ?_
  have hd0 : decide ((m : Int) > 20) = true := by simp; omega
  have hd00 : decide (20 < m) = true := by simp; omega
  have HV := Hd.mk (And.intro HW hV)
  clear HW hV
  go_wp2_with fail
  refine (HV.out.1 _ (HV.out.2.below (((Below.refl _ w).alloc (Nat.le_refl _) _).alloc (by simp) _))).mono ?_
  rintro e wz ⟨rfl, hb⟩
  have z1 : wz.heap[w.heap.size + 1]? = some (.cells #[.bool false] 4 (0, 0)) := heap_below hb (heap_at (by simp) _)
  have q1 := cell_at z1
  have f1 := frozen_at z1
  have HB : Hd (Below w.heap.size w wz) := ⟨(((Below.refl _ w).alloc (Nat.le_refl _) _).alloc (by simp) _).trans (hb.mono (by simp; omega))⟩
  have HZ := Hd.mk z1
  clear hb z1
  go_wp2
  have k2 := cell_at ((heap_set HZ.out 0 (.bool true)).trans (by rfl))
  refine ⟨.bool true, ?_, rfl, HB.out.setCell (by simp) _⟩
  simp [results, Tryd.f3, go_sem, k2]
theorem leaveslaw_any (HW : ∀ w, VarsT w → Calls Tryd.prog 4 #[] w fun e w' => e = .returned (.bool true) ∧ Below w.heap.size w w') (l : List Int) (A : Option Addr) (cap : Nat) (many : Int) (w : World) (hV : VarsT w) (hN : NumsIn w A l) :
    Calls Tryd.prog 3 #[.slice A l.length cap, .int .i64 many] w fun e w' => e = .returned (.bool true) ∧ Below w.heap.size w w' := by
  by_cases h : l.length ≤ 20
  · exact leaveslaw_short HW l h A cap many w hV hN
  · exact leaveslaw_long HW A l.length (by omega) cap many w hV
end Go.Proofs.YtfgdichdddknlaaDoor
