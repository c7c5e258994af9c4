/-
  The law package of tags: works; the law. Conditions stand in each theorem.
-/
import Derived.Test.YtfgdichdddknlaaDoorGv2
import Derived.Test.YtfgdichdddknlaaDoorGv8
namespace Go.Proofs.YtfgdichdddknlaaDoor
open Go.RowKit Go.BigFrame Go.Shelf

set_option maxRecDepth 100000 in
set_option maxHeartbeats 4000000 in
theorem tags_works (w : World) (hV : VarsT w) : Calls Tryd.prog 4 #[] w fun e w' => e = .returned (.bool true) ∧ Below w.heap.size w w' := by
  have HV := Hd.mk hV
  clear hV
  go_enter Tryd.func4, Tryd.ntmps4
  go_wp2_with fail
  refine (tw_new1 _ _ _ (nums_row (l := [3, 1, 3]) (heap_new _ _))).mono ?_
  rintro e w1 ⟨A1, c1, rfl, hC, hb⟩
  have hB := (Below.alloc (Below.refl w.heap.size w) (Nat.le_refl _) _).trans (hb.mono (by simp))
  go_upto_region 2 with (fail)
  refine abs_wp (fun W => W.heap[w1.heap.size]? = some (.cells #[.slice A1 2 c1] 26 (0, 0)) ∧ CtsIn W A1 [(1, 1), (3, 2)] ∧ Below w.heap.size w W) ⟨heap_new _ _, hC.below ((Below.refl _ _).alloc (Nat.le_refl _) _), hB.alloc hB.size _⟩ fun W1 ⟨z1, hC1, hB1⟩ => ?_
  clear hC hb hB
  go_wp2_with fail
  refine (tw_new2 _ _ _ (nums_row (l := [0]) (heap_new _ _))).mono ?_
  rintro e w2 ⟨A2, c2, rfl, hb⟩
  have hb2 := (Below.alloc (Below.refl W1.heap.size W1) (Nat.le_refl _) _).trans (hb.mono (by simp))
  have x1 := heap_below hb2 z1
  have hx1 := hC1.below hb2
  have hBx := below_on hB1 hb2
  clear hb hb2 z1 hC1 hB1
  go_upto_region 3 with (fail)
  refine abs_wp (fun W => (W.heap[w1.heap.size]? = some (.cells #[.slice A1 2 c1] 26 (0, 0)) ∧ CtsIn W A1 [(1, 1), (3, 2)] ∧ Below w.heap.size w W)) ⟨heap_old x1 _, hx1.below ((Below.refl _ _).alloc (Nat.le_refl _) _), hBx.alloc hBx.size _⟩ fun W2 ⟨z1, hC1, hB1⟩ => ?_
  clear x1 hx1 hBx
  go_wp2_with fail
  refine (tw_new3 _ _ _ (nums_row (l := [1]) (heap_new _ _))).mono ?_
  rintro e w3 ⟨A3, c3, rfl, hC3, hb⟩
  have hb2 := (Below.alloc (Below.refl W2.heap.size W2) (Nat.le_refl _) _).trans (hb.mono (by simp))
  have x1 := heap_below hb2 z1
  have hx1 := hC1.below hb2
  have hBx := below_on hB1 hb2
  clear hb hb2 z1 hC1 hB1
  go_upto_region 4 with (fail)
  refine abs_wp (fun W => (W.heap[w3.heap.size]? = some (.cells #[.slice A3 1 c3] 26 (0, 0)) ∧ CtsIn W A3 [(1, 1)]) ∧ (W.heap[w1.heap.size]? = some (.cells #[.slice A1 2 c1] 26 (0, 0)) ∧ CtsIn W A1 [(1, 1), (3, 2)] ∧ Below w.heap.size w W)) ⟨⟨heap_new _ _, hC3.below ((Below.refl _ _).alloc (Nat.le_refl _) _)⟩, heap_old x1 _, hx1.below ((Below.refl _ _).alloc (Nat.le_refl _) _), hBx.alloc hBx.size _⟩ fun W3 ⟨⟨z3, hC3⟩, z1, hC1, hB1⟩ => ?_
  clear x1 hx1 hBx
  have c5 := cell_at z3
  go_wp2_with fail
  refine (tw_less A3 c3 _ hC3).mono ?_
  rintro e w4 ⟨A4, c4, rfl, hb2⟩
  have x1 := heap_below hb2 z1
  have hx1 := hC1.below hb2
  have hBx := below_on hB1 hb2
  clear hb2 z1 hC1 hB1 c5 z3 hC3
  go_upto_region 5 with (fail)
  refine abs_wp (fun W => (W.heap[w1.heap.size]? = some (.cells #[.slice A1 2 c1] 26 (0, 0)) ∧ CtsIn W A1 [(1, 1), (3, 2)] ∧ Below w.heap.size w W)) ⟨heap_old x1 _, hx1.below ((Below.refl _ _).alloc (Nat.le_refl _) _), hBx.alloc hBx.size _⟩ fun W4 ⟨z1, hC1, hB1⟩ => ?_
  clear x1 hx1 hBx
  go_wp2_with fail
  refine (tw_back _ (HV.out.below hB1)).mono ?_
  rintro e w5 ⟨A5, c5, rfl, hb2⟩
  have x1 := heap_below hb2 z1
  have hx1 := hC1.below hb2
  have hBx := below_on hB1 hb2
  clear hb2 z1 hC1 hB1 HV
  go_upto_region 6 with (fail)
  refine abs_wp (fun W => (W.heap[w1.heap.size]? = some (.cells #[.slice A1 2 c1] 26 (0, 0)) ∧ CtsIn W A1 [(1, 1), (3, 2)] ∧ Below w.heap.size w W)) ⟨heap_old x1 _, hx1.below ((Below.refl _ _).alloc (Nat.le_refl _) _), hBx.alloc hBx.size _⟩ fun W5 ⟨z1, hC1, hB1⟩ => ?_
  clear x1 hx1 hBx
  go_wp2_with fail
  refine (tw_none _).mono ?_
  rintro e w6 ⟨A6, c6, rfl, hb2⟩
  have x1 := heap_below hb2 z1
  have hx1 := hC1.below hb2
  have hBx := below_on hB1 hb2
  clear hb2 z1 hC1 hB1
  go_upto_region 7 with (fail)
  refine abs_wp (fun W => W.heap[w6.heap.size]? = some (.cells #[.slice A6 0 c6] 26 (0, 0)) ∧ (W.heap[w1.heap.size]? = some (.cells #[.slice A1 2 c1] 26 (0, 0)) ∧ CtsIn W A1 [(1, 1), (3, 2)] ∧ Below w.heap.size w W)) ⟨heap_new _ _, heap_old x1 _, hx1.below ((Below.refl _ _).alloc (Nat.le_refl _) _), hBx.alloc hBx.size _⟩ fun W6 ⟨z6, z1, hC1, hB1⟩ => ?_
  clear x1 hx1 hBx
  have k1 := cell_at z1
  go_wp2_with fail
  refine (tw_text A1 c1 _ hC1).mono ?_
  rintro e w7 ⟨rfl, hb⟩
  have x6 := heap_below hb z6
  have x1 := heap_below hb z1
  have hx1 := hC1.below hb
  have hB2 := below_on hB1 hb
  clear hb z6 z1 hC1 hB1 k1
  have k1 := cell_at x1
  go_wp2_with fail
  refine (tg_len A1 2 c1 _).mono ?_
  rintro e w8 ⟨rfl, hb⟩
  have z6 := heap_below hb x6
  have z1 := heap_below hb x1
  have hC1 := hx1.below hb
  have hB1 := below_on hB2 hb
  clear hb x6 x1 hx1 hB2 k1
  have k1 := cell_at z1
  go_wp2_with fail
  refine (tl_many A1 c1 _ hC1).mono ?_
  rintro e w9 ⟨rfl, hb⟩
  have x6 := heap_below hb z6
  have x1 := heap_below hb z1
  have hx1 := hC1.below hb
  have hB2 := below_on hB1 hb
  clear hb z6 z1 hC1 hB1 k1
  have k1 := cell_at x1
  go_wp2_with fail
  refine (tw_odd A1 c1 _ hx1).mono ?_
  rintro e w10 ⟨A7, c7, rfl, hn7, hb⟩
  have z6 := heap_below hb x6
  have hB1 := below_on hB2 hb
  clear hb x6 x1 hx1 hB2 k1
  go_wp2_with fail
  refine (rt_same [1] (by decide) A7 _ c7 1 _ (hn7.below ((Below.refl _ _).alloc (Nat.le_refl _) _)) (nums_row (l := [1]) (heap_new _ _))).mono ?_
  rintro e w11 ⟨rfl, hb⟩
  have hb2 := (Below.alloc (Below.refl w10.heap.size w10) (Nat.le_refl _) _).trans (hb.mono (by simp))
  have x6 := heap_below hb2 z6
  have hB2 := below_on hB1 hb2
  clear hb hb2 z6 hB1 hn7
  have k6 := cell_at x6
  go_wp2_with (go_at_call 16; refine (tl_num _ _).mono ?_; rintro e w12 ⟨rfl, rfl⟩)
  refine (tg_len A6 0 c6 _).mono ?_
  rintro e w12 ⟨rfl, hb⟩
  have hB1 := below_on hB2 hb
  clear hb hB2 k6 x6
  go_wp2
  go_ret
  exact ⟨rfl, hB1⟩
/-- The law, for any numbers. -/
theorem leaveslaw_ok (l : List Int) (A : Option Addr) (cap : Nat) (many : Int) (w : World) (hV : VarsT w) (hN : NumsIn w A l) :
    Calls Tryd.prog 3 #[.slice A l.length cap, .int .i64 many] w fun e w' => e = .returned (.bool true) ∧ Below w.heap.size w w' :=
  leaveslaw_any (fun w h => tags_works w h) l A cap many w hV hN
end Go.Proofs.YtfgdichdddknlaaDoor
