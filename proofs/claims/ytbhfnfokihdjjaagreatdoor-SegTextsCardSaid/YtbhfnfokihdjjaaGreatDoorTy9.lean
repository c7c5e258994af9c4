/-
  The law SegTexts: any two segments, any text. Conditions stand in each theorem.
-/
import Derived.Test.YtbhfnfokihdjjaaGreatDoorHl2
import Derived.Test.YtbhfnfokihdjjaaGreatDoorTy8
namespace Go.Proofs.YtbhfnfokihdjjaaGreatDoor
open Go.RowKit Go.BigFrame
set_option maxRecDepth 20000 in
set_option maxHeartbeats 4000000 in
theorem texts_long (ax ay bx by_ cx cy ex ey : Int) (t : ByteArray) (hsz : ¬ t.size ≤ 100) (ht : t.size < 9223372036854775808) (w : World) (hV : Vars w) :
    Calls Tryz.prog 7 #[.agg #[.int .i64 ax, .int .i64 ay, .int .i64 bx, .int .i64 by_], .agg #[.int .i64 cx, .int .i64 cy, .int .i64 ex, .int .i64 ey], .string t] w fun e w' => e = .returned (.bool true) ∧ Below w.heap.size w w' := by
  have HV := Hd.mk hV
  have hd : decide ((t.size : Int) > 100) = true := by simp; omega
  clear hV hsz
  go_enter Tryz.func7, Tryz.ntmps7
  go_upto_region 1 with (fail)
  refine abs_wp (fun W => Below w.heap.size w W) (by focus (repeat (first | (with_reducible exact Below.refl _ _) | (with_reducible assumption) | ((with_reducible refine Below.setCell ?_ ?_ _); rotate_left; (focus (first | omega | (simp; done) | (simp; omega)))) | ((with_reducible refine Below.alloc ?_ ?_ _); rotate_left; (focus (first | omega | (simp; done) | (simp; omega)))) | (with_reducible refine Below.drew ?_) | (refine below_on ?_ (by assumption))))) fun W hB => ?_
  go_wp2_with fail
  refine (law_works _ (HV.out.below hB)).mono ?_
  rintro r wz ⟨rfl, hb⟩
  have hF := below_on hB hb
  go_wp2
  go_ret
  exact ⟨rfl, hF⟩
set_option maxRecDepth 20000 in
set_option maxHeartbeats 8000000 in
theorem texts_tt (ax ay bx by_ cx cy ex ey l0 l1 l2 l3 m0 m1 m2 m3 c0 c1 c2 c3 er : Int) (t : ByteArray) (hsz : t.size ≤ 100) (X : ByteArray) (o : Bool) (ho : (((l0 == m0 && l1 == m1) && (l2 == m2 && l3 == m3))) = o)
    (HTx : Hd (∀ w : World, Vars w → Calls Tryz.prog 30 #[.agg #[.int .i64 ax, .int .i64 ay, .int .i64 bx, .int .i64 by_]] w fun e w' => e = .returned (.tuple #[.string X, .int .i64 0]) ∧ Below w.heap.size w w'))
    (HPa : Hd (∀ w : World, Vars w → Calls Tryz.prog 31 #[.string t] w fun e w' => e = .returned (.tuple #[.agg #[.int .i64 c0, .int .i64 c1, .int .i64 c2, .int .i64 c3], .int .i64 er]) ∧ Below w.heap.size w w')) (HRP : Hd (∀ w : World, Calls Tryz.prog 32 #[.string t] w fun e w' => e = .returned (.tuple #[.agg #[.int .i64 c0, .int .i64 c1, .int .i64 c2, .int .i64 c3], .int .i64 er]) ∧ Below w.heap.size w w'))
    (HRs : Hd (∀ w : World, Calls Tryz.prog 12 #[.agg #[.int .i64 ax, .int .i64 ay, .int .i64 bx, .int .i64 by_]] w fun e w' => e = .returned (.bool true) ∧ Below w.heap.size w w')) (HRt : Hd (∀ w : World, Calls Tryz.prog 12 #[.agg #[.int .i64 cx, .int .i64 cy, .int .i64 ex, .int .i64 ey]] w fun e w' => e = .returned (.bool true) ∧ Below w.heap.size w w'))
    (HLs : Hd (∀ w : World, Calls Tryz.prog 15 #[.agg #[.int .i64 ax, .int .i64 ay, .int .i64 bx, .int .i64 by_]] w fun e w' => e = .returned (.agg #[.int .i64 l0, .int .i64 l1, .int .i64 l2, .int .i64 l3]) ∧ Below w.heap.size w w')) (HLt : Hd (∀ w : World, Calls Tryz.prog 15 #[.agg #[.int .i64 cx, .int .i64 cy, .int .i64 ex, .int .i64 ey]] w fun e w' => e = .returned (.agg #[.int .i64 m0, .int .i64 m1, .int .i64 m2, .int .i64 m3]) ∧ Below w.heap.size w w'))
    (HSs : Hd (∀ w : World, Calls Tryz.prog 33 #[.agg #[.int .i64 ax, .int .i64 ay, .int .i64 bx, .int .i64 by_], .agg #[.int .i64 cx, .int .i64 cy, .int .i64 ex, .int .i64 ey]] w fun e w' => e = .returned (.bool (o)) ∧ Below w.heap.size w w')) (HSt : Hd (∀ w : World, Calls Tryz.prog 33 #[.agg #[.int .i64 cx, .int .i64 cy, .int .i64 ex, .int .i64 ey], .agg #[.int .i64 ax, .int .i64 ay, .int .i64 bx, .int .i64 by_]] w fun e w' => e = .returned (.bool (o)) ∧ Below w.heap.size w w'))
    (HRT : Hd (∀ w : World, Vars w → Calls Tryz.prog 34 #[.agg #[.int .i64 ax, .int .i64 ay, .int .i64 bx, .int .i64 by_]] w fun e w' => e = .returned (.string X) ∧ Below w.heap.size w w')) (w : World) (hV : Vars w) :
    Calls Tryz.prog 7 #[.agg #[.int .i64 ax, .int .i64 ay, .int .i64 bx, .int .i64 by_], .agg #[.int .i64 cx, .int .i64 cy, .int .i64 ex, .int .i64 ey], .string t] w fun e w' => e = .returned (.bool true) ∧ Below w.heap.size w w' := by
  have HV := Hd.mk hV
  have hd : decide ((t.size : Int) > 100) = false := by simp; omega
  clear hV hsz
  have HO := Hd.mk ho
  clear ho
  go_enter Tryz.func7, Tryz.ntmps7
  go_upto_region 1 with (fail)
  refine abs_wp (fun W => W.heap[w.heap.size]? = some (.cells #[.int .i64 ax, .int .i64 ay, .int .i64 bx, .int .i64 by_] 25 (0, 0)) ∧ W.heap[w.heap.size + 1]? = some (.cells #[.int .i64 cx, .int .i64 cy, .int .i64 ex, .int .i64 ey] 25 (0, 0)) ∧ Below w.heap.size w W) ⟨heap_old (heap_new _ _) _, heap_at (by simp) _, by focus (repeat (first | (with_reducible exact Below.refl _ _) | (with_reducible assumption) | ((with_reducible refine Below.setCell ?_ ?_ _); rotate_left; (focus (first | omega | (simp; done) | (simp; omega)))) | ((with_reducible refine Below.alloc ?_ ?_ _); rotate_left; (focus (first | omega | (simp; done) | (simp; omega)))) | (with_reducible refine Below.drew ?_) | (refine below_on ?_ (by assumption))))⟩ fun W ⟨z3_0, z4_0, hB_0⟩ => ?_
  have q3 := cell_at z3_0
  go_wp2_with fail
  refine (HTx.out _ (HV.out.below hB_0)).mono ?_
  rintro r w1 ⟨rfl, hb⟩
  have z3_1 := heap_below hb z3_0
  have z4_1 := heap_below hb z4_0
  have hB_1 := below_on hB_0 hb
  clear hb hB_0 z3_0 z4_0 q3 hd
  go_wp2_with fail
  refine (HPa.out _ (HV.out.below hB_1)).mono ?_
  rintro r w2 ⟨rfl, hb⟩
  have z3_2 := heap_below hb z3_1
  have z4_2 := heap_below hb z4_1
  have hB_2 := below_on hB_1 hb
  clear hb hB_1 z3_1 z4_1
  go_upto_region 5 with (fail)
  have hs2 := hB_2.size
  obtain ⟨b9, hb9⟩ : ∃ b, b = w2.heap.size := ⟨_, rfl⟩
  refine abs_wp (fun W => W.heap[w.heap.size]? = some (.cells #[.int .i64 ax, .int .i64 ay, .int .i64 bx, .int .i64 by_] 25 (0, 0)) ∧ W.heap[w.heap.size + 1]? = some (.cells #[.int .i64 cx, .int .i64 cy, .int .i64 ex, .int .i64 ey] 25 (0, 0)) ∧ W.heap[w2.heap.size]? = some (.cells #[.int .i64 c0, .int .i64 c1, .int .i64 c2, .int .i64 c3] 25 (0, 0)) ∧ Below w.heap.size w W) ⟨heap_old z3_2 _, heap_old z4_2 _, heap_new _ _, by focus (repeat (first | (with_reducible exact Below.refl _ _) | (with_reducible assumption) | ((with_reducible refine Below.setCell ?_ ?_ _); rotate_left; (focus (first | omega | (simp; done) | (simp; omega)))) | ((with_reducible refine Below.alloc ?_ ?_ _); rotate_left; (focus (first | omega | (simp; done) | (simp; omega)))) | (with_reducible refine Below.drew ?_) | (refine below_on ?_ (by assumption))))⟩ fun W3 ⟨z3_3, z4_3, z9_3, hB_3⟩ => ?_
  rw [← hb9] at z9_3 ⊢
  clear z3_2 z4_2 hB_2 hs2 hb9
  go_wp2_with fail
  refine (HRP.out _).mono ?_
  rintro r w4 ⟨rfl, hb⟩
  have z3_4 := heap_below hb z3_3
  have z4_4 := heap_below hb z4_3
  have z9_4 := heap_below hb z9_3
  have hB_4 := below_on hB_3 hb
  clear hb hB_3 z3_3 z4_3 z9_3
  go_upto_region 6 with (fail)
  have hs4 := hB_4.size
  obtain ⟨b11, hb11⟩ : ∃ b, b = w4.heap.size := ⟨_, rfl⟩
  refine abs_wp (fun W => W.heap[w.heap.size]? = some (.cells #[.int .i64 ax, .int .i64 ay, .int .i64 bx, .int .i64 by_] 25 (0, 0)) ∧ W.heap[w.heap.size + 1]? = some (.cells #[.int .i64 cx, .int .i64 cy, .int .i64 ex, .int .i64 ey] 25 (0, 0)) ∧ W.heap[b9]? = some (.cells #[.int .i64 c0, .int .i64 c1, .int .i64 c2, .int .i64 c3] 25 (0, 0)) ∧ W.heap[w4.heap.size]? = some (.cells #[.int .i64 c0, .int .i64 c1, .int .i64 c2, .int .i64 c3] 25 (0, 0)) ∧ Below w.heap.size w W) ⟨heap_old z3_4 _, heap_old z4_4 _, heap_old z9_4 _, heap_new _ _, by focus (repeat (first | (with_reducible exact Below.refl _ _) | (with_reducible assumption) | ((with_reducible refine Below.setCell ?_ ?_ _); rotate_left; (focus (first | omega | (simp; done) | (simp; omega)))) | ((with_reducible refine Below.alloc ?_ ?_ _); rotate_left; (focus (first | omega | (simp; done) | (simp; omega)))) | (with_reducible refine Below.drew ?_) | (refine below_on ?_ (by assumption))))⟩ fun W5 ⟨z3_5, z4_5, z9_5, z11_5, hB_5⟩ => ?_
  rw [← hb11] at z11_5 ⊢
  clear z3_4 z4_4 z9_4 hB_4 hs4 hb11
  have q9 := cell_at z9_5
  have q11 := cell_at z11_5
  go_upto_region 8 with (go_at_call 13; refine (law_num _ _).mono ?_; rintro e w' ⟨rfl, rfl⟩)
  clear q9 q11 z9_5 z11_5
  refine region_qt 10 (by kernel_rfl) (by kernel_rfl) fun X _ mk hmk hcl => ?_
  have q3 := mk_cell hmk z3_5
  have q4 := mk_cell hmk z4_5
  simp only [List.take_succ_cons, List.take_zero, List.drop_succ_cons, List.drop_zero]
  repeat (go_big_quiet_step (first | (go_at_call 12; with_reducible exact (HRs.out _).mono fun e w' h => ⟨h.1, hcl _ _ h.2⟩) | (go_at_call 12; exact (HRt.out _).mono fun e w' h => ⟨h.1, hcl _ _ h.2⟩) | (go_at_call 15; with_reducible exact (HLs.out _).mono fun e w' h => ⟨h.1, hcl _ _ h.2⟩)))
  refine wpQuiet_nil ?_
  rintro _ ⟨x, rfl⟩
  clear q3 q4
  have hb := hmk x
  clear hcl hmk
  generalize mk x = W6 at hb
  have z3_6 := heap_below hb z3_5
  have z4_6 := heap_below hb z4_5
  have hB_6 := below_on hB_5 hb
  clear hb z3_5 z4_5 hB_5
  have q3 := cell_at z3_6
  have q4 := cell_at z4_6
  go_wp2_with fail
  refine (HLt.out _).mono ?_
  rintro r w6b ⟨rfl, hb⟩
  have z3_6 := heap_below hb z3_6
  have z4_6 := heap_below hb z4_6
  have hB_6 := below_on hB_6 hb
  clear hb q3 q4
  have q3 := cell_at z3_6
  have q4 := cell_at z4_6
  by_cases e0 : l0 = m0
  · subst e0
    by_cases e1 : l1 = m1
    · subst e1
      by_cases e2 : l2 = m2
      · subst e2
        by_cases e3 : l3 = m3
        · subst e3
          have ho : true = o := by simpa using HO.out
          subst ho
          clear HO
          go_wp2_with fail
          refine (HSs.out _).mono ?_
          rintro r w7 ⟨rfl, hb⟩
          have z3_7 := heap_below hb z3_6
          have z4_7 := heap_below hb z4_6
          have hB_7 := below_on hB_6 hb
          clear hb hB_6 z3_6 z4_6 q3 q4
          have q3 := cell_at z3_7
          have q4 := cell_at z4_7
          go_wp2_with fail
          refine (HSt.out _).mono ?_
          rintro r w8 ⟨rfl, hb⟩
          have z3_8 := heap_below hb z3_7
          have z4_8 := heap_below hb z4_7
          have hB_8 := below_on hB_7 hb
          clear hb hB_7 z3_7 z4_7 q3 q4
          have q3 := cell_at z3_8
          go_wp2_with fail
          refine (HRs.out _).mono ?_
          rintro r w9 ⟨rfl, hb⟩
          have z3_9 := heap_below hb z3_8
          have hB_9 := below_on hB_8 hb
          clear hb hB_8 z3_8 q3
          have q3 := cell_at z3_9
          go_wp2_with fail
          refine (HRT.out _ (HV.out.below hB_9)).mono ?_
          rintro r w10 ⟨rfl, hb⟩
          have hB_10 := below_on hB_9 hb
          clear hb hB_9 z3_9 q3
          go_wp2_with (go_at_call 13; refine (law_num _ _).mono ?_; rintro e w' ⟨rfl, rfl⟩)
          refine (law_works _ (HV.out.below hB_10)).mono ?_
          rintro r wz ⟨rfl, hb⟩
          have hF := below_on hB_10 hb
          go_wp2
          go_ret
          exact ⟨rfl, hF⟩
        · have f3 : (l3 == m3) = false := by simpa using e3
          have ho : false = o := by
            have := HO.out
            rw [f3] at this
            simpa using this
          subst ho
          clear HO e3
          go_wp2_with fail
          refine (HSs.out _).mono ?_
          rintro r w7 ⟨rfl, hb⟩
          have z3_7 := heap_below hb z3_6
          have z4_7 := heap_below hb z4_6
          have hB_7 := below_on hB_6 hb
          clear hb hB_6 z3_6 z4_6 q3 q4
          have q3 := cell_at z3_7
          have q4 := cell_at z4_7
          go_wp2_with fail
          refine (HSt.out _).mono ?_
          rintro r w8 ⟨rfl, hb⟩
          have z3_8 := heap_below hb z3_7
          have z4_8 := heap_below hb z4_7
          have hB_8 := below_on hB_7 hb
          clear hb hB_7 z3_7 z4_7 q3 q4
          have q3 := cell_at z3_8
          go_wp2_with fail
          refine (HRs.out _).mono ?_
          rintro r w9 ⟨rfl, hb⟩
          have z3_9 := heap_below hb z3_8
          have hB_9 := below_on hB_8 hb
          clear hb hB_8 z3_8 q3
          have q3 := cell_at z3_9
          go_wp2_with fail
          refine (HRT.out _ (HV.out.below hB_9)).mono ?_
          rintro r w10 ⟨rfl, hb⟩
          have hB_10 := below_on hB_9 hb
          clear hb hB_9 z3_9 q3
          go_wp2_with (go_at_call 13; refine (law_num _ _).mono ?_; rintro e w' ⟨rfl, rfl⟩)
          refine (law_works _ (HV.out.below hB_10)).mono ?_
          rintro r wz ⟨rfl, hb⟩
          have hF := below_on hB_10 hb
          go_wp2
          go_ret
          exact ⟨rfl, hF⟩
      · have f2 : (l2 == m2) = false := by simpa using e2
        have ho : false = o := by
          have := HO.out
          rw [f2] at this
          simpa using this
        subst ho
        clear HO e2
        go_wp2_with fail
        refine (HSs.out _).mono ?_
        rintro r w7 ⟨rfl, hb⟩
        have z3_7 := heap_below hb z3_6
        have z4_7 := heap_below hb z4_6
        have hB_7 := below_on hB_6 hb
        clear hb hB_6 z3_6 z4_6 q3 q4
        have q3 := cell_at z3_7
        have q4 := cell_at z4_7
        go_wp2_with fail
        refine (HSt.out _).mono ?_
        rintro r w8 ⟨rfl, hb⟩
        have z3_8 := heap_below hb z3_7
        have z4_8 := heap_below hb z4_7
        have hB_8 := below_on hB_7 hb
        clear hb hB_7 z3_7 z4_7 q3 q4
        have q3 := cell_at z3_8
        go_wp2_with fail
        refine (HRs.out _).mono ?_
        rintro r w9 ⟨rfl, hb⟩
        have z3_9 := heap_below hb z3_8
        have hB_9 := below_on hB_8 hb
        clear hb hB_8 z3_8 q3
        have q3 := cell_at z3_9
        go_wp2_with fail
        refine (HRT.out _ (HV.out.below hB_9)).mono ?_
        rintro r w10 ⟨rfl, hb⟩
        have hB_10 := below_on hB_9 hb
        clear hb hB_9 z3_9 q3
        go_wp2_with (go_at_call 13; refine (law_num _ _).mono ?_; rintro e w' ⟨rfl, rfl⟩)
        refine (law_works _ (HV.out.below hB_10)).mono ?_
        rintro r wz ⟨rfl, hb⟩
        have hF := below_on hB_10 hb
        go_wp2
        go_ret
        exact ⟨rfl, hF⟩
    · have f1 : (l1 == m1) = false := by simpa using e1
      have ho : false = o := by
        have := HO.out
        rw [f1] at this
        simpa using this
      subst ho
      clear HO e1
      go_wp2_with fail
      refine (HSs.out _).mono ?_
      rintro r w7 ⟨rfl, hb⟩
      have z3_7 := heap_below hb z3_6
      have z4_7 := heap_below hb z4_6
      have hB_7 := below_on hB_6 hb
      clear hb hB_6 z3_6 z4_6 q3 q4
      have q3 := cell_at z3_7
      have q4 := cell_at z4_7
      go_wp2_with fail
      refine (HSt.out _).mono ?_
      rintro r w8 ⟨rfl, hb⟩
      have z3_8 := heap_below hb z3_7
      have z4_8 := heap_below hb z4_7
      have hB_8 := below_on hB_7 hb
      clear hb hB_7 z3_7 z4_7 q3 q4
      have q3 := cell_at z3_8
      go_wp2_with fail
      refine (HRs.out _).mono ?_
      rintro r w9 ⟨rfl, hb⟩
      have z3_9 := heap_below hb z3_8
      have hB_9 := below_on hB_8 hb
      clear hb hB_8 z3_8 q3
      have q3 := cell_at z3_9
      go_wp2_with fail
      refine (HRT.out _ (HV.out.below hB_9)).mono ?_
      rintro r w10 ⟨rfl, hb⟩
      have hB_10 := below_on hB_9 hb
      clear hb hB_9 z3_9 q3
      go_wp2_with (go_at_call 13; refine (law_num _ _).mono ?_; rintro e w' ⟨rfl, rfl⟩)
      refine (law_works _ (HV.out.below hB_10)).mono ?_
      rintro r wz ⟨rfl, hb⟩
      have hF := below_on hB_10 hb
      go_wp2
      go_ret
      exact ⟨rfl, hF⟩
  · have f0 : (l0 == m0) = false := by simpa using e0
    have ho : false = o := by
      have := HO.out
      rw [f0] at this
      simpa using this
    subst ho
    clear HO e0
    go_wp2_with fail
    refine (HSs.out _).mono ?_
    rintro r w7 ⟨rfl, hb⟩
    have z3_7 := heap_below hb z3_6
    have z4_7 := heap_below hb z4_6
    have hB_7 := below_on hB_6 hb
    clear hb hB_6 z3_6 z4_6 q3 q4
    have q3 := cell_at z3_7
    have q4 := cell_at z4_7
    go_wp2_with fail
    refine (HSt.out _).mono ?_
    rintro r w8 ⟨rfl, hb⟩
    have z3_8 := heap_below hb z3_7
    have z4_8 := heap_below hb z4_7
    have hB_8 := below_on hB_7 hb
    clear hb hB_7 z3_7 z4_7 q3 q4
    have q3 := cell_at z3_8
    go_wp2_with fail
    refine (HRs.out _).mono ?_
    rintro r w9 ⟨rfl, hb⟩
    have z3_9 := heap_below hb z3_8
    have hB_9 := below_on hB_8 hb
    clear hb hB_8 z3_8 q3
    have q3 := cell_at z3_9
    go_wp2_with fail
    refine (HRT.out _ (HV.out.below hB_9)).mono ?_
    rintro r w10 ⟨rfl, hb⟩
    have hB_10 := below_on hB_9 hb
    clear hb hB_9 z3_9 q3
    go_wp2_with (go_at_call 13; refine (law_num _ _).mono ?_; rintro e w' ⟨rfl, rfl⟩)
    refine (law_works _ (HV.out.below hB_10)).mono ?_
    rintro r wz ⟨rfl, hb⟩
    have hF := below_on hB_10 hb
    go_wp2
    go_ret
    exact ⟨rfl, hF⟩
set_option maxRecDepth 20000 in
set_option maxHeartbeats 8000000 in
theorem texts_tf (ax ay bx by_ cx cy ex ey l0 l1 l2 l3 m0 m1 m2 m3 c0 c1 c2 c3 er : Int) (t : ByteArray) (hsz : t.size ≤ 100) (X : ByteArray)
    (HTx : Hd (∀ w : World, Vars w → Calls Tryz.prog 30 #[.agg #[.int .i64 ax, .int .i64 ay, .int .i64 bx, .int .i64 by_]] w fun e w' => e = .returned (.tuple #[.string X, .int .i64 0]) ∧ Below w.heap.size w w'))
    (HPa : Hd (∀ w : World, Vars w → Calls Tryz.prog 31 #[.string t] w fun e w' => e = .returned (.tuple #[.agg #[.int .i64 c0, .int .i64 c1, .int .i64 c2, .int .i64 c3], .int .i64 er]) ∧ Below w.heap.size w w')) (HRP : Hd (∀ w : World, Calls Tryz.prog 32 #[.string t] w fun e w' => e = .returned (.tuple #[.agg #[.int .i64 c0, .int .i64 c1, .int .i64 c2, .int .i64 c3], .int .i64 er]) ∧ Below w.heap.size w w'))
    (HRs : Hd (∀ w : World, Calls Tryz.prog 12 #[.agg #[.int .i64 ax, .int .i64 ay, .int .i64 bx, .int .i64 by_]] w fun e w' => e = .returned (.bool true) ∧ Below w.heap.size w w')) (HRt : Hd (∀ w : World, Calls Tryz.prog 12 #[.agg #[.int .i64 cx, .int .i64 cy, .int .i64 ex, .int .i64 ey]] w fun e w' => e = .returned (.bool false) ∧ Below w.heap.size w w'))
    (_HLs : Hd (∀ w : World, Calls Tryz.prog 15 #[.agg #[.int .i64 ax, .int .i64 ay, .int .i64 bx, .int .i64 by_]] w fun e w' => e = .returned (.agg #[.int .i64 l0, .int .i64 l1, .int .i64 l2, .int .i64 l3]) ∧ Below w.heap.size w w')) (_HLt : Hd (∀ w : World, Calls Tryz.prog 15 #[.agg #[.int .i64 cx, .int .i64 cy, .int .i64 ex, .int .i64 ey]] w fun e w' => e = .returned (.agg #[.int .i64 m0, .int .i64 m1, .int .i64 m2, .int .i64 m3]) ∧ Below w.heap.size w w'))
    (HSs : Hd (∀ w : World, Calls Tryz.prog 33 #[.agg #[.int .i64 ax, .int .i64 ay, .int .i64 bx, .int .i64 by_], .agg #[.int .i64 cx, .int .i64 cy, .int .i64 ex, .int .i64 ey]] w fun e w' => e = .returned (.bool (false)) ∧ Below w.heap.size w w')) (HSt : Hd (∀ w : World, Calls Tryz.prog 33 #[.agg #[.int .i64 cx, .int .i64 cy, .int .i64 ex, .int .i64 ey], .agg #[.int .i64 ax, .int .i64 ay, .int .i64 bx, .int .i64 by_]] w fun e w' => e = .returned (.bool (false)) ∧ Below w.heap.size w w'))
    (HRT : Hd (∀ w : World, Vars w → Calls Tryz.prog 34 #[.agg #[.int .i64 ax, .int .i64 ay, .int .i64 bx, .int .i64 by_]] w fun e w' => e = .returned (.string X) ∧ Below w.heap.size w w')) (w : World) (hV : Vars w) :
    Calls Tryz.prog 7 #[.agg #[.int .i64 ax, .int .i64 ay, .int .i64 bx, .int .i64 by_], .agg #[.int .i64 cx, .int .i64 cy, .int .i64 ex, .int .i64 ey], .string t] w fun e w' => e = .returned (.bool true) ∧ Below w.heap.size w w' := by
  have HV := Hd.mk hV
  have hd : decide ((t.size : Int) > 100) = false := by simp; omega
  clear hV hsz
  go_enter Tryz.func7, Tryz.ntmps7
  go_upto_region 1 with (fail)
  refine abs_wp (fun W => W.heap[w.heap.size]? = some (.cells #[.int .i64 ax, .int .i64 ay, .int .i64 bx, .int .i64 by_] 25 (0, 0)) ∧ W.heap[w.heap.size + 1]? = some (.cells #[.int .i64 cx, .int .i64 cy, .int .i64 ex, .int .i64 ey] 25 (0, 0)) ∧ Below w.heap.size w W) ⟨heap_old (heap_new _ _) _, heap_at (by simp) _, by focus (repeat (first | (with_reducible exact Below.refl _ _) | (with_reducible assumption) | ((with_reducible refine Below.setCell ?_ ?_ _); rotate_left; (focus (first | omega | (simp; done) | (simp; omega)))) | ((with_reducible refine Below.alloc ?_ ?_ _); rotate_left; (focus (first | omega | (simp; done) | (simp; omega)))) | (with_reducible refine Below.drew ?_) | (refine below_on ?_ (by assumption))))⟩ fun W ⟨z3_0, z4_0, hB_0⟩ => ?_
  have q3 := cell_at z3_0
  go_wp2_with fail
  refine (HTx.out _ (HV.out.below hB_0)).mono ?_
  rintro r w1 ⟨rfl, hb⟩
  have z3_1 := heap_below hb z3_0
  have z4_1 := heap_below hb z4_0
  have hB_1 := below_on hB_0 hb
  clear hb hB_0 z3_0 z4_0 q3 hd
  go_wp2_with fail
  refine (HPa.out _ (HV.out.below hB_1)).mono ?_
  rintro r w2 ⟨rfl, hb⟩
  have z3_2 := heap_below hb z3_1
  have z4_2 := heap_below hb z4_1
  have hB_2 := below_on hB_1 hb
  clear hb hB_1 z3_1 z4_1
  go_upto_region 5 with (fail)
  have hs2 := hB_2.size
  obtain ⟨b9, hb9⟩ : ∃ b, b = w2.heap.size := ⟨_, rfl⟩
  refine abs_wp (fun W => W.heap[w.heap.size]? = some (.cells #[.int .i64 ax, .int .i64 ay, .int .i64 bx, .int .i64 by_] 25 (0, 0)) ∧ W.heap[w.heap.size + 1]? = some (.cells #[.int .i64 cx, .int .i64 cy, .int .i64 ex, .int .i64 ey] 25 (0, 0)) ∧ W.heap[w2.heap.size]? = some (.cells #[.int .i64 c0, .int .i64 c1, .int .i64 c2, .int .i64 c3] 25 (0, 0)) ∧ Below w.heap.size w W) ⟨heap_old z3_2 _, heap_old z4_2 _, heap_new _ _, by focus (repeat (first | (with_reducible exact Below.refl _ _) | (with_reducible assumption) | ((with_reducible refine Below.setCell ?_ ?_ _); rotate_left; (focus (first | omega | (simp; done) | (simp; omega)))) | ((with_reducible refine Below.alloc ?_ ?_ _); rotate_left; (focus (first | omega | (simp; done) | (simp; omega)))) | (with_reducible refine Below.drew ?_) | (refine below_on ?_ (by assumption))))⟩ fun W3 ⟨z3_3, z4_3, z9_3, hB_3⟩ => ?_
  rw [← hb9] at z9_3 ⊢
  clear z3_2 z4_2 hB_2 hs2 hb9
  go_wp2_with fail
  refine (HRP.out _).mono ?_
  rintro r w4 ⟨rfl, hb⟩
  have z3_4 := heap_below hb z3_3
  have z4_4 := heap_below hb z4_3
  have z9_4 := heap_below hb z9_3
  have hB_4 := below_on hB_3 hb
  clear hb hB_3 z3_3 z4_3 z9_3
  go_upto_region 6 with (fail)
  have hs4 := hB_4.size
  obtain ⟨b11, hb11⟩ : ∃ b, b = w4.heap.size := ⟨_, rfl⟩
  refine abs_wp (fun W => W.heap[w.heap.size]? = some (.cells #[.int .i64 ax, .int .i64 ay, .int .i64 bx, .int .i64 by_] 25 (0, 0)) ∧ W.heap[w.heap.size + 1]? = some (.cells #[.int .i64 cx, .int .i64 cy, .int .i64 ex, .int .i64 ey] 25 (0, 0)) ∧ W.heap[b9]? = some (.cells #[.int .i64 c0, .int .i64 c1, .int .i64 c2, .int .i64 c3] 25 (0, 0)) ∧ W.heap[w4.heap.size]? = some (.cells #[.int .i64 c0, .int .i64 c1, .int .i64 c2, .int .i64 c3] 25 (0, 0)) ∧ Below w.heap.size w W) ⟨heap_old z3_4 _, heap_old z4_4 _, heap_old z9_4 _, heap_new _ _, by focus (repeat (first | (with_reducible exact Below.refl _ _) | (with_reducible assumption) | ((with_reducible refine Below.setCell ?_ ?_ _); rotate_left; (focus (first | omega | (simp; done) | (simp; omega)))) | ((with_reducible refine Below.alloc ?_ ?_ _); rotate_left; (focus (first | omega | (simp; done) | (simp; omega)))) | (with_reducible refine Below.drew ?_) | (refine below_on ?_ (by assumption))))⟩ fun W5 ⟨z3_5, z4_5, z9_5, z11_5, hB_5⟩ => ?_
  rw [← hb11] at z11_5 ⊢
  clear z3_4 z4_4 z9_4 hB_4 hs4 hb11
  have q9 := cell_at z9_5
  have q11 := cell_at z11_5
  go_upto_region 8 with (go_at_call 13; refine (law_num _ _).mono ?_; rintro e w' ⟨rfl, rfl⟩)
  clear q9 q11 z9_5 z11_5
  refine region_qt 13 (by kernel_rfl) (by kernel_rfl) fun X _ mk hmk hcl => ?_
  have q3 := mk_cell hmk z3_5
  have q4 := mk_cell hmk z4_5
  simp only [List.take_succ_cons, List.take_zero, List.drop_succ_cons, List.drop_zero]
  repeat (go_big_quiet_step (first | (go_at_call 12; with_reducible exact (HRs.out _).mono fun e w' h => ⟨h.1, hcl _ _ h.2⟩) | (go_at_call 12; exact (HRt.out _).mono fun e w' h => ⟨h.1, hcl _ _ h.2⟩)))
  refine wpQuiet_nil ?_
  rintro _ ⟨x, rfl⟩
  clear q3 q4
  have hb := hmk x
  clear hcl hmk
  generalize mk x = W6 at hb
  have z3_6 := heap_below hb z3_5
  have z4_6 := heap_below hb z4_5
  have hB_6 := below_on hB_5 hb
  clear hb z3_5 z4_5 hB_5
  have q3 := cell_at z3_6
  have q4 := cell_at z4_6
  go_wp2_with fail
  refine (HSs.out _).mono ?_
  rintro r w7 ⟨rfl, hb⟩
  have z3_7 := heap_below hb z3_6
  have z4_7 := heap_below hb z4_6
  have hB_7 := below_on hB_6 hb
  clear hb hB_6 z3_6 z4_6 q3 q4
  have q3 := cell_at z3_7
  have q4 := cell_at z4_7
  go_wp2_with fail
  refine (HSt.out _).mono ?_
  rintro r w8 ⟨rfl, hb⟩
  have z3_8 := heap_below hb z3_7
  have z4_8 := heap_below hb z4_7
  have hB_8 := below_on hB_7 hb
  clear hb hB_7 z3_7 z4_7 q3 q4
  have q3 := cell_at z3_8
  go_wp2_with fail
  refine (HRs.out _).mono ?_
  rintro r w9 ⟨rfl, hb⟩
  have z3_9 := heap_below hb z3_8
  have hB_9 := below_on hB_8 hb
  clear hb hB_8 z3_8 q3
  have q3 := cell_at z3_9
  go_wp2_with fail
  refine (HRT.out _ (HV.out.below hB_9)).mono ?_
  rintro r w10 ⟨rfl, hb⟩
  have hB_10 := below_on hB_9 hb
  clear hb hB_9 z3_9 q3
  go_wp2_with (go_at_call 13; refine (law_num _ _).mono ?_; rintro e w' ⟨rfl, rfl⟩)
  refine (law_works _ (HV.out.below hB_10)).mono ?_
  rintro r wz ⟨rfl, hb⟩
  have hF := below_on hB_10 hb
  go_wp2
  go_ret
  exact ⟨rfl, hF⟩
set_option maxRecDepth 20000 in
set_option maxHeartbeats 8000000 in
theorem texts_ft (ax ay bx by_ cx cy ex ey l0 l1 l2 l3 m0 m1 m2 m3 c0 c1 c2 c3 er : Int) (t : ByteArray) (hsz : t.size ≤ 100) 
    (HTx : Hd (∀ w : World, Vars w → Calls Tryz.prog 30 #[.agg #[.int .i64 ax, .int .i64 ay, .int .i64 bx, .int .i64 by_]] w fun e w' => e = .returned (.tuple #[.string ⟨#[]⟩, .int .i64 2]) ∧ Below w.heap.size w w'))
    (HPa : Hd (∀ w : World, Vars w → Calls Tryz.prog 31 #[.string t] w fun e w' => e = .returned (.tuple #[.agg #[.int .i64 c0, .int .i64 c1, .int .i64 c2, .int .i64 c3], .int .i64 er]) ∧ Below w.heap.size w w')) (HRP : Hd (∀ w : World, Calls Tryz.prog 32 #[.string t] w fun e w' => e = .returned (.tuple #[.agg #[.int .i64 c0, .int .i64 c1, .int .i64 c2, .int .i64 c3], .int .i64 er]) ∧ Below w.heap.size w w'))
    (HRs : Hd (∀ w : World, Calls Tryz.prog 12 #[.agg #[.int .i64 ax, .int .i64 ay, .int .i64 bx, .int .i64 by_]] w fun e w' => e = .returned (.bool false) ∧ Below w.heap.size w w')) (_HRt : Hd (∀ w : World, Calls Tryz.prog 12 #[.agg #[.int .i64 cx, .int .i64 cy, .int .i64 ex, .int .i64 ey]] w fun e w' => e = .returned (.bool true) ∧ Below w.heap.size w w'))
    (_HLs : Hd (∀ w : World, Calls Tryz.prog 15 #[.agg #[.int .i64 ax, .int .i64 ay, .int .i64 bx, .int .i64 by_]] w fun e w' => e = .returned (.agg #[.int .i64 l0, .int .i64 l1, .int .i64 l2, .int .i64 l3]) ∧ Below w.heap.size w w')) (_HLt : Hd (∀ w : World, Calls Tryz.prog 15 #[.agg #[.int .i64 cx, .int .i64 cy, .int .i64 ex, .int .i64 ey]] w fun e w' => e = .returned (.agg #[.int .i64 m0, .int .i64 m1, .int .i64 m2, .int .i64 m3]) ∧ Below w.heap.size w w'))
    (HSs : Hd (∀ w : World, Calls Tryz.prog 33 #[.agg #[.int .i64 ax, .int .i64 ay, .int .i64 bx, .int .i64 by_], .agg #[.int .i64 cx, .int .i64 cy, .int .i64 ex, .int .i64 ey]] w fun e w' => e = .returned (.bool (false)) ∧ Below w.heap.size w w')) (HSt : Hd (∀ w : World, Calls Tryz.prog 33 #[.agg #[.int .i64 cx, .int .i64 cy, .int .i64 ex, .int .i64 ey], .agg #[.int .i64 ax, .int .i64 ay, .int .i64 bx, .int .i64 by_]] w fun e w' => e = .returned (.bool (false)) ∧ Below w.heap.size w w')) (w : World) (hV : Vars w) :
    Calls Tryz.prog 7 #[.agg #[.int .i64 ax, .int .i64 ay, .int .i64 bx, .int .i64 by_], .agg #[.int .i64 cx, .int .i64 cy, .int .i64 ex, .int .i64 ey], .string t] w fun e w' => e = .returned (.bool true) ∧ Below w.heap.size w w' := by
  have HV := Hd.mk hV
  have hd : decide ((t.size : Int) > 100) = false := by simp; omega
  clear hV hsz
  go_enter Tryz.func7, Tryz.ntmps7
  go_upto_region 1 with (fail)
  refine abs_wp (fun W => W.heap[w.heap.size]? = some (.cells #[.int .i64 ax, .int .i64 ay, .int .i64 bx, .int .i64 by_] 25 (0, 0)) ∧ W.heap[w.heap.size + 1]? = some (.cells #[.int .i64 cx, .int .i64 cy, .int .i64 ex, .int .i64 ey] 25 (0, 0)) ∧ Below w.heap.size w W) ⟨heap_old (heap_new _ _) _, heap_at (by simp) _, by focus (repeat (first | (with_reducible exact Below.refl _ _) | (with_reducible assumption) | ((with_reducible refine Below.setCell ?_ ?_ _); rotate_left; (focus (first | omega | (simp; done) | (simp; omega)))) | ((with_reducible refine Below.alloc ?_ ?_ _); rotate_left; (focus (first | omega | (simp; done) | (simp; omega)))) | (with_reducible refine Below.drew ?_) | (refine below_on ?_ (by assumption))))⟩ fun W ⟨z3_0, z4_0, hB_0⟩ => ?_
  have q3 := cell_at z3_0
  go_wp2_with fail
  refine (HTx.out _ (HV.out.below hB_0)).mono ?_
  rintro r w1 ⟨rfl, hb⟩
  have z3_1 := heap_below hb z3_0
  have z4_1 := heap_below hb z4_0
  have hB_1 := below_on hB_0 hb
  clear hb hB_0 z3_0 z4_0 q3 hd
  go_wp2_with fail
  refine (HPa.out _ (HV.out.below hB_1)).mono ?_
  rintro r w2 ⟨rfl, hb⟩
  have z3_2 := heap_below hb z3_1
  have z4_2 := heap_below hb z4_1
  have hB_2 := below_on hB_1 hb
  clear hb hB_1 z3_1 z4_1
  go_upto_region 5 with (fail)
  have hs2 := hB_2.size
  obtain ⟨b9, hb9⟩ : ∃ b, b = w2.heap.size := ⟨_, rfl⟩
  refine abs_wp (fun W => W.heap[w.heap.size]? = some (.cells #[.int .i64 ax, .int .i64 ay, .int .i64 bx, .int .i64 by_] 25 (0, 0)) ∧ W.heap[w.heap.size + 1]? = some (.cells #[.int .i64 cx, .int .i64 cy, .int .i64 ex, .int .i64 ey] 25 (0, 0)) ∧ W.heap[w2.heap.size]? = some (.cells #[.int .i64 c0, .int .i64 c1, .int .i64 c2, .int .i64 c3] 25 (0, 0)) ∧ Below w.heap.size w W) ⟨heap_old z3_2 _, heap_old z4_2 _, heap_new _ _, by focus (repeat (first | (with_reducible exact Below.refl _ _) | (with_reducible assumption) | ((with_reducible refine Below.setCell ?_ ?_ _); rotate_left; (focus (first | omega | (simp; done) | (simp; omega)))) | ((with_reducible refine Below.alloc ?_ ?_ _); rotate_left; (focus (first | omega | (simp; done) | (simp; omega)))) | (with_reducible refine Below.drew ?_) | (refine below_on ?_ (by assumption))))⟩ fun W3 ⟨z3_3, z4_3, z9_3, hB_3⟩ => ?_
  rw [← hb9] at z9_3 ⊢
  clear z3_2 z4_2 hB_2 hs2 hb9
  go_wp2_with fail
  refine (HRP.out _).mono ?_
  rintro r w4 ⟨rfl, hb⟩
  have z3_4 := heap_below hb z3_3
  have z4_4 := heap_below hb z4_3
  have z9_4 := heap_below hb z9_3
  have hB_4 := below_on hB_3 hb
  clear hb hB_3 z3_3 z4_3 z9_3
  go_upto_region 6 with (fail)
  have hs4 := hB_4.size
  obtain ⟨b11, hb11⟩ : ∃ b, b = w4.heap.size := ⟨_, rfl⟩
  refine abs_wp (fun W => W.heap[w.heap.size]? = some (.cells #[.int .i64 ax, .int .i64 ay, .int .i64 bx, .int .i64 by_] 25 (0, 0)) ∧ W.heap[w.heap.size + 1]? = some (.cells #[.int .i64 cx, .int .i64 cy, .int .i64 ex, .int .i64 ey] 25 (0, 0)) ∧ W.heap[b9]? = some (.cells #[.int .i64 c0, .int .i64 c1, .int .i64 c2, .int .i64 c3] 25 (0, 0)) ∧ W.heap[w4.heap.size]? = some (.cells #[.int .i64 c0, .int .i64 c1, .int .i64 c2, .int .i64 c3] 25 (0, 0)) ∧ Below w.heap.size w W) ⟨heap_old z3_4 _, heap_old z4_4 _, heap_old z9_4 _, heap_new _ _, by focus (repeat (first | (with_reducible exact Below.refl _ _) | (with_reducible assumption) | ((with_reducible refine Below.setCell ?_ ?_ _); rotate_left; (focus (first | omega | (simp; done) | (simp; omega)))) | ((with_reducible refine Below.alloc ?_ ?_ _); rotate_left; (focus (first | omega | (simp; done) | (simp; omega)))) | (with_reducible refine Below.drew ?_) | (refine below_on ?_ (by assumption))))⟩ fun W5 ⟨z3_5, z4_5, z9_5, z11_5, hB_5⟩ => ?_
  rw [← hb11] at z11_5 ⊢
  clear z3_4 z4_4 z9_4 hB_4 hs4 hb11
  have q9 := cell_at z9_5
  have q11 := cell_at z11_5
  go_upto_region 8 with (go_at_call 13; refine (law_num _ _).mono ?_; rintro e w' ⟨rfl, rfl⟩)
  clear q9 q11 z9_5 z11_5
  refine region_qt 13 (by kernel_rfl) (by kernel_rfl) fun X _ mk hmk hcl => ?_
  have q3 := mk_cell hmk z3_5
  have q4 := mk_cell hmk z4_5
  simp only [List.take_succ_cons, List.take_zero, List.drop_succ_cons, List.drop_zero]
  repeat (go_big_quiet_step (first | (go_at_call 12; with_reducible exact (HRs.out _).mono fun e w' h => ⟨h.1, hcl _ _ h.2⟩)))
  refine wpQuiet_nil ?_
  rintro _ ⟨x, rfl⟩
  clear q3 q4
  have hb := hmk x
  clear hcl hmk
  generalize mk x = W6 at hb
  have z3_6 := heap_below hb z3_5
  have z4_6 := heap_below hb z4_5
  have hB_6 := below_on hB_5 hb
  clear hb z3_5 z4_5 hB_5
  have q3 := cell_at z3_6
  have q4 := cell_at z4_6
  go_wp2_with fail
  refine (HSs.out _).mono ?_
  rintro r w7 ⟨rfl, hb⟩
  have z3_7 := heap_below hb z3_6
  have z4_7 := heap_below hb z4_6
  have hB_7 := below_on hB_6 hb
  clear hb hB_6 z3_6 z4_6 q3 q4
  have q3 := cell_at z3_7
  have q4 := cell_at z4_7
  go_wp2_with fail
  refine (HSt.out _).mono ?_
  rintro r w8 ⟨rfl, hb⟩
  have z3_8 := heap_below hb z3_7
  have z4_8 := heap_below hb z4_7
  have hB_8 := below_on hB_7 hb
  clear hb hB_7 z3_7 z4_7 q3 q4
  have q3 := cell_at z3_8
  go_wp2_with fail
  refine (HRs.out _).mono ?_
  rintro r w9 ⟨rfl, hb⟩
  have z3_9 := heap_below hb z3_8
  have hB_9 := below_on hB_8 hb
  clear hb hB_8 z3_8 q3
  clear z3_9
  go_wp2_with (go_at_call 13; refine (law_num _ _).mono ?_; rintro e w' ⟨rfl, rfl⟩)
  refine (law_works _ (HV.out.below hB_9)).mono ?_
  rintro r wz ⟨rfl, hb⟩
  have hF := below_on hB_9 hb
  go_wp2
  go_ret
  exact ⟨rfl, hF⟩
set_option maxRecDepth 20000 in
set_option maxHeartbeats 8000000 in
theorem texts_ff (ax ay bx by_ cx cy ex ey l0 l1 l2 l3 m0 m1 m2 m3 c0 c1 c2 c3 er : Int) (t : ByteArray) (hsz : t.size ≤ 100) 
    (HTx : Hd (∀ w : World, Vars w → Calls Tryz.prog 30 #[.agg #[.int .i64 ax, .int .i64 ay, .int .i64 bx, .int .i64 by_]] w fun e w' => e = .returned (.tuple #[.string ⟨#[]⟩, .int .i64 2]) ∧ Below w.heap.size w w'))
    (HPa : Hd (∀ w : World, Vars w → Calls Tryz.prog 31 #[.string t] w fun e w' => e = .returned (.tuple #[.agg #[.int .i64 c0, .int .i64 c1, .int .i64 c2, .int .i64 c3], .int .i64 er]) ∧ Below w.heap.size w w')) (HRP : Hd (∀ w : World, Calls Tryz.prog 32 #[.string t] w fun e w' => e = .returned (.tuple #[.agg #[.int .i64 c0, .int .i64 c1, .int .i64 c2, .int .i64 c3], .int .i64 er]) ∧ Below w.heap.size w w'))
    (HRs : Hd (∀ w : World, Calls Tryz.prog 12 #[.agg #[.int .i64 ax, .int .i64 ay, .int .i64 bx, .int .i64 by_]] w fun e w' => e = .returned (.bool false) ∧ Below w.heap.size w w')) (_HRt : Hd (∀ w : World, Calls Tryz.prog 12 #[.agg #[.int .i64 cx, .int .i64 cy, .int .i64 ex, .int .i64 ey]] w fun e w' => e = .returned (.bool false) ∧ Below w.heap.size w w'))
    (_HLs : Hd (∀ w : World, Calls Tryz.prog 15 #[.agg #[.int .i64 ax, .int .i64 ay, .int .i64 bx, .int .i64 by_]] w fun e w' => e = .returned (.agg #[.int .i64 l0, .int .i64 l1, .int .i64 l2, .int .i64 l3]) ∧ Below w.heap.size w w')) (_HLt : Hd (∀ w : World, Calls Tryz.prog 15 #[.agg #[.int .i64 cx, .int .i64 cy, .int .i64 ex, .int .i64 ey]] w fun e w' => e = .returned (.agg #[.int .i64 m0, .int .i64 m1, .int .i64 m2, .int .i64 m3]) ∧ Below w.heap.size w w'))
    (HSs : Hd (∀ w : World, Calls Tryz.prog 33 #[.agg #[.int .i64 ax, .int .i64 ay, .int .i64 bx, .int .i64 by_], .agg #[.int .i64 cx, .int .i64 cy, .int .i64 ex, .int .i64 ey]] w fun e w' => e = .returned (.bool (false)) ∧ Below w.heap.size w w')) (HSt : Hd (∀ w : World, Calls Tryz.prog 33 #[.agg #[.int .i64 cx, .int .i64 cy, .int .i64 ex, .int .i64 ey], .agg #[.int .i64 ax, .int .i64 ay, .int .i64 bx, .int .i64 by_]] w fun e w' => e = .returned (.bool (false)) ∧ Below w.heap.size w w')) (w : World) (hV : Vars w) :
    Calls Tryz.prog 7 #[.agg #[.int .i64 ax, .int .i64 ay, .int .i64 bx, .int .i64 by_], .agg #[.int .i64 cx, .int .i64 cy, .int .i64 ex, .int .i64 ey], .string t] w fun e w' => e = .returned (.bool true) ∧ Below w.heap.size w w' := by
  have HV := Hd.mk hV
  have hd : decide ((t.size : Int) > 100) = false := by simp; omega
  clear hV hsz
  go_enter Tryz.func7, Tryz.ntmps7
  go_upto_region 1 with (fail)
  refine abs_wp (fun W => W.heap[w.heap.size]? = some (.cells #[.int .i64 ax, .int .i64 ay, .int .i64 bx, .int .i64 by_] 25 (0, 0)) ∧ W.heap[w.heap.size + 1]? = some (.cells #[.int .i64 cx, .int .i64 cy, .int .i64 ex, .int .i64 ey] 25 (0, 0)) ∧ Below w.heap.size w W) ⟨heap_old (heap_new _ _) _, heap_at (by simp) _, by focus (repeat (first | (with_reducible exact Below.refl _ _) | (with_reducible assumption) | ((with_reducible refine Below.setCell ?_ ?_ _); rotate_left; (focus (first | omega | (simp; done) | (simp; omega)))) | ((with_reducible refine Below.alloc ?_ ?_ _); rotate_left; (focus (first | omega | (simp; done) | (simp; omega)))) | (with_reducible refine Below.drew ?_) | (refine below_on ?_ (by assumption))))⟩ fun W ⟨z3_0, z4_0, hB_0⟩ => ?_
  have q3 := cell_at z3_0
  go_wp2_with fail
  refine (HTx.out _ (HV.out.below hB_0)).mono ?_
  rintro r w1 ⟨rfl, hb⟩
  have z3_1 := heap_below hb z3_0
  have z4_1 := heap_below hb z4_0
  have hB_1 := below_on hB_0 hb
  clear hb hB_0 z3_0 z4_0 q3 hd
  go_wp2_with fail
  refine (HPa.out _ (HV.out.below hB_1)).mono ?_
  rintro r w2 ⟨rfl, hb⟩
  have z3_2 := heap_below hb z3_1
  have z4_2 := heap_below hb z4_1
  have hB_2 := below_on hB_1 hb
  clear hb hB_1 z3_1 z4_1
  go_upto_region 5 with (fail)
  have hs2 := hB_2.size
  obtain ⟨b9, hb9⟩ : ∃ b, b = w2.heap.size := ⟨_, rfl⟩
  refine abs_wp (fun W => W.heap[w.heap.size]? = some (.cells #[.int .i64 ax, .int .i64 ay, .int .i64 bx, .int .i64 by_] 25 (0, 0)) ∧ W.heap[w.heap.size + 1]? = some (.cells #[.int .i64 cx, .int .i64 cy, .int .i64 ex, .int .i64 ey] 25 (0, 0)) ∧ W.heap[w2.heap.size]? = some (.cells #[.int .i64 c0, .int .i64 c1, .int .i64 c2, .int .i64 c3] 25 (0, 0)) ∧ Below w.heap.size w W) ⟨heap_old z3_2 _, heap_old z4_2 _, heap_new _ _, by focus (repeat (first | (with_reducible exact Below.refl _ _) | (with_reducible assumption) | ((with_reducible refine Below.setCell ?_ ?_ _); rotate_left; (focus (first | omega | (simp; done) | (simp; omega)))) | ((with_reducible refine Below.alloc ?_ ?_ _); rotate_left; (focus (first | omega | (simp; done) | (simp; omega)))) | (with_reducible refine Below.drew ?_) | (refine below_on ?_ (by assumption))))⟩ fun W3 ⟨z3_3, z4_3, z9_3, hB_3⟩ => ?_
  rw [← hb9] at z9_3 ⊢
  clear z3_2 z4_2 hB_2 hs2 hb9
  go_wp2_with fail
  refine (HRP.out _).mono ?_
  rintro r w4 ⟨rfl, hb⟩
  have z3_4 := heap_below hb z3_3
  have z4_4 := heap_below hb z4_3
  have z9_4 := heap_below hb z9_3
  have hB_4 := below_on hB_3 hb
  clear hb hB_3 z3_3 z4_3 z9_3
  go_upto_region 6 with (fail)
  have hs4 := hB_4.size
  obtain ⟨b11, hb11⟩ : ∃ b, b = w4.heap.size := ⟨_, rfl⟩
  refine abs_wp (fun W => W.heap[w.heap.size]? = some (.cells #[.int .i64 ax, .int .i64 ay, .int .i64 bx, .int .i64 by_] 25 (0, 0)) ∧ W.heap[w.heap.size + 1]? = some (.cells #[.int .i64 cx, .int .i64 cy, .int .i64 ex, .int .i64 ey] 25 (0, 0)) ∧ W.heap[b9]? = some (.cells #[.int .i64 c0, .int .i64 c1, .int .i64 c2, .int .i64 c3] 25 (0, 0)) ∧ W.heap[w4.heap.size]? = some (.cells #[.int .i64 c0, .int .i64 c1, .int .i64 c2, .int .i64 c3] 25 (0, 0)) ∧ Below w.heap.size w W) ⟨heap_old z3_4 _, heap_old z4_4 _, heap_old z9_4 _, heap_new _ _, by focus (repeat (first | (with_reducible exact Below.refl _ _) | (with_reducible assumption) | ((with_reducible refine Below.setCell ?_ ?_ _); rotate_left; (focus (first | omega | (simp; done) | (simp; omega)))) | ((with_reducible refine Below.alloc ?_ ?_ _); rotate_left; (focus (first | omega | (simp; done) | (simp; omega)))) | (with_reducible refine Below.drew ?_) | (refine below_on ?_ (by assumption))))⟩ fun W5 ⟨z3_5, z4_5, z9_5, z11_5, hB_5⟩ => ?_
  rw [← hb11] at z11_5 ⊢
  clear z3_4 z4_4 z9_4 hB_4 hs4 hb11
  have q9 := cell_at z9_5
  have q11 := cell_at z11_5
  go_upto_region 8 with (go_at_call 13; refine (law_num _ _).mono ?_; rintro e w' ⟨rfl, rfl⟩)
  clear q9 q11 z9_5 z11_5
  refine region_qt 13 (by kernel_rfl) (by kernel_rfl) fun X _ mk hmk hcl => ?_
  have q3 := mk_cell hmk z3_5
  have q4 := mk_cell hmk z4_5
  simp only [List.take_succ_cons, List.take_zero, List.drop_succ_cons, List.drop_zero]
  repeat (go_big_quiet_step (first | (go_at_call 12; with_reducible exact (HRs.out _).mono fun e w' h => ⟨h.1, hcl _ _ h.2⟩)))
  refine wpQuiet_nil ?_
  rintro _ ⟨x, rfl⟩
  clear q3 q4
  have hb := hmk x
  clear hcl hmk
  generalize mk x = W6 at hb
  have z3_6 := heap_below hb z3_5
  have z4_6 := heap_below hb z4_5
  have hB_6 := below_on hB_5 hb
  clear hb z3_5 z4_5 hB_5
  have q3 := cell_at z3_6
  have q4 := cell_at z4_6
  go_wp2_with fail
  refine (HSs.out _).mono ?_
  rintro r w7 ⟨rfl, hb⟩
  have z3_7 := heap_below hb z3_6
  have z4_7 := heap_below hb z4_6
  have hB_7 := below_on hB_6 hb
  clear hb hB_6 z3_6 z4_6 q3 q4
  have q3 := cell_at z3_7
  have q4 := cell_at z4_7
  go_wp2_with fail
  refine (HSt.out _).mono ?_
  rintro r w8 ⟨rfl, hb⟩
  have z3_8 := heap_below hb z3_7
  have z4_8 := heap_below hb z4_7
  have hB_8 := below_on hB_7 hb
  clear hb hB_7 z3_7 z4_7 q3 q4
  have q3 := cell_at z3_8
  go_wp2_with fail
  refine (HRs.out _).mono ?_
  rintro r w9 ⟨rfl, hb⟩
  have z3_9 := heap_below hb z3_8
  have hB_9 := below_on hB_8 hb
  clear hb hB_8 z3_8 q3
  clear z3_9
  go_wp2_with (go_at_call 13; refine (law_num _ _).mono ?_; rintro e w' ⟨rfl, rfl⟩)
  refine (law_works _ (HV.out.below hB_9)).mono ?_
  rintro r wz ⟨rfl, hb⟩
  have hF := below_on hB_9 hb
  go_wp2
  go_ret
  exact ⟨rfl, hF⟩
theorem and_sym (a b : Bool) : (a && b) = (b && a) := Bool.and_comm a b
theorem texts_any (ax ay bx by_ cx cy ex ey : Int) (t : ByteArray) (ht : t.size < 9223372036854775808) (w : World) (hV : Vars w) :
    Calls Tryz.prog 7 #[.agg #[.int .i64 ax, .int .i64 ay, .int .i64 bx, .int .i64 by_], .agg #[.int .i64 cx, .int .i64 cy, .int .i64 ex, .int .i64 ey], .string t] w fun e w' => e = .returned (.bool true) ∧ Below w.heap.size w w' := by
  by_cases hsz : t.size ≤ 100
  · obtain ⟨c0, c1, c2, c3, er, hor, HRP⟩ := rparse_ex t hsz
    have HPa : Hd (∀ w : World, Vars w → Calls Tryz.prog 31 #[.string t] w fun e w' => e = .returned (.tuple #[.agg #[.int .i64 c0, .int .i64 c1, .int .i64 c2, .int .i64 c3], .int .i64 er]) ∧ Below w.heap.size w w') := ⟨fun w hv => segp_any t hsz c0 c1 c2 c3 er hor w hv⟩
    obtain ⟨l0, l1, l2, l3, hL⟩ : ∃ l0 l1 l2 l3 : Int, (if backB ax ay bx by_ then [bx, by_, ax, ay] else [ax, ay, bx, by_]) = [l0, l1, l2, l3] := by split <;> exact ⟨_, _, _, _, rfl⟩
    obtain ⟨m0, m1, m2, m3, hM⟩ : ∃ m0 m1 m2 m3 : Int, (if backB cx cy ex ey then [ex, ey, cx, cy] else [cx, cy, ex, ey]) = [m0, m1, m2, m3] := by split <;> exact ⟨_, _, _, _, rfl⟩
    have lay : ∀ (a b c d k0 k1 k2 k3 : Int), (if backB a b c d then [c, d, a, b] else [a, b, c, d]) = [k0, k1, k2, k3] → Hd (∀ w : World, Calls Tryz.prog 15 #[.agg #[.int .i64 a, .int .i64 b, .int .i64 c, .int .i64 d]] w fun e w' => e = .returned (.agg #[.int .i64 k0, .int .i64 k1, .int .i64 k2, .int .i64 k3]) ∧ Below w.heap.size w w') := by
      intro a b c d k0 k1 k2 k3 hk
      refine ⟨fun w => ?_⟩
      have h := rlaid_any a b c d w
      cases hb : backB a b c d with
      | true =>
        rw [hb] at h hk
        simp at hk
        obtain ⟨rfl, rfl, rfl, rfl⟩ := hk
        exact h
      | false =>
        rw [hb] at h hk
        simp at hk
        obtain ⟨rfl, rfl, rfl, rfl⟩ := hk
        exact h
    have lI : ∀ (a b c d k0 k1 k2 k3 : Int), segB a b c d = true → (if backB a b c d then [c, d, a, b] else [a, b, c, d]) = [k0, k1, k2, k3] → laidI a b c d 0 = k0 ∧ laidI a b c d 1 = k1 ∧ laidI a b c d 2 = k2 ∧ laidI a b c d 3 = k3 := by
      intro a b c d k0 k1 k2 k3 hg hk
      unfold laidI
      rw [hg]
      cases hb : backB a b c d with
      | true =>
        rw [hb] at hk
        simp at hk
        obtain ⟨rfl, rfl, rfl, rfl⟩ := hk
        exact ⟨rfl, rfl, rfl, rfl⟩
      | false =>
        rw [hb] at hk
        simp at hk
        obtain ⟨rfl, rfl, rfl, rfl⟩ := hk
        exact ⟨rfl, rfl, rfl, rfl⟩
    have hrs := rseg_right ax ay bx by_
    have hrt := rseg_right cx cy ex ey
    have hss := same_any ax ay bx by_ cx cy ex ey
    have hst := same_any cx cy ex ey ax ay bx by_
    cases hp : segB ax ay bx by_ with
    | true =>
      cases hq : segB cx cy ex ey with
      | true =>
        obtain ⟨i0, i1, i2, i3⟩ := lI _ _ _ _ _ _ _ _ hp hL
        obtain ⟨j0, j1, j2, j3⟩ := lI _ _ _ _ _ _ _ _ hq hM
        rw [hp] at hrs hss hst
        rw [hq] at hrt hss hst
        rw [i0, i1, i2, i3, j0, j1, j2, j3] at hss hst
        rw [Bool.true_and, Bool.true_and] at hss hst
        rw [BEq.comm (a := m0), BEq.comm (a := m1), BEq.comm (a := m2), BEq.comm (a := m3)] at hst
        exact texts_tt ax ay bx by_ cx cy ex ey l0 l1 l2 l3 m0 m1 m2 m3 c0 c1 c2 c3 er t hsz (segS ax ay bx by_) _ rfl ⟨fun w hv => seg_text_ok ax ay bx by_ hp w hv⟩ HPa ⟨HRP⟩ ⟨hrs⟩ ⟨hrt⟩ (lay _ _ _ _ _ _ _ _ hL) (lay _ _ _ _ _ _ _ _ hM) ⟨hss⟩ ⟨hst⟩ ⟨fun w hv => rseg_text ax ay bx by_ hp w hv⟩ w hV
      | false =>
        rw [hp] at hrs hss hst
        rw [hq] at hrt hss hst
        exact texts_tf ax ay bx by_ cx cy ex ey l0 l1 l2 l3 m0 m1 m2 m3 c0 c1 c2 c3 er t hsz (segS ax ay bx by_) ⟨fun w hv => seg_text_ok ax ay bx by_ hp w hv⟩ HPa ⟨HRP⟩ ⟨hrs⟩ ⟨hrt⟩ (lay _ _ _ _ _ _ _ _ hL) (lay _ _ _ _ _ _ _ _ hM) ⟨hss⟩ ⟨hst⟩ ⟨fun w hv => rseg_text ax ay bx by_ hp w hv⟩ w hV
    | false =>
      have ht2 := seg_text_no ax ay bx by_ hp
      cases hq : segB cx cy ex ey with
      | true =>
        rw [hp] at hrs hss hst
        rw [hq] at hrt hss hst
        exact texts_ft ax ay bx by_ cx cy ex ey l0 l1 l2 l3 m0 m1 m2 m3 c0 c1 c2 c3 er t hsz ⟨fun w _ => ht2 w⟩ HPa ⟨HRP⟩ ⟨hrs⟩ ⟨hrt⟩ (lay _ _ _ _ _ _ _ _ hL) (lay _ _ _ _ _ _ _ _ hM) ⟨hss⟩ ⟨hst⟩ w hV
      | false =>
        rw [hp] at hrs hss hst
        rw [hq] at hrt hss hst
        exact texts_ff ax ay bx by_ cx cy ex ey l0 l1 l2 l3 m0 m1 m2 m3 c0 c1 c2 c3 er t hsz ⟨fun w _ => ht2 w⟩ HPa ⟨HRP⟩ ⟨hrs⟩ ⟨hrt⟩ (lay _ _ _ _ _ _ _ _ hL) (lay _ _ _ _ _ _ _ _ hM) ⟨hss⟩ ⟨hst⟩ w hV
  · exact texts_long ax ay bx by_ cx cy ex ey t hsz ht w hV
end Go.Proofs.YtbhfnfokihdjjaaGreatDoor
