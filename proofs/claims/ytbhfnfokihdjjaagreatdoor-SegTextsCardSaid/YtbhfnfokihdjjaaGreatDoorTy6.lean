/-
  Walk of a reference: Parse of segments. Conditions stand in each theorem.
-/
import Derived.Test.YtbhfnfokihdjjaaGreatDoorTy5
namespace Go.Proofs.YtbhfnfokihdjjaaGreatDoor
open Go.RowKit Go.BigFrame
set_option maxRecDepth 20000 in
set_option maxHeartbeats 4000000 in
/-- Without a comma. -/
theorem rparse_none (s : ByteArray) (hsz : s.size ≤ 100) (hno : (44 : UInt8) ∉ s.data.toList) (w : World) :
    Calls Tryz.prog 32 #[.string s] w fun e w' => e = .returned (.tuple #[.agg #[.int .i64 0, .int .i64 0, .int .i64 0, .int .i64 0], .int .i64 140]) ∧ Below w.heap.size w w' := by
  have HN := Hd.mk hno
  clear hno
  go_enter Tryz.func32, Tryz.ntmps32
  go_upto_region 1 with (fail)
  refine abs_wp (fun W => W.heap[w.heap.size]? = some (.cells #[.int .i64 0, .int .i64 0, .int .i64 0, .int .i64 0] 25 (0, 0)) ∧ Below w.heap.size w W) ⟨heap_new _ _, by focus (repeat (first | (with_reducible exact Below.refl _ _) | (with_reducible assumption) | ((with_reducible refine Below.setCell ?_ ?_ _); rotate_left; (focus (first | omega | (simp; done) | (simp; omega)))) | ((with_reducible refine Below.alloc ?_ ?_ _); rotate_left; (focus (first | omega | (simp; done) | (simp; omega)))) | (with_reducible refine Below.drew ?_) | (refine below_on ?_ (by assumption))))⟩ fun W ⟨z0, hB⟩ => ?_
  go_wp2
  go_loopw [4] (fun iv wr => ∃ k : Nat, k ≤ s.size ∧ iv = .int .i64 k ∧ wr.heap[w.heap.size]? = some (.cells #[.int .i64 0, .int .i64 0, .int .i64 0, .int .i64 0] 25 (0, 0)) ∧ Below w.heap.size w wr) (fun iv _ => s.size - (intOf iv).toNat)
  case atStart => exact ⟨0, Nat.zero_le _, rfl, z0, hB⟩
  case round =>
    clear z0 hB
    obtain ⟨k, hk, rfl, z0, hB⟩ := hrel
    by_cases hlt : k < s.size
    · have hd1 : decide ((k : Int) < (s.size : Int)) = true := by simp; omega
      obtain ⟨c, hc, hbc⟩ := bt_dig s k hlt
      have hgk := (get_bt s k hlt).trans hbc
      have hc44 : (((c.toNat : Nat) : Int) == 44) = false := by
        rw [beq_eq_false_iff_ne]
        intro h
        apply HN.out
        have h2 : c = 44 := by
          apply UInt8.toNat_inj.1
          have : (44 : UInt8).toNat = 44 := by decide
          omega
        rw [← h2]
        exact List.mem_of_getElem? hc
      clear hc hbc
      go_wp2
      go_roundw
      case rel => exact ⟨k + 1, by omega, by go_num, z0, hB⟩
      case measure => simp [intOf]; omega
    · have hd1 : decide ((k : Int) < (s.size : Int)) = false := by simp; omega
      have c0 := cell_at z0
      have f0 := frozen_at z0
      obtain ⟨l1, l2, l3⟩ := laid_four w.heap.size wr (.int .i64 0) (.int .i64 0) (.int .i64 0) (.int .i64 0)
      have c2 := cell_at (l1 z0 rfl)
      have kB := Below.trans hB (l3 w.heap.size (Nat.le_refl _))
      go_wp2
      refine bodyPost_ret (by first | (simp [results, Tryz.results32, go_sem, c2]; done) | (simp [results, Tryz.results32, go_sem, c2]; rfl)) rfl ⟨rfl, kB⟩
set_option maxRecDepth 20000 in
set_option maxHeartbeats 8000000 in
/-- Cut at the first comma. -/
theorem rparse_cut (s : ByteArray) (j : Nat) (hj : j < s.size) (hsz : s.size ≤ 100) (hjc : s.data.toList[j]? = some 44) (hno : (44 : UInt8) ∉ s.data.toList.take j) (ax ay bx by_ : Int) (a b q : Bool)
    (HX : Hd (∀ w : World, Calls Tryz.prog 68 #[.string (s.extract 0 j)] w fun e w' => e = .returned (.tuple #[.agg #[.int .i64 ax, .int .i64 ay], .bool a]) ∧ Below w.heap.size w w')) (HY : Hd (∀ w : World, Calls Tryz.prog 68 #[.string (s.extract (j + 1) s.size)] w fun e w' => e = .returned (.tuple #[.agg #[.int .i64 bx, .int .i64 by_], .bool b]) ∧ Below w.heap.size w w'))
    (hq : segB ax ay bx by_ = q) (w : World) :
    Calls Tryz.prog 32 #[.string s] w fun e w' => (e = .returned (if a && (b && q) then .tuple #[.agg #[.int .i64 ax, .int .i64 ay, .int .i64 bx, .int .i64 by_], .int .i64 0] else .tuple #[.agg #[.int .i64 0, .int .i64 0, .int .i64 0, .int .i64 0], .int .i64 140])) ∧ Below w.heap.size w w' := by
  have HN := Hd.mk (And.intro hno hjc)
  have HQ : Hd (∀ w, Calls Tryz.prog 12 #[.agg #[.int .i64 ax, .int .i64 ay, .int .i64 bx, .int .i64 by_]] w fun e w' => e = .returned (.bool q) ∧ Below w.heap.size w w') := ⟨fun w => by
    have h := rseg_right ax ay bx by_ w
    rw [hq] at h
    exact h⟩
  clear hno hjc hq
  go_enter Tryz.func32, Tryz.ntmps32
  go_upto_region 1 with (fail)
  refine abs_wp (fun W => W.heap[w.heap.size]? = some (.cells #[.int .i64 0, .int .i64 0, .int .i64 0, .int .i64 0] 25 (0, 0)) ∧ Below w.heap.size w W) ⟨heap_new _ _, by focus (repeat (first | (with_reducible exact Below.refl _ _) | (with_reducible assumption) | ((with_reducible refine Below.setCell ?_ ?_ _); rotate_left; (focus (first | omega | (simp; done) | (simp; omega)))) | ((with_reducible refine Below.alloc ?_ ?_ _); rotate_left; (focus (first | omega | (simp; done) | (simp; omega)))) | (with_reducible refine Below.drew ?_) | (refine below_on ?_ (by assumption))))⟩ fun W ⟨z0, hB⟩ => ?_
  go_wp2
  go_loopw [4] (fun iv wr => ∃ k : Nat, k ≤ j ∧ iv = .int .i64 k ∧ wr.heap[w.heap.size]? = some (.cells #[.int .i64 0, .int .i64 0, .int .i64 0, .int .i64 0] 25 (0, 0)) ∧ Below w.heap.size w wr) (fun iv _ => s.size - (intOf iv).toNat)
  case atStart => exact ⟨0, Nat.zero_le _, rfl, z0, hB⟩
  case round =>
    clear z0 hB
    obtain ⟨k, hk, rfl, z0, hB⟩ := hrel
    have hd1 : decide ((k : Int) < (s.size : Int)) = true := by simp; omega
    obtain ⟨c, hc, hbc⟩ := bt_dig s k (by omega)
    have hgk := (get_bt s k (by omega)).trans hbc
    by_cases hkj : k = j
    · subst hkj
      have hc2 : c = 44 := Option.some.inj (hc.symm.trans HN.out.2)
      have hc44 : (((c.toNat : Nat) : Int) == 44) = true := by rw [hc2]; rfl
      have hk0 : (0 : Int) ≤ (k : Int) := by omega
      have hk1 : (k : Int) ≤ (s.size : Int) := by omega
      have hk2 : (k : Int) + 1 ≤ (s.size : Int) := by omega
      clear hc hbc hc2
      go_wp2_with fail
      refine (HX.out _).mono ?_
      rintro r w1 ⟨rfl, hb⟩
      have z1 := heap_below hb z0
      have hB1 := below_on hB hb
      clear hb z0 hB hgk hc44 hd1
      go_upto_region 6 with (fail)
      have hs1 := hB1.size
      obtain ⟨b5, hb5⟩ : ∃ b, b = w1.heap.size := ⟨_, rfl⟩
      refine abs_wp (fun W => W.heap[w.heap.size]? = some (.cells #[.int .i64 0, .int .i64 0, .int .i64 0, .int .i64 0] 25 (0, 0)) ∧ W.heap[w1.heap.size]? = some (.cells #[.int .i64 ax, .int .i64 ay] 23 (0, 0)) ∧ Below w.heap.size w W) ⟨heap_old z1 _, heap_new _ _, by focus (repeat (first | (with_reducible exact Below.refl _ _) | (with_reducible assumption) | ((with_reducible refine Below.setCell ?_ ?_ _); rotate_left; (focus (first | omega | (simp; done) | (simp; omega)))) | ((with_reducible refine Below.alloc ?_ ?_ _); rotate_left; (focus (first | omega | (simp; done) | (simp; omega)))) | (with_reducible refine Below.drew ?_) | (refine below_on ?_ (by assumption))))⟩ fun W2 ⟨y0, y5, hB2⟩ => ?_
      rw [← hb5] at y5 ⊢
      clear z1 hB1 hs1 hb5
      go_wp2_with fail
      refine (HY.out _).mono ?_
      rintro r w3 ⟨rfl, hb⟩
      have z0 := heap_below hb y0
      have z5 := heap_below hb y5
      have hB3 := below_on hB2 hb
      clear hb y0 y5 hB2
      go_upto_region 7 with (fail)
      have hs3 := hB3.size
      obtain ⟨b7, hb7⟩ : ∃ b, b = w3.heap.size := ⟨_, rfl⟩
      refine abs_wp (fun W => W.heap[w.heap.size]? = some (.cells #[.int .i64 0, .int .i64 0, .int .i64 0, .int .i64 0] 25 (0, 0)) ∧ W.heap[b5]? = some (.cells #[.int .i64 ax, .int .i64 ay] 23 (0, 0)) ∧ W.heap[w3.heap.size]? = some (.cells #[.int .i64 bx, .int .i64 by_] 23 (0, 0)) ∧ Below w.heap.size w W) ⟨heap_old z0 _, heap_old z5 _, heap_new _ _, by focus (repeat (first | (with_reducible exact Below.refl _ _) | (with_reducible assumption) | ((with_reducible refine Below.setCell ?_ ?_ _); rotate_left; (focus (first | omega | (simp; done) | (simp; omega)))) | ((with_reducible refine Below.alloc ?_ ?_ _); rotate_left; (focus (first | omega | (simp; done) | (simp; omega)))) | (with_reducible refine Below.drew ?_) | (refine below_on ?_ (by assumption))))⟩ fun W4 ⟨y0, y5, y7, hB4⟩ => ?_
      rw [← hb7] at y7 ⊢
      clear z0 z5 hB3 hs3 hb7
      have c5 := cell_at y5
      have c7 := cell_at y7
      go_upto_region 8 with (fail)
      have hs4 := hB4.size
      obtain ⟨b9, hb9⟩ : ∃ b, b = W4.heap.size := ⟨_, rfl⟩
      refine abs_wp (fun W => W.heap[w.heap.size]? = some (.cells #[.int .i64 0, .int .i64 0, .int .i64 0, .int .i64 0] 25 (0, 0)) ∧ W.heap[W4.heap.size]? = some (.cells #[.int .i64 ax, .int .i64 ay, .int .i64 bx, .int .i64 by_] 25 (0, 0)) ∧ Below w.heap.size w W) ⟨heap_old y0 _, heap_new _ _, by focus (repeat (first | (with_reducible exact Below.refl _ _) | (with_reducible assumption) | ((with_reducible refine Below.setCell ?_ ?_ _); rotate_left; (focus (first | omega | (simp; done) | (simp; omega)))) | ((with_reducible refine Below.alloc ?_ ?_ _); rotate_left; (focus (first | omega | (simp; done) | (simp; omega)))) | (with_reducible refine Below.drew ?_) | (refine below_on ?_ (by assumption))))⟩ fun W5 ⟨x0, x9, hB5⟩ => ?_
      rw [← hb9] at x9 ⊢
      clear y0 y5 y7 hB4 hs4 hb9 c5 c7
      cases a with
      | false =>
        have c0 := cell_at x0
        have f0 := frozen_at x0
        obtain ⟨l1, l2, l3⟩ := laid_four w.heap.size W5 (.int .i64 0) (.int .i64 0) (.int .i64 0) (.int .i64 0)
        have c2 := cell_at (l1 x0 rfl)
        have kB := Below.trans hB5 (l3 w.heap.size (Nat.le_refl _))
        go_wp2
        refine bodyPost_ret (by first | (simp [results, Tryz.results32, go_sem, c2]; done) | (simp [results, Tryz.results32, go_sem, c2]; rfl)) rfl ⟨rfl, kB⟩
      | true =>
        cases b with
        | false =>
          have c0 := cell_at x0
          have f0 := frozen_at x0
          obtain ⟨l1, l2, l3⟩ := laid_four w.heap.size W5 (.int .i64 0) (.int .i64 0) (.int .i64 0) (.int .i64 0)
          have c2 := cell_at (l1 x0 rfl)
          have kB := Below.trans hB5 (l3 w.heap.size (Nat.le_refl _))
          go_wp2
          refine bodyPost_ret (by first | (simp [results, Tryz.results32, go_sem, c2]; done) | (simp [results, Tryz.results32, go_sem, c2]; rfl)) rfl ⟨rfl, kB⟩
        | true =>
          have c9 := cell_at x9
          go_wp2_with fail
          refine (HQ.out _).mono ?_
          rintro r w6 ⟨rfl, hb⟩
          have u0 := heap_below hb x0
          have u9 := heap_below hb x9
          have hB6 := below_on hB5 hb
          clear hb x0 x9 hB5 c9
          cases q with
          | false =>
            have c0 := cell_at u0
            have f0 := frozen_at u0
            obtain ⟨l1, l2, l3⟩ := laid_four w.heap.size w6 (.int .i64 0) (.int .i64 0) (.int .i64 0) (.int .i64 0)
            have c2 := cell_at (l1 u0 rfl)
            have kB := Below.trans hB6 (l3 w.heap.size (Nat.le_refl _))
            go_wp2
            refine bodyPost_ret (by first | (simp [results, Tryz.results32, go_sem, c2]; done) | (simp [results, Tryz.results32, go_sem, c2]; rfl)) rfl ⟨rfl, kB⟩
          | true =>
            have c9 := cell_at u9
            have c0 := cell_at u0
            have f0 := frozen_at u0
            obtain ⟨l1, l2, l3⟩ := laid_four w.heap.size w6 (.int .i64 ax) (.int .i64 ay) (.int .i64 bx) (.int .i64 by_)
            have c2 := cell_at (l1 u0 rfl)
            have kB := Below.trans hB6 (l3 w.heap.size (Nat.le_refl _))
            go_wp2
            refine bodyPost_ret (by first | (simp [results, Tryz.results32, go_sem, c2]; done) | (simp [results, Tryz.results32, go_sem, c2]; rfl)) rfl ⟨rfl, kB⟩
    · have hc44 : (((c.toNat : Nat) : Int) == 44) = false := by
        rw [beq_eq_false_iff_ne]
        intro h
        apply HN.out.1
        have h2 : c = 44 := by
          apply UInt8.toNat_inj.1
          have : (44 : UInt8).toNat = 44 := by decide
          omega
        rw [← h2]
        refine List.mem_of_getElem? (i := k) ?_
        rw [List.getElem?_take_of_lt (by omega)]
        exact hc
      clear hc hbc
      go_wp2
      go_roundw
      case rel => exact ⟨k + 1, by omega, by go_num, z0, hB⟩
      case measure => simp [intOf]; omega
theorem node_inj {x y x' y' : Int} (h1 : nodeB x y = true) (h2 : nodeB x' y' = true) (h : nodeS x y = nodeS x' y') : x = x' ∧ y = y' := by
  obtain ⟨r1, r2⟩ := node_range h1
  obtain ⟨r3, r4⟩ := node_range h2
  have hl : Lib.itoa x ++ 32 :: Lib.itoa y = Lib.itoa x' ++ 32 :: Lib.itoa y' := by rw [← node_list, ← node_list, h]
  obtain ⟨e1, e2⟩ := join_inj 32 _ _ _ _ hl (itoa_no x 32 (by decide)) (itoa_no x' 32 (by decide))
  exact ⟨itS_inj (by omega) (by omega) (bytes_ext e1), itS_inj (by omega) (by omega) (bytes_ext e2)⟩
theorem comma_no (x y : Int) : (44 : UInt8) ∉ (nodeS x y).data.toList := by
  rw [node_list]
  intro h
  rw [List.mem_append, List.mem_cons] at h
  rcases h with h | h | h
  · exact itoa_no x 44 (by decide) h
  · exact absurd h (by decide)
  · exact itoa_no y 44 (by decide) h
/-- The reference Parse, of any text. -/
theorem rparse_ex (s : ByteArray) (hsz : s.size ≤ 100) :
    ∃ c0 c1 c2 c3 e : Int, (e = 0 ∧ segB c0 c1 c2 c3 = true ∧ s = segS c0 c1 c2 c3 ∨ e = 140 ∧ c0 = 0 ∧ c1 = 0 ∧ c2 = 0 ∧ c3 = 0 ∧ ∀ a b c d : Int, segB a b c d = true → s ≠ segS a b c d) ∧
    ∀ w : World, Calls Tryz.prog 32 #[.string s] w fun x w' => x = .returned (.tuple #[.agg #[.int .i64 c0, .int .i64 c1, .int .i64 c2, .int .i64 c3], .int .i64 e]) ∧ Below w.heap.size w w' := by
  by_cases hm : (44 : UInt8) ∈ s.data.toList
  · obtain ⟨j, hj, hno⟩ := mem_first hm
    have hjs : j < s.size := by
      have := (List.getElem?_eq_some_iff.1 hj).1
      rw [size_list] at this
      exact this
    have hsp := cut_list s j 44 hj
    have hL : (44 : UInt8) ∉ (s.extract 0 j).data.toList := by rw [take_list]; exact hno
    obtain ⟨ax, ay, a, ha, ca, HX⟩ := rnode_ex (s.extract 0 j) (by rw [ByteArray.size_extract]; omega)
    obtain ⟨bx, by_, b, hb, cb, HY⟩ := rnode_ex (s.extract (j + 1) s.size) (by rw [ByteArray.size_extract]; omega)
    have hw := rparse_cut s j hjs hsz hj hno ax ay bx by_ a b (segB ax ay bx by_) ⟨HX⟩ ⟨HY⟩ rfl
    cases hab : (a && (b && segB ax ay bx by_)) with
    | true =>
      rw [hab] at hw
      simp only [Bool.and_eq_true] at hab
      refine ⟨ax, ay, bx, by_, 0, .inl ⟨rfl, hab.2.2, ?_⟩, hw⟩
      apply bytes_ext
      rw [hsp, seg_list, ← (ha hab.1).1, ← (hb hab.2.1).1]
    | false =>
      rw [hab] at hw
      refine ⟨0, 0, 0, 0, 140, .inr ⟨rfl, rfl, rfl, rfl, rfl, fun p q r t hg hs => ?_⟩, hw⟩
      have hg2 := hg
      unfold segB at hg2
      simp only [Bool.and_eq_true] at hg2
      have hl : s.data.toList = (nodeS p q).data.toList ++ 44 :: (nodeS r t).data.toList := by rw [hs, seg_list]
      obtain ⟨e1, e2⟩ := join_inj 44 _ _ _ _ (hl.symm.trans hsp) (comma_no p q) hL
      have f1 : s.extract 0 j = nodeS p q := (bytes_ext e1).symm
      have f2 : s.extract (j + 1) s.size = nodeS r t := (bytes_ext e2).symm
      have ta := ca p q hg2.1 f1
      have tb := cb r t hg2.2.1 f2
      have k1 := node_inj (ha ta).2 hg2.1 ((ha ta).1.symm.trans f1)
      have k2 := node_inj (hb tb).2 hg2.2.1 ((hb tb).1.symm.trans f2)
      rw [ta, tb, k1.1, k1.2, k2.1, k2.2, hg] at hab
      cases hab
  · refine ⟨0, 0, 0, 0, 140, .inr ⟨rfl, rfl, rfl, rfl, rfl, fun p q r t _ hs => ?_⟩, fun w => rparse_none s hsz hm w⟩
    apply hm
    rw [hs, seg_list]
    simp
end Go.Proofs.YtbhfnfokihdjjaaGreatDoor
