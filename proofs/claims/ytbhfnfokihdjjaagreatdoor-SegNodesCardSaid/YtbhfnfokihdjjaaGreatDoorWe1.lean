/-
  Walks of ratio: a wide magnitude's half. Conditions stand in each theorem.
-/
import Derived.Test.YtbhfnfokihdjjaaGreatDoorWd3
namespace Go.Proofs.YtbhfnfokihdjjaaGreatDoor
open Go.RowKit Go.BigFrame

theorem half_div (a k : Nat) : a / 2 / 2 ^ (64 * k) = a / 2 ^ (64 * k) / 2 := by
  rw [Nat.div_div_eq_div_mul, Nat.div_div_eq_div_mul, Nat.mul_comm]
theorem half_digit (a k : Nat) : bits .or .u64 (dg a k / 2) (IntKind.u64.wrap (dg a (k + 1) * 9223372036854775808)) = dg (a / 2) k := by
  have h1 : a / 2 ^ (64 * (k + 1)) = a / 2 ^ (64 * k) / 18446744073709551616 := by rw [pow_step, Nat.div_div_eq_div_mul]
  have e1 : dg a k / 2 = ((a / 2 ^ (64 * k) % 18446744073709551616 / 2 : Nat) : Int) := by unfold dg; omega
  have e2 : IntKind.u64.wrap (dg a (k + 1) * 9223372036854775808) = ((2 ^ 63 * (a / 2 ^ (64 * k) / 18446744073709551616 % 2) : Nat) : Int) := by
    rw [IntKind.wrap_u64]; unfold dg; rw [h1]; omega
  have e3 : dg (a / 2) k = ((a / 2 ^ (64 * k) / 2 % 18446744073709551616 : Nat) : Int) := by unfold dg; rw [half_div]
  rw [e1, e2, e3, bits_or_u64_nat _ _ (by omega) (by omega), Nat.or_comm, ← Nat.two_pow_add_eq_or_of_lt]
  · congr 1
    omega
  · omega
theorem half_last (a n m : Nat) (hn : n = 8) (hm : n + 1 = m) (h : a < 2 ^ (64 * m)) : dg a 8 / 2 = dg (a / 2) 8 := by
  have h2 : a / 2 ^ (64 * n) < 18446744073709551616 := by
    rw [Nat.div_lt_iff_lt_mul (Nat.two_pow_pos _), Nat.mul_comm, ← pow_step, hm]; exact h
  rw [← hn]
  unfold dg
  rw [half_div]
  generalize a / 2 ^ (64 * n) = A at *
  omega

set_option maxRecDepth 20000 in
set_option maxHeartbeats 2000000 in
theorem wshift_any (a : Nat) (ha : a < 2 ^ (64 * 9)) (w : World) :
    Calls Tryz.prog 186 #[.agg #[.int .u64 (dg (a) 0), .int .u64 (dg (a) 1), .int .u64 (dg (a) 2), .int .u64 (dg (a) 3), .int .u64 (dg (a) 4), .int .u64 (dg (a) 5), .int .u64 (dg (a) 6), .int .u64 (dg (a) 7), .int .u64 (dg (a) 8)]] w fun e w' => e = .returned (.agg #[.int .u64 (dg (a / 2) 0), .int .u64 (dg (a / 2) 1), .int .u64 (dg (a / 2) 2), .int .u64 (dg (a / 2) 3), .int .u64 (dg (a / 2) 4), .int .u64 (dg (a / 2) 5), .int .u64 (dg (a / 2) 6), .int .u64 (dg (a / 2) 7), .int .u64 (dg (a / 2) 8)]) ∧ Below w.heap.size w w' := by
  have HL := Hd.mk (half_last a 8 9 rfl rfl ha)
  have HD : Hd (∀ k, bits .or .u64 (dg a k / 2) (IntKind.u64.wrap (dg a (k + 1) * 9223372036854775808)) = dg (a / 2) k) := ⟨half_digit a⟩
  clear ha
  go_enter Tryz.func186, Tryz.ntmps186
  go_wp2
  go_loopw [3, 4] (fun _ i wr => ∃ k : Nat, k ≤ 9 ∧ i = .int .i64 k ∧ Below w.heap.size w wr ∧
      wr.heap[w.heap.size]? = some (.cells #[.int .u64 (dg (a) 0), .int .u64 (dg (a) 1), .int .u64 (dg (a) 2), .int .u64 (dg (a) 3), .int .u64 (dg (a) 4), .int .u64 (dg (a) 5), .int .u64 (dg (a) 6), .int .u64 (dg (a) 7), .int .u64 (dg (a) 8)] 160 (0, 0)) ∧
      wr.heap[w.heap.size + 1]? = some (.cells #[.int .u64 (part4 (a / 2) (k) 0), .int .u64 (part4 (a / 2) (k) 1), .int .u64 (part4 (a / 2) (k) 2), .int .u64 (part4 (a / 2) (k) 3), .int .u64 (part4 (a / 2) (k) 4), .int .u64 (part4 (a / 2) (k) 5), .int .u64 (part4 (a / 2) (k) 6), .int .u64 (part4 (a / 2) (k) 7), .int .u64 (part4 (a / 2) (k) 8)] 160 (0, 0)))
    (fun _ i _ => 9 - (intOf i).toNat)
  case atStart =>
    refine ⟨0, by omega, rfl, ?_, ?_, ?_⟩
    focus (repeat (first | (with_reducible exact Below.refl _ _) | (with_reducible assumption) | ((with_reducible refine Below.setCell ?_ ?_ _); rotate_left; (focus (first | omega | (simp; done) | (simp; omega)))) | ((with_reducible refine Below.alloc ?_ ?_ _); rotate_left; (focus (first | omega | (simp; done) | (simp; omega)))) | (with_reducible refine Below.drew ?_) | (refine below_on ?_ (by assumption))))
    · exact heap_old (heap_new _ _) _
    · exact heap_at (by simp) _
  case round =>
    obtain ⟨k, hk, rfl, hB, h0, h1⟩ := hrel
    by_cases hlt : k < 9
    · by_cases h8 : k = 8
      · subst h8
        have hl := HL.out
        have c0 := cell_at h0
        have c1 := cell_at h1
        have f1 := frozen_at h1
        have hs := lt_of_block h1
        go_wp2
        go_roundw
        case rel =>
          refine ⟨9, by omega, by go_num, ?_, ?_, ?_⟩
          focus (repeat (first | (with_reducible exact Below.refl _ _) | (with_reducible assumption) | ((with_reducible refine Below.setCell ?_ ?_ _); rotate_left; (focus (first | omega | (simp; done) | (simp; omega)))) | ((with_reducible refine Below.alloc ?_ ?_ _); rotate_left; (focus (first | omega | (simp; done) | (simp; omega)))) | (with_reducible refine Below.drew ?_) | (refine below_on ?_ (by assumption))))
          · exact heap_set_other h0 (by first | (simp; done) | (simp; omega)) _
          · refine (heap_set h1 _ _).trans ?_
            simp [part4]
        case measure => simp [intOf]
      · obtain rfl | rfl | rfl | rfl | rfl | rfl | rfl | rfl : k = 0 ∨ k = 1 ∨ k = 2 ∨ k = 3 ∨ k = 4 ∨ k = 5 ∨ k = 6 ∨ k = 7 := by omega
        · clear hk hlt h8
          have c0 := cell_at h0
          have c1 := cell_at h1
          have f1 := frozen_at h1
          have hs := lt_of_block h1
          go_upto_region 6 with (fail)
          refine abs_wp (fun W => W.heap[w.heap.size]? = some (.cells #[.int .u64 (dg (a) 0), .int .u64 (dg (a) 1), .int .u64 (dg (a) 2), .int .u64 (dg (a) 3), .int .u64 (dg (a) 4), .int .u64 (dg (a) 5), .int .u64 (dg (a) 6), .int .u64 (dg (a) 7), .int .u64 (dg (a) 8)] 160 (0, 0)) ∧ W.heap[w.heap.size + 1]? = some (.cells #[.int .u64 (dg a 0 / 2), .int .u64 (part4 (a / 2) 0 1), .int .u64 (part4 (a / 2) 0 2), .int .u64 (part4 (a / 2) 0 3), .int .u64 (part4 (a / 2) 0 4), .int .u64 (part4 (a / 2) 0 5), .int .u64 (part4 (a / 2) 0 6), .int .u64 (part4 (a / 2) 0 7), .int .u64 (part4 (a / 2) 0 8)] 160 (0, 0)) ∧ Below w.heap.size w W)
            ⟨heap_set_other h0 (by first | (simp; done) | (simp; omega)) _, (heap_set h1 _ _).trans (by simp [part4]), by focus (repeat (first | (with_reducible exact Below.refl _ _) | (with_reducible assumption) | ((with_reducible refine Below.setCell ?_ ?_ _); rotate_left; (focus (first | omega | (simp; done) | (simp; omega)))) | ((with_reducible refine Below.alloc ?_ ?_ _); rotate_left; (focus (first | omega | (simp; done) | (simp; omega)))) | (with_reducible refine Below.drew ?_) | (refine below_on ?_ (by assumption))))⟩ fun W ⟨y0, y1, hC⟩ => ?_
          clear h0 h1 hB c0 c1 f1 hs
          refine region_mix 9 (by kernel_rfl) (by kernel_rfl) (fun _ _ _ _ h => h) fun X _ mk hmk hcl => ?_
          have c0 := mk_cell hmk y0
          have c1 := mk_cell hmk y1
          simp only [List.take_succ_cons, List.take_zero, List.drop_succ_cons, List.drop_zero]
          repeat (go_big_quiet_step (skip))
          refine wpQuiet_nil ?_
          rintro _ ⟨x, rfl⟩
          clear c0 c1
          have hx := hmk x
          clear hcl hmk
          generalize mk x = W1 at hx
          have y0 := heap_below hx y0
          have y1 := heap_below hx y1
          have hB := below_on hC hx
          have c1 := cell_at y1
          have f1 := frozen_at y1
          have hs := lt_of_block y1
          have hd := HD.out 0
          simp only [Nat.reduceAdd] at hd
          go_wp2
          go_roundw
          case rel =>
            refine ⟨0 + 1, by omega, by go_num, ?_, ?_, ?_⟩
            focus (repeat (first | (with_reducible exact Below.refl _ _) | (with_reducible assumption) | ((with_reducible refine Below.setCell ?_ ?_ _); rotate_left; (focus (first | omega | (simp; done) | (simp; omega)))) | ((with_reducible refine Below.alloc ?_ ?_ _); rotate_left; (focus (first | omega | (simp; done) | (simp; omega)))) | (with_reducible refine Below.drew ?_) | (refine below_on ?_ (by assumption))))
            · exact heap_set_other y0 (by first | (simp; done) | (simp; omega)) _
            · refine (heap_set y1 _ _).trans ?_
              simp [part4]
          case measure => simp [intOf]
        · clear hk hlt h8
          have c0 := cell_at h0
          have c1 := cell_at h1
          have f1 := frozen_at h1
          have hs := lt_of_block h1
          go_upto_region 6 with (fail)
          refine abs_wp (fun W => W.heap[w.heap.size]? = some (.cells #[.int .u64 (dg (a) 0), .int .u64 (dg (a) 1), .int .u64 (dg (a) 2), .int .u64 (dg (a) 3), .int .u64 (dg (a) 4), .int .u64 (dg (a) 5), .int .u64 (dg (a) 6), .int .u64 (dg (a) 7), .int .u64 (dg (a) 8)] 160 (0, 0)) ∧ W.heap[w.heap.size + 1]? = some (.cells #[.int .u64 (part4 (a / 2) 1 0), .int .u64 (dg a 1 / 2), .int .u64 (part4 (a / 2) 1 2), .int .u64 (part4 (a / 2) 1 3), .int .u64 (part4 (a / 2) 1 4), .int .u64 (part4 (a / 2) 1 5), .int .u64 (part4 (a / 2) 1 6), .int .u64 (part4 (a / 2) 1 7), .int .u64 (part4 (a / 2) 1 8)] 160 (0, 0)) ∧ Below w.heap.size w W)
            ⟨heap_set_other h0 (by first | (simp; done) | (simp; omega)) _, (heap_set h1 _ _).trans (by simp [part4]), by focus (repeat (first | (with_reducible exact Below.refl _ _) | (with_reducible assumption) | ((with_reducible refine Below.setCell ?_ ?_ _); rotate_left; (focus (first | omega | (simp; done) | (simp; omega)))) | ((with_reducible refine Below.alloc ?_ ?_ _); rotate_left; (focus (first | omega | (simp; done) | (simp; omega)))) | (with_reducible refine Below.drew ?_) | (refine below_on ?_ (by assumption))))⟩ fun W ⟨y0, y1, hC⟩ => ?_
          clear h0 h1 hB c0 c1 f1 hs
          refine region_mix 9 (by kernel_rfl) (by kernel_rfl) (fun _ _ _ _ h => h) fun X _ mk hmk hcl => ?_
          have c0 := mk_cell hmk y0
          have c1 := mk_cell hmk y1
          simp only [List.take_succ_cons, List.take_zero, List.drop_succ_cons, List.drop_zero]
          repeat (go_big_quiet_step (skip))
          refine wpQuiet_nil ?_
          rintro _ ⟨x, rfl⟩
          clear c0 c1
          have hx := hmk x
          clear hcl hmk
          generalize mk x = W1 at hx
          have y0 := heap_below hx y0
          have y1 := heap_below hx y1
          have hB := below_on hC hx
          have c1 := cell_at y1
          have f1 := frozen_at y1
          have hs := lt_of_block y1
          have hd := HD.out 1
          simp only [Nat.reduceAdd] at hd
          go_wp2
          go_roundw
          case rel =>
            refine ⟨1 + 1, by omega, by go_num, ?_, ?_, ?_⟩
            focus (repeat (first | (with_reducible exact Below.refl _ _) | (with_reducible assumption) | ((with_reducible refine Below.setCell ?_ ?_ _); rotate_left; (focus (first | omega | (simp; done) | (simp; omega)))) | ((with_reducible refine Below.alloc ?_ ?_ _); rotate_left; (focus (first | omega | (simp; done) | (simp; omega)))) | (with_reducible refine Below.drew ?_) | (refine below_on ?_ (by assumption))))
            · exact heap_set_other y0 (by first | (simp; done) | (simp; omega)) _
            · refine (heap_set y1 _ _).trans ?_
              simp [part4]
          case measure => simp [intOf]
        · clear hk hlt h8
          have c0 := cell_at h0
          have c1 := cell_at h1
          have f1 := frozen_at h1
          have hs := lt_of_block h1
          go_upto_region 6 with (fail)
          refine abs_wp (fun W => W.heap[w.heap.size]? = some (.cells #[.int .u64 (dg (a) 0), .int .u64 (dg (a) 1), .int .u64 (dg (a) 2), .int .u64 (dg (a) 3), .int .u64 (dg (a) 4), .int .u64 (dg (a) 5), .int .u64 (dg (a) 6), .int .u64 (dg (a) 7), .int .u64 (dg (a) 8)] 160 (0, 0)) ∧ W.heap[w.heap.size + 1]? = some (.cells #[.int .u64 (part4 (a / 2) 2 0), .int .u64 (part4 (a / 2) 2 1), .int .u64 (dg a 2 / 2), .int .u64 (part4 (a / 2) 2 3), .int .u64 (part4 (a / 2) 2 4), .int .u64 (part4 (a / 2) 2 5), .int .u64 (part4 (a / 2) 2 6), .int .u64 (part4 (a / 2) 2 7), .int .u64 (part4 (a / 2) 2 8)] 160 (0, 0)) ∧ Below w.heap.size w W)
            ⟨heap_set_other h0 (by first | (simp; done) | (simp; omega)) _, (heap_set h1 _ _).trans (by simp [part4]), by focus (repeat (first | (with_reducible exact Below.refl _ _) | (with_reducible assumption) | ((with_reducible refine Below.setCell ?_ ?_ _); rotate_left; (focus (first | omega | (simp; done) | (simp; omega)))) | ((with_reducible refine Below.alloc ?_ ?_ _); rotate_left; (focus (first | omega | (simp; done) | (simp; omega)))) | (with_reducible refine Below.drew ?_) | (refine below_on ?_ (by assumption))))⟩ fun W ⟨y0, y1, hC⟩ => ?_
          clear h0 h1 hB c0 c1 f1 hs
          refine region_mix 9 (by kernel_rfl) (by kernel_rfl) (fun _ _ _ _ h => h) fun X _ mk hmk hcl => ?_
          have c0 := mk_cell hmk y0
          have c1 := mk_cell hmk y1
          simp only [List.take_succ_cons, List.take_zero, List.drop_succ_cons, List.drop_zero]
          repeat (go_big_quiet_step (skip))
          refine wpQuiet_nil ?_
          rintro _ ⟨x, rfl⟩
          clear c0 c1
          have hx := hmk x
          clear hcl hmk
          generalize mk x = W1 at hx
          have y0 := heap_below hx y0
          have y1 := heap_below hx y1
          have hB := below_on hC hx
          have c1 := cell_at y1
          have f1 := frozen_at y1
          have hs := lt_of_block y1
          have hd := HD.out 2
          simp only [Nat.reduceAdd] at hd
          go_wp2
          go_roundw
          case rel =>
            refine ⟨2 + 1, by omega, by go_num, ?_, ?_, ?_⟩
            focus (repeat (first | (with_reducible exact Below.refl _ _) | (with_reducible assumption) | ((with_reducible refine Below.setCell ?_ ?_ _); rotate_left; (focus (first | omega | (simp; done) | (simp; omega)))) | ((with_reducible refine Below.alloc ?_ ?_ _); rotate_left; (focus (first | omega | (simp; done) | (simp; omega)))) | (with_reducible refine Below.drew ?_) | (refine below_on ?_ (by assumption))))
            · exact heap_set_other y0 (by first | (simp; done) | (simp; omega)) _
            · refine (heap_set y1 _ _).trans ?_
              simp [part4]
          case measure => simp [intOf]
        · clear hk hlt h8
          have c0 := cell_at h0
          have c1 := cell_at h1
          have f1 := frozen_at h1
          have hs := lt_of_block h1
          go_upto_region 6 with (fail)
          refine abs_wp (fun W => W.heap[w.heap.size]? = some (.cells #[.int .u64 (dg (a) 0), .int .u64 (dg (a) 1), .int .u64 (dg (a) 2), .int .u64 (dg (a) 3), .int .u64 (dg (a) 4), .int .u64 (dg (a) 5), .int .u64 (dg (a) 6), .int .u64 (dg (a) 7), .int .u64 (dg (a) 8)] 160 (0, 0)) ∧ W.heap[w.heap.size + 1]? = some (.cells #[.int .u64 (part4 (a / 2) 3 0), .int .u64 (part4 (a / 2) 3 1), .int .u64 (part4 (a / 2) 3 2), .int .u64 (dg a 3 / 2), .int .u64 (part4 (a / 2) 3 4), .int .u64 (part4 (a / 2) 3 5), .int .u64 (part4 (a / 2) 3 6), .int .u64 (part4 (a / 2) 3 7), .int .u64 (part4 (a / 2) 3 8)] 160 (0, 0)) ∧ Below w.heap.size w W)
            ⟨heap_set_other h0 (by first | (simp; done) | (simp; omega)) _, (heap_set h1 _ _).trans (by simp [part4]), by focus (repeat (first | (with_reducible exact Below.refl _ _) | (with_reducible assumption) | ((with_reducible refine Below.setCell ?_ ?_ _); rotate_left; (focus (first | omega | (simp; done) | (simp; omega)))) | ((with_reducible refine Below.alloc ?_ ?_ _); rotate_left; (focus (first | omega | (simp; done) | (simp; omega)))) | (with_reducible refine Below.drew ?_) | (refine below_on ?_ (by assumption))))⟩ fun W ⟨y0, y1, hC⟩ => ?_
          clear h0 h1 hB c0 c1 f1 hs
          refine region_mix 9 (by kernel_rfl) (by kernel_rfl) (fun _ _ _ _ h => h) fun X _ mk hmk hcl => ?_
          have c0 := mk_cell hmk y0
          have c1 := mk_cell hmk y1
          simp only [List.take_succ_cons, List.take_zero, List.drop_succ_cons, List.drop_zero]
          repeat (go_big_quiet_step (skip))
          refine wpQuiet_nil ?_
          rintro _ ⟨x, rfl⟩
          clear c0 c1
          have hx := hmk x
          clear hcl hmk
          generalize mk x = W1 at hx
          have y0 := heap_below hx y0
          have y1 := heap_below hx y1
          have hB := below_on hC hx
          have c1 := cell_at y1
          have f1 := frozen_at y1
          have hs := lt_of_block y1
          have hd := HD.out 3
          simp only [Nat.reduceAdd] at hd
          go_wp2
          go_roundw
          case rel =>
            refine ⟨3 + 1, by omega, by go_num, ?_, ?_, ?_⟩
            focus (repeat (first | (with_reducible exact Below.refl _ _) | (with_reducible assumption) | ((with_reducible refine Below.setCell ?_ ?_ _); rotate_left; (focus (first | omega | (simp; done) | (simp; omega)))) | ((with_reducible refine Below.alloc ?_ ?_ _); rotate_left; (focus (first | omega | (simp; done) | (simp; omega)))) | (with_reducible refine Below.drew ?_) | (refine below_on ?_ (by assumption))))
            · exact heap_set_other y0 (by first | (simp; done) | (simp; omega)) _
            · refine (heap_set y1 _ _).trans ?_
              simp [part4]
          case measure => simp [intOf]
        · clear hk hlt h8
          have c0 := cell_at h0
          have c1 := cell_at h1
          have f1 := frozen_at h1
          have hs := lt_of_block h1
          go_upto_region 6 with (fail)
          refine abs_wp (fun W => W.heap[w.heap.size]? = some (.cells #[.int .u64 (dg (a) 0), .int .u64 (dg (a) 1), .int .u64 (dg (a) 2), .int .u64 (dg (a) 3), .int .u64 (dg (a) 4), .int .u64 (dg (a) 5), .int .u64 (dg (a) 6), .int .u64 (dg (a) 7), .int .u64 (dg (a) 8)] 160 (0, 0)) ∧ W.heap[w.heap.size + 1]? = some (.cells #[.int .u64 (part4 (a / 2) 4 0), .int .u64 (part4 (a / 2) 4 1), .int .u64 (part4 (a / 2) 4 2), .int .u64 (part4 (a / 2) 4 3), .int .u64 (dg a 4 / 2), .int .u64 (part4 (a / 2) 4 5), .int .u64 (part4 (a / 2) 4 6), .int .u64 (part4 (a / 2) 4 7), .int .u64 (part4 (a / 2) 4 8)] 160 (0, 0)) ∧ Below w.heap.size w W)
            ⟨heap_set_other h0 (by first | (simp; done) | (simp; omega)) _, (heap_set h1 _ _).trans (by simp [part4]), by focus (repeat (first | (with_reducible exact Below.refl _ _) | (with_reducible assumption) | ((with_reducible refine Below.setCell ?_ ?_ _); rotate_left; (focus (first | omega | (simp; done) | (simp; omega)))) | ((with_reducible refine Below.alloc ?_ ?_ _); rotate_left; (focus (first | omega | (simp; done) | (simp; omega)))) | (with_reducible refine Below.drew ?_) | (refine below_on ?_ (by assumption))))⟩ fun W ⟨y0, y1, hC⟩ => ?_
          clear h0 h1 hB c0 c1 f1 hs
          refine region_mix 9 (by kernel_rfl) (by kernel_rfl) (fun _ _ _ _ h => h) fun X _ mk hmk hcl => ?_
          have c0 := mk_cell hmk y0
          have c1 := mk_cell hmk y1
          simp only [List.take_succ_cons, List.take_zero, List.drop_succ_cons, List.drop_zero]
          repeat (go_big_quiet_step (skip))
          refine wpQuiet_nil ?_
          rintro _ ⟨x, rfl⟩
          clear c0 c1
          have hx := hmk x
          clear hcl hmk
          generalize mk x = W1 at hx
          have y0 := heap_below hx y0
          have y1 := heap_below hx y1
          have hB := below_on hC hx
          have c1 := cell_at y1
          have f1 := frozen_at y1
          have hs := lt_of_block y1
          have hd := HD.out 4
          simp only [Nat.reduceAdd] at hd
          go_wp2
          go_roundw
          case rel =>
            refine ⟨4 + 1, by omega, by go_num, ?_, ?_, ?_⟩
            focus (repeat (first | (with_reducible exact Below.refl _ _) | (with_reducible assumption) | ((with_reducible refine Below.setCell ?_ ?_ _); rotate_left; (focus (first | omega | (simp; done) | (simp; omega)))) | ((with_reducible refine Below.alloc ?_ ?_ _); rotate_left; (focus (first | omega | (simp; done) | (simp; omega)))) | (with_reducible refine Below.drew ?_) | (refine below_on ?_ (by assumption))))
            · exact heap_set_other y0 (by first | (simp; done) | (simp; omega)) _
            · refine (heap_set y1 _ _).trans ?_
              simp [part4]
          case measure => simp [intOf]
        · clear hk hlt h8
          have c0 := cell_at h0
          have c1 := cell_at h1
          have f1 := frozen_at h1
          have hs := lt_of_block h1
          go_upto_region 6 with (fail)
          refine abs_wp (fun W => W.heap[w.heap.size]? = some (.cells #[.int .u64 (dg (a) 0), .int .u64 (dg (a) 1), .int .u64 (dg (a) 2), .int .u64 (dg (a) 3), .int .u64 (dg (a) 4), .int .u64 (dg (a) 5), .int .u64 (dg (a) 6), .int .u64 (dg (a) 7), .int .u64 (dg (a) 8)] 160 (0, 0)) ∧ W.heap[w.heap.size + 1]? = some (.cells #[.int .u64 (part4 (a / 2) 5 0), .int .u64 (part4 (a / 2) 5 1), .int .u64 (part4 (a / 2) 5 2), .int .u64 (part4 (a / 2) 5 3), .int .u64 (part4 (a / 2) 5 4), .int .u64 (dg a 5 / 2), .int .u64 (part4 (a / 2) 5 6), .int .u64 (part4 (a / 2) 5 7), .int .u64 (part4 (a / 2) 5 8)] 160 (0, 0)) ∧ Below w.heap.size w W)
            ⟨heap_set_other h0 (by first | (simp; done) | (simp; omega)) _, (heap_set h1 _ _).trans (by simp [part4]), by focus (repeat (first | (with_reducible exact Below.refl _ _) | (with_reducible assumption) | ((with_reducible refine Below.setCell ?_ ?_ _); rotate_left; (focus (first | omega | (simp; done) | (simp; omega)))) | ((with_reducible refine Below.alloc ?_ ?_ _); rotate_left; (focus (first | omega | (simp; done) | (simp; omega)))) | (with_reducible refine Below.drew ?_) | (refine below_on ?_ (by assumption))))⟩ fun W ⟨y0, y1, hC⟩ => ?_
          clear h0 h1 hB c0 c1 f1 hs
          refine region_mix 9 (by kernel_rfl) (by kernel_rfl) (fun _ _ _ _ h => h) fun X _ mk hmk hcl => ?_
          have c0 := mk_cell hmk y0
          have c1 := mk_cell hmk y1
          simp only [List.take_succ_cons, List.take_zero, List.drop_succ_cons, List.drop_zero]
          repeat (go_big_quiet_step (skip))
          refine wpQuiet_nil ?_
          rintro _ ⟨x, rfl⟩
          clear c0 c1
          have hx := hmk x
          clear hcl hmk
          generalize mk x = W1 at hx
          have y0 := heap_below hx y0
          have y1 := heap_below hx y1
          have hB := below_on hC hx
          have c1 := cell_at y1
          have f1 := frozen_at y1
          have hs := lt_of_block y1
          have hd := HD.out 5
          simp only [Nat.reduceAdd] at hd
          go_wp2
          go_roundw
          case rel =>
            refine ⟨5 + 1, by omega, by go_num, ?_, ?_, ?_⟩
            focus (repeat (first | (with_reducible exact Below.refl _ _) | (with_reducible assumption) | ((with_reducible refine Below.setCell ?_ ?_ _); rotate_left; (focus (first | omega | (simp; done) | (simp; omega)))) | ((with_reducible refine Below.alloc ?_ ?_ _); rotate_left; (focus (first | omega | (simp; done) | (simp; omega)))) | (with_reducible refine Below.drew ?_) | (refine below_on ?_ (by assumption))))
            · exact heap_set_other y0 (by first | (simp; done) | (simp; omega)) _
            · refine (heap_set y1 _ _).trans ?_
              simp [part4]
          case measure => simp [intOf]
        · clear hk hlt h8
          have c0 := cell_at h0
          have c1 := cell_at h1
          have f1 := frozen_at h1
          have hs := lt_of_block h1
          go_upto_region 6 with (fail)
          refine abs_wp (fun W => W.heap[w.heap.size]? = some (.cells #[.int .u64 (dg (a) 0), .int .u64 (dg (a) 1), .int .u64 (dg (a) 2), .int .u64 (dg (a) 3), .int .u64 (dg (a) 4), .int .u64 (dg (a) 5), .int .u64 (dg (a) 6), .int .u64 (dg (a) 7), .int .u64 (dg (a) 8)] 160 (0, 0)) ∧ W.heap[w.heap.size + 1]? = some (.cells #[.int .u64 (part4 (a / 2) 6 0), .int .u64 (part4 (a / 2) 6 1), .int .u64 (part4 (a / 2) 6 2), .int .u64 (part4 (a / 2) 6 3), .int .u64 (part4 (a / 2) 6 4), .int .u64 (part4 (a / 2) 6 5), .int .u64 (dg a 6 / 2), .int .u64 (part4 (a / 2) 6 7), .int .u64 (part4 (a / 2) 6 8)] 160 (0, 0)) ∧ Below w.heap.size w W)
            ⟨heap_set_other h0 (by first | (simp; done) | (simp; omega)) _, (heap_set h1 _ _).trans (by simp [part4]), by focus (repeat (first | (with_reducible exact Below.refl _ _) | (with_reducible assumption) | ((with_reducible refine Below.setCell ?_ ?_ _); rotate_left; (focus (first | omega | (simp; done) | (simp; omega)))) | ((with_reducible refine Below.alloc ?_ ?_ _); rotate_left; (focus (first | omega | (simp; done) | (simp; omega)))) | (with_reducible refine Below.drew ?_) | (refine below_on ?_ (by assumption))))⟩ fun W ⟨y0, y1, hC⟩ => ?_
          clear h0 h1 hB c0 c1 f1 hs
          refine region_mix 9 (by kernel_rfl) (by kernel_rfl) (fun _ _ _ _ h => h) fun X _ mk hmk hcl => ?_
          have c0 := mk_cell hmk y0
          have c1 := mk_cell hmk y1
          simp only [List.take_succ_cons, List.take_zero, List.drop_succ_cons, List.drop_zero]
          repeat (go_big_quiet_step (skip))
          refine wpQuiet_nil ?_
          rintro _ ⟨x, rfl⟩
          clear c0 c1
          have hx := hmk x
          clear hcl hmk
          generalize mk x = W1 at hx
          have y0 := heap_below hx y0
          have y1 := heap_below hx y1
          have hB := below_on hC hx
          have c1 := cell_at y1
          have f1 := frozen_at y1
          have hs := lt_of_block y1
          have hd := HD.out 6
          simp only [Nat.reduceAdd] at hd
          go_wp2
          go_roundw
          case rel =>
            refine ⟨6 + 1, by omega, by go_num, ?_, ?_, ?_⟩
            focus (repeat (first | (with_reducible exact Below.refl _ _) | (with_reducible assumption) | ((with_reducible refine Below.setCell ?_ ?_ _); rotate_left; (focus (first | omega | (simp; done) | (simp; omega)))) | ((with_reducible refine Below.alloc ?_ ?_ _); rotate_left; (focus (first | omega | (simp; done) | (simp; omega)))) | (with_reducible refine Below.drew ?_) | (refine below_on ?_ (by assumption))))
            · exact heap_set_other y0 (by first | (simp; done) | (simp; omega)) _
            · refine (heap_set y1 _ _).trans ?_
              simp [part4]
          case measure => simp [intOf]
        · clear hk hlt h8
          have c0 := cell_at h0
          have c1 := cell_at h1
          have f1 := frozen_at h1
          have hs := lt_of_block h1
          go_upto_region 6 with (fail)
          refine abs_wp (fun W => W.heap[w.heap.size]? = some (.cells #[.int .u64 (dg (a) 0), .int .u64 (dg (a) 1), .int .u64 (dg (a) 2), .int .u64 (dg (a) 3), .int .u64 (dg (a) 4), .int .u64 (dg (a) 5), .int .u64 (dg (a) 6), .int .u64 (dg (a) 7), .int .u64 (dg (a) 8)] 160 (0, 0)) ∧ W.heap[w.heap.size + 1]? = some (.cells #[.int .u64 (part4 (a / 2) 7 0), .int .u64 (part4 (a / 2) 7 1), .int .u64 (part4 (a / 2) 7 2), .int .u64 (part4 (a / 2) 7 3), .int .u64 (part4 (a / 2) 7 4), .int .u64 (part4 (a / 2) 7 5), .int .u64 (part4 (a / 2) 7 6), .int .u64 (dg a 7 / 2), .int .u64 (part4 (a / 2) 7 8)] 160 (0, 0)) ∧ Below w.heap.size w W)
            ⟨heap_set_other h0 (by first | (simp; done) | (simp; omega)) _, (heap_set h1 _ _).trans (by simp [part4]), by focus (repeat (first | (with_reducible exact Below.refl _ _) | (with_reducible assumption) | ((with_reducible refine Below.setCell ?_ ?_ _); rotate_left; (focus (first | omega | (simp; done) | (simp; omega)))) | ((with_reducible refine Below.alloc ?_ ?_ _); rotate_left; (focus (first | omega | (simp; done) | (simp; omega)))) | (with_reducible refine Below.drew ?_) | (refine below_on ?_ (by assumption))))⟩ fun W ⟨y0, y1, hC⟩ => ?_
          clear h0 h1 hB c0 c1 f1 hs
          refine region_mix 9 (by kernel_rfl) (by kernel_rfl) (fun _ _ _ _ h => h) fun X _ mk hmk hcl => ?_
          have c0 := mk_cell hmk y0
          have c1 := mk_cell hmk y1
          simp only [List.take_succ_cons, List.take_zero, List.drop_succ_cons, List.drop_zero]
          repeat (go_big_quiet_step (skip))
          refine wpQuiet_nil ?_
          rintro _ ⟨x, rfl⟩
          clear c0 c1
          have hx := hmk x
          clear hcl hmk
          generalize mk x = W1 at hx
          have y0 := heap_below hx y0
          have y1 := heap_below hx y1
          have hB := below_on hC hx
          have c1 := cell_at y1
          have f1 := frozen_at y1
          have hs := lt_of_block y1
          have hd := HD.out 7
          simp only [Nat.reduceAdd] at hd
          go_wp2
          go_roundw
          case rel =>
            refine ⟨7 + 1, by omega, by go_num, ?_, ?_, ?_⟩
            focus (repeat (first | (with_reducible exact Below.refl _ _) | (with_reducible assumption) | ((with_reducible refine Below.setCell ?_ ?_ _); rotate_left; (focus (first | omega | (simp; done) | (simp; omega)))) | ((with_reducible refine Below.alloc ?_ ?_ _); rotate_left; (focus (first | omega | (simp; done) | (simp; omega)))) | (with_reducible refine Below.drew ?_) | (refine below_on ?_ (by assumption))))
            · exact heap_set_other y0 (by first | (simp; done) | (simp; omega)) _
            · refine (heap_set y1 _ _).trans ?_
              simp [part4]
          case measure => simp [intOf]
    · obtain rfl : k = 9 := by omega
      have c1 := cell_at h1
      have f1 := frozen_at h1
      have hs := lt_of_block h1
      go_wp2
      refine bodyPost_ret (by simp [results, Tryz.results186, go_sem, c1]; rfl) rfl ⟨?_, ?_⟩
      · simp [part4]
      focus (repeat (first | (with_reducible exact Below.refl _ _) | (with_reducible assumption) | ((with_reducible refine Below.setCell ?_ ?_ _); rotate_left; (focus (first | omega | (simp; done) | (simp; omega)))) | ((with_reducible refine Below.alloc ?_ ?_ _); rotate_left; (focus (first | omega | (simp; done) | (simp; omega)))) | (with_reducible refine Below.drew ?_) | (refine below_on ?_ (by assumption))))
end Go.Proofs.YtbhfnfokihdjjaaGreatDoor
