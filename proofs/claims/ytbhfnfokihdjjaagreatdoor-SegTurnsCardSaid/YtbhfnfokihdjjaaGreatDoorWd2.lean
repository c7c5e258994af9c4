/-
  Walks of ratio: the wide product of two Ints. Conditions stand in each theorem.
-/
import Derived.Test.YtbhfnfokihdjjaaGreatDoorLm5
import Derived.Test.YtbhfnfokihdjjaaGreatDoorLm9
namespace Go.Proofs.YtbhfnfokihdjjaaGreatDoor
open Go.RowKit Go.BigFrame

def allD (a b i k : Nat) : Array Value := #[.int .u64 (allT a b i k 0), .int .u64 (allT a b i k 1), .int .u64 (allT a b i k 2), .int .u64 (allT a b i k 3), .int .u64 (allT a b i k 4), .int .u64 (allT a b i k 5), .int .u64 (allT a b i k 6), .int .u64 (allT a b i k 7), .int .u64 (allT a b i k 8)]
theorem allD_at (a b i k j : Nat) (hj : j < 9) : (allD a b i k)[j]? = some (.int .u64 (allT a b i k j)) := by
  obtain rfl | rfl | rfl | rfl | rfl | rfl | rfl | rfl | rfl : j = 0 ∨ j = 1 ∨ j = 2 ∨ j = 3 ∨ j = 4 ∨ j = 5 ∨ j = 6 ∨ j = 7 ∨ j = 8 := by omega
  all_goals rfl
theorem allD_set (a b i k i' k' j : Nat) (hj : j < 9) (h : ∀ m, m < 9 → m ≠ j → allT a b i k m = allT a b i' k' m) : (allD a b i k).setIfInBounds j (.int .u64 (allT a b i' k' j)) = allD a b i' k' := by
  have e0 := h 0 (by omega); have e1 := h 1 (by omega); have e2 := h 2 (by omega); have e3 := h 3 (by omega)
  have e4 := h 4 (by omega); have e5 := h 5 (by omega); have e6 := h 6 (by omega); have e7 := h 7 (by omega); have e8 := h 8 (by omega)
  unfold allD
  obtain rfl | rfl | rfl | rfl | rfl | rfl | rfl | rfl | rfl : j = 0 ∨ j = 1 ∨ j = 2 ∨ j = 3 ∨ j = 4 ∨ j = 5 ∨ j = 6 ∨ j = 7 ∨ j = 8 := by omega
  all_goals simp_all
theorem all_top (a b i : Nat) (hb : b < 2 ^ 256) : allT a b i 4 (i + 4) = 0 := by
  unfold allT
  rw [if_neg (by omega), dg_high (accT_lt a b i hb) (Nat.le_refl _)]
theorem carT_wrap (a b i : Nat) : IntKind.u64.wrap ((carT a b i 4 : Nat) : Int) = (carT a b i 4 : Nat) := by
  have := carT_lt a b i 4
  rw [IntKind.wrap_u64]
  omega
theorem idxArr0 (x0 x1 x2 x3 : Int) (w : World) : (Instr.index 40 (.agg #[.int .u64 x0, .int .u64 x1, .int .u64 x2, .int .u64 x3]) (.int .i64 0)).run Tryz.prog w = .ok (.int .u64 x0) w := by kernel_rfl
theorem idxArr1 (x0 x1 x2 x3 : Int) (w : World) : (Instr.index 40 (.agg #[.int .u64 x0, .int .u64 x1, .int .u64 x2, .int .u64 x3]) (.int .i64 1)).run Tryz.prog w = .ok (.int .u64 x1) w := by kernel_rfl
theorem idxArr2 (x0 x1 x2 x3 : Int) (w : World) : (Instr.index 40 (.agg #[.int .u64 x0, .int .u64 x1, .int .u64 x2, .int .u64 x3]) (.int .i64 2)).run Tryz.prog w = .ok (.int .u64 x2) w := by kernel_rfl
theorem idxArr3 (x0 x1 x2 x3 : Int) (w : World) : (Instr.index 40 (.agg #[.int .u64 x0, .int .u64 x1, .int .u64 x2, .int .u64 x3]) (.int .i64 3)).run Tryz.prog w = .ok (.int .u64 x3) w := by kernel_rfl
theorem idx_arr (a i : Nat) (hi : i < 4) (w : World) : (Instr.index 40 (.agg #[.int .u64 (dg (a) 0), .int .u64 (dg (a) 1), .int .u64 (dg (a) 2), .int .u64 (dg (a) 3)]) (.int .i64 (i : Int))).run Tryz.prog w = .ok (.int .u64 (dg a i)) w := by
  obtain rfl | rfl | rfl | rfl : i = 0 ∨ i = 1 ∨ i = 2 ∨ i = 3 := by omega
  · exact idxArr0 _ _ _ _ w
  · exact idxArr1 _ _ _ _ w
  · exact idxArr2 _ _ _ _ w
  · exact idxArr3 _ _ _ _ w

def ProdInv (s t : Bool) (a b : Nat) (w : World) (i k : Nat) (wr : World) : Prop :=
  Below w.heap.size w wr ∧ wr.heap[w.heap.size]? = some (.cells #[.bool (s), .int .u64 (dg (a) 0), .int .u64 (dg (a) 1), .int .u64 (dg (a) 2), .int .u64 (dg (a) 3)] 42 (0, 0)) ∧ wr.heap[w.heap.size + 1]? = some (.cells #[.bool (t), .int .u64 (dg (b) 0), .int .u64 (dg (b) 1), .int .u64 (dg (b) 2), .int .u64 (dg (b) 3)] 42 (0, 0)) ∧
    wr.heap[w.heap.size + 2]? = some (.cells (allD a b i k) 160 (0, 0))

set_option maxRecDepth 20000 in
set_option maxHeartbeats 1000000 in
theorem product_any (s t : Bool) (a b : Nat) (ha : a < 2 ^ 256) (hb : b < 2 ^ 256) (w : World) :
    Calls Tryz.prog 126 #[.agg #[.bool (s), .int .u64 (dg (a) 0), .int .u64 (dg (a) 1), .int .u64 (dg (a) 2), .int .u64 (dg (a) 3)], .agg #[.bool (t), .int .u64 (dg (b) 0), .int .u64 (dg (b) 1), .int .u64 (dg (b) 2), .int .u64 (dg (b) 3)]] w fun e w' => e = .returned (.agg #[.int .u64 (dg (a * b) 0), .int .u64 (dg (a * b) 1), .int .u64 (dg (a * b) 2), .int .u64 (dg (a * b) 3), .int .u64 (dg (a * b) 4), .int .u64 (dg (a * b) 5), .int .u64 (dg (a * b) 6), .int .u64 (dg (a * b) 7), .int .u64 (dg (a * b) 8)]) ∧ Below w.heap.size w w' := by
  have HA := Hd.mk ha
  have HB := Hd.mk hb
  clear ha hb
  go_enter Tryz.func126, Tryz.ntmps126
  go_wp2
  go_loopw [16] (fun ci wr => ∃ i : Nat, i ≤ 4 ∧ ci = .int .i64 i ∧ ProdInv s t a b w i 0 wr) (fun ci _ => 4 - (intOf ci).toNat)
  case atStart =>
    refine ⟨0, by omega, rfl, ?_, ?_, ?_, ?_⟩
    focus (repeat (first | (with_reducible exact Below.refl _ _) | (with_reducible assumption) | ((with_reducible refine Below.setCell ?_ ?_ _); rotate_left; (focus (first | omega | (simp; done) | (simp; omega)))) | ((with_reducible refine Below.alloc ?_ ?_ _); rotate_left; (focus (first | omega | (simp; done) | (simp; omega)))) | (with_reducible refine Below.drew ?_) | (refine below_on ?_ (by assumption))))
    · exact heap_old (heap_old (heap_new _ _) _) _
    · exact heap_old (heap_at (by simp) _) _
    · refine (heap_at (by simp) _).trans ?_
      simp [allD, all_zero, accT_none, dg_zero]
  case round =>
    obtain ⟨i, hi, rfl, hBo, z0, z1, z3⟩ := hrel
    by_cases hlt : i < 4
    · have hix := fun W => idx_arr a i hlt W
      have HI := Hd.mk hlt
      have hdi : decide ((i : Int) < 4) = true := by simp; omega
      have c1 := cell_at z1
      go_wp2
      go_loopw [7, 22] (fun c ck wr => ∃ k : Nat, k ≤ 4 ∧ ck = .int .i64 k ∧ c = .int .u64 (carT a b i k : Nat) ∧ ProdInv s t a b w i k wr) (fun _ ck _ => 4 - (intOf ck).toNat)
      case atStart => exact ⟨0, by omega, rfl, by rw [car_zeroT]; rfl, hBo, z0, z1, z3⟩
      case round =>
        obtain ⟨k, hk, rfl, rfl, hBw, y0, y1, y3⟩ := hrel
        by_cases hlk : k < 4
        · have hiy := fun W => idx_arr b k hlk W
          obtain ⟨s1, q1, s2, q2, hs1, hs2, HS⟩ := round_sums a b i k
          have hcell : wr.cell? ⟨w.heap.size + 2, i + k, none⟩ = some (.int .u64 (allT a b i k (i + k))) := by
            rw [cell_at y3, allD_at _ _ _ _ _ (by omega)]
          have hf3 := frozen_at y3
          have hs3 := lt_of_block y3
          go_wp2_with (go_at_call 150; refine (mul_dg a i b k _).mono ?_; rintro e w' ⟨rfl, rfl⟩)
          go_roundw
          case rel =>
            refine ⟨k + 1, by omega, by go_num, congrArg (Value.int .u64) HS.out.2, ?_, ?_, ?_, ?_⟩
            focus (repeat (first | (with_reducible exact Below.refl _ _) | (with_reducible assumption) | ((with_reducible refine Below.setCell ?_ ?_ _); rotate_left; (focus (first | omega | (simp; done) | (simp; omega)))) | ((with_reducible refine Below.alloc ?_ ?_ _); rotate_left; (focus (first | omega | (simp; done) | (simp; omega)))) | (with_reducible refine Below.drew ?_) | (refine below_on ?_ (by assumption))))
            · repeat (first | (with_reducible exact y0) | ((with_reducible refine heap_set_other ?_ ?_ _); rotate_left; (focus (first | omega | (simp; done) | (simp; omega)))) | (with_reducible refine heap_old ?_ _))
            · repeat (first | (with_reducible exact y1) | ((with_reducible refine heap_set_other ?_ ?_ _); rotate_left; (focus (first | omega | (simp; done) | (simp; omega)))) | (with_reducible refine heap_old ?_ _))
            · refine (heap_set y3 _ _).trans ?_
              rw [HS.out.1, allD_set a b i k i (k + 1) (i + k) (by omega) (fun m _ hm => all_step a b i k m hm)]
          case measure => simp [intOf]; omega
        · obtain rfl : k = 4 := by omega
          have hcell : wr.cell? ⟨w.heap.size + 2, i + 4, none⟩ = some (.int .u64 0) := by
            rw [cell_at y3, allD_at _ _ _ _ _ (by omega), all_top _ _ _ HB.out]
          have hf3 := frozen_at y3
          have hs3 := lt_of_block y3
          have hwr := carT_wrap a b i
          go_wp2
          go_roundw
          case rel =>
            refine ⟨i + 1, by omega, by go_num, ?_, ?_, ?_, ?_⟩
            focus (repeat (first | (with_reducible exact Below.refl _ _) | (with_reducible assumption) | ((with_reducible refine Below.setCell ?_ ?_ _); rotate_left; (focus (first | omega | (simp; done) | (simp; omega)))) | ((with_reducible refine Below.alloc ?_ ?_ _); rotate_left; (focus (first | omega | (simp; done) | (simp; omega)))) | (with_reducible refine Below.drew ?_) | (refine below_on ?_ (by assumption))))
            · repeat (first | (with_reducible exact y0) | ((with_reducible refine heap_set_other ?_ ?_ _); rotate_left; (focus (first | omega | (simp; done) | (simp; omega)))) | (with_reducible refine heap_old ?_ _))
            · repeat (first | (with_reducible exact y1) | ((with_reducible refine heap_set_other ?_ ?_ _); rotate_left; (focus (first | omega | (simp; done) | (simp; omega)))) | (with_reducible refine heap_old ?_ _))
            · refine (heap_set y3 _ _).trans ?_
              rw [car_end a b i HB.out, allD_set a b i 4 (i + 1) 0 (i + 4) (by omega) (fun m _ hm => all_end a b i m HB.out hm)]
          case measure => first | (simp [intOf]; done) | (simp [intOf]; omega)
    · obtain rfl : i = 4 := by omega
      have hall : ∀ j, allT a b 4 0 j = dg (a * b) j := fun j => by rw [all_zero, accT_full _ _ HA.out]
      have hz3 : wr.heap[w.heap.size + 2]? = some (.cells #[.int .u64 (dg (a * b) 0), .int .u64 (dg (a * b) 1), .int .u64 (dg (a * b) 2), .int .u64 (dg (a * b) 3), .int .u64 (dg (a * b) 4), .int .u64 (dg (a * b) 5), .int .u64 (dg (a * b) 6), .int .u64 (dg (a * b) 7), .int .u64 (dg (a * b) 8)] 160 (0, 0)) := by
        rw [z3]; simp [allD, hall]
      clear z3 hall
      have c3 := cell_at hz3
      have f3 := frozen_at hz3
      have hs3 := lt_of_block hz3
      go_wp2
      refine bodyPost_ret (by simp [results, Tryz.results126, go_sem, c3]) rfl ⟨rfl, ?_⟩
      focus (repeat (first | (with_reducible exact Below.refl _ _) | (with_reducible assumption) | ((with_reducible refine Below.setCell ?_ ?_ _); rotate_left; (focus (first | omega | (simp; done) | (simp; omega)))) | ((with_reducible refine Below.alloc ?_ ?_ _); rotate_left; (focus (first | omega | (simp; done) | (simp; omega)))) | (with_reducible refine Below.drew ?_) | (refine below_on ?_ (by assumption))))
end Go.Proofs.YtbhfnfokihdjjaaGreatDoor
