/-
  Walks: differences of magnitudes, their order, doubles, bits. Conditions stand in each theorem.
-/
import Derived.Test.YtfchmikbebdflaaGreatDoorLm2
import Derived.Test.YtfchmikbebdflaaGreatDoorLm2b
namespace Go.Proofs.YtfchmikbebdflaaGreatDoor
open Go.RowKit Go.BigFrame

theorem less_digit (a b k : Nat) (hb : b < 2 ^ 256) (hk : k < 4) (w : World) : (callFunc 163 #[.int .u64 (dg a k), .int .u64 (dg b k), .int .u64 (bor a b k)]).run Tryz.prog w =
    .ok (.value (.tuple #[.int .u64 (dg (lessN a b) k), .int .u64 (bor a b (k + 1))])) w := by
  have h1 := dg_less a b k hb hk
  have hc := bor_le a b k
  obtain ⟨x, hx⟩ := Int.eq_ofNat_of_zero_le (dg_nonneg a k)
  obtain ⟨y, hy⟩ := Int.eq_ofNat_of_zero_le (dg_nonneg b k)
  obtain ⟨z, hz⟩ := Int.eq_ofNat_of_zero_le (dg_nonneg (lessN a b) k)
  rw [hx, hy, hz] at h1 ⊢
  simp only [Int.toNat_natCast] at h1
  rw [sub64 _ _ _ hc, h1.1, h1.2]

set_option maxHeartbeats 400000 in
theorem less_any (a b : Nat) (hb : b < 2 ^ 256) (w : World) :
    Calls Tryz.prog 139 #[.agg #[.int .u64 (dg (a) 0), .int .u64 (dg (a) 1), .int .u64 (dg (a) 2), .int .u64 (dg (a) 3)], .agg #[.int .u64 (dg (b) 0), .int .u64 (dg (b) 1), .int .u64 (dg (b) 2), .int .u64 (dg (b) 3)]] w fun e w' => e = .returned (.agg #[.int .u64 (dg (lessN a b) 0), .int .u64 (dg (lessN a b) 1), .int .u64 (dg (lessN a b) 2), .int .u64 (dg (lessN a b) 3)]) ∧ Below w.heap.size w w' := by
  have HB := Hd.mk hb
  clear hb
  go_enter Tryz.func139, Tryz.ntmps139
  go_wp2
  go_loopw [5, 6, 7] (fun c _ i wr => ∃ k : Nat, k ≤ 4 ∧ i = .int .i64 k ∧ c = .int .u64 (bor a b k) ∧ Below w.heap.size w wr ∧
      wr.heap[w.heap.size]? = some (.cells #[.int .u64 (dg (a) 0), .int .u64 (dg (a) 1), .int .u64 (dg (a) 2), .int .u64 (dg (a) 3)] 168 (0, 0)) ∧ wr.heap[w.heap.size + 1]? = some (.cells #[.int .u64 (dg (b) 0), .int .u64 (dg (b) 1), .int .u64 (dg (b) 2), .int .u64 (dg (b) 3)] 168 (0, 0)) ∧
      wr.heap[w.heap.size + 2]? = some (.cells #[.int .u64 (part4 (lessN a b) k 0), .int .u64 (part4 (lessN a b) k 1), .int .u64 (part4 (lessN a b) k 2), .int .u64 (part4 (lessN a b) k 3)] 168 (0, 0)))
    (fun _ _ i _ => 4 - (intOf i).toNat)
  case atStart =>
    refine ⟨0, by omega, rfl, by rw [bor_zero]; rfl, ?_, ?_, ?_, ?_⟩
    focus (repeat (first | (with_reducible exact Below.refl _ _) | (with_reducible assumption) | ((with_reducible refine Below.setCell ?_ ?_ _); rotate_left; (focus (first | omega | (simp; done) | (simp; omega)))) | ((with_reducible refine Below.alloc ?_ ?_ _); rotate_left; (focus (first | omega | (simp; done) | (simp; omega)))) | (with_reducible refine Below.drew ?_) | (refine below_on ?_ (by assumption))))
    · exact heap_old (heap_old (heap_new _ _) _) _
    · exact heap_old (heap_at (by simp) _) _
    · exact heap_at (by simp) _
  case round =>
    obtain ⟨k, hk, rfl, rfl, hB, h0, h1, h2⟩ := hrel
    by_cases hlt : k < 4
    · have hadd := fun W => less_digit a b k HB.out hlt W
      obtain rfl | rfl | rfl | rfl : k = 0 ∨ k = 1 ∨ k = 2 ∨ k = 3 := by omega
      all_goals
        clear hk hlt
        go_wp2
        refine region_mix 13 (by kernel_rfl) (by kernel_rfl) (fun _ _ _ _ h => h) fun X _ mk hmk hcl => ?_
        have c0 := mk_cell hmk h0
        have c1 := mk_cell hmk h1
        simp only [List.take_succ_cons, List.take_zero, List.drop_succ_cons, List.drop_zero]
        repeat (go_big_quiet_step (skip))
        refine wpQuiet_nil ?_
        rintro _ ⟨x, rfl⟩
        clear c0 c1
        have hx := hmk x
        clear hcl hmk
        generalize mk x = W1 at hx
        have h0 := heap_below hx h0
        have h1 := heap_below hx h1
        have h2 := heap_below hx h2
        have c2 := cell_at h2
        have f2 := frozen_at h2
        have hs := lt_of_block h2
        go_wp2
        go_roundw
        case rel =>
          refine ⟨_, by omega, by go_num, rfl, ?_, ?_, ?_, ?_⟩
          focus (repeat (first | (with_reducible exact Below.refl _ _) | (with_reducible assumption) | ((with_reducible refine Below.setCell ?_ ?_ _); rotate_left; (focus (first | omega | (simp; done) | (simp; omega)))) | ((with_reducible refine Below.alloc ?_ ?_ _); rotate_left; (focus (first | omega | (simp; done) | (simp; omega)))) | (with_reducible refine Below.drew ?_) | (refine below_on ?_ (by assumption))))
          · exact heap_set_other h0 (by first | (simp; done) | (simp; omega)) _
          · exact heap_set_other h1 (by first | (simp; done) | (simp; omega)) _
          · refine (heap_set h2 _ _).trans ?_
            simp [part4]
        case measure => simp [intOf]
    · obtain rfl : k = 4 := by omega
      have c2 := cell_at h2
      have f2 := frozen_at h2
      have hs := lt_of_block h2
      go_wp2
      refine bodyPost_ret (by simp [results, Tryz.results139, go_sem, c2]; rfl) rfl ⟨?_, ?_⟩
      · simp [part4]
      focus (repeat (first | (with_reducible exact Below.refl _ _) | (with_reducible assumption) | ((with_reducible refine Below.setCell ?_ ?_ _); rotate_left; (focus (first | omega | (simp; done) | (simp; omega)))) | ((with_reducible refine Below.alloc ?_ ?_ _); rotate_left; (focus (first | omega | (simp; done) | (simp; omega)))) | (with_reducible refine Below.drew ?_) | (refine below_on ?_ (by assumption))))

/-! ### cmp.Compare, cmp.Or, first -/
def cmpI (x y : Int) : Int := if x < y then -1 else if x > y then 1 else 0
set_option maxHeartbeats 400000 in
theorem compare_any (x y : Int) (w : World) :
    Calls Tryz.prog 162 #[.int .u64 x, .int .u64 y] w fun e w' => e = .returned (.int .i64 (cmpI x y)) ∧ w = w' := by
  by_cases h1 : x < y
  · have h2 : decide (x < y) = true := by simpa using h1
    have hv : cmpI x y = -1 := by simp [cmpI, h1]
    have HV := Hd.mk hv
    clear hv h1
    go_enter Tryz.func162, Tryz.ntmps162
    go_wp2
    go_ret
    exact ⟨by rw [HV.out]; rfl, rfl⟩
  · by_cases h3 : x > y
    · have h2 : decide (x < y) = false := by simpa using h1
      have h4 : decide (x > y) = true := by simpa using h3
      have hv : cmpI x y = 1 := by simp [cmpI, h1, h3]
      have HV := Hd.mk hv
      clear hv
      go_enter Tryz.func162, Tryz.ntmps162
      go_wp2
      go_ret
      exact ⟨by rw [HV.out]; rfl, rfl⟩
    · have h2 : decide (x < y) = false := by simpa using h1
      have h4 : decide (x > y) = false := by simpa using h3
      have hv : cmpI x y = 0 := by simp [cmpI, h1, h3]
      have HV := Hd.mk hv
      clear hv
      go_enter Tryz.func162, Tryz.ntmps162
      go_wp2
      go_ret
      exact ⟨by rw [HV.out]; rfl, rfl⟩

def orI (x y : Int) : Int := if x = 0 then y else x
set_option maxHeartbeats 400000 in
theorem or_two (b : Nat) (x y : Int) (w : World) (h0 : w.cell? ⟨b, 0, none⟩ = some (.int .i64 x)) (h1 : w.cell? ⟨b, 1, none⟩ = some (.int .i64 y)) :
    Calls Tryz.prog 177 #[.slice (some ⟨b, 0, none⟩) 2 2] w fun e w' => e = .returned (.int .i64 (orI x y)) ∧ w = w' := by
  by_cases hx : x = 0
  · subst hx
    by_cases hy : y = 0
    · subst hy
      go_enter Tryz.func177, Tryz.ntmps177
      go_wp2
      refine wp_loop_rounds 3 ?_
      rw [rounds_succ]
      go_wp2
      rw [rounds_succ]
      go_wp2
      rw [rounds_succ]
      go_wp2
      go_ret
      exact ⟨rfl, rfl⟩
    · have h2 : (y != 0) = true := by simpa using hy
      have h3 : orI 0 y = y := by simp [orI]
      have H3 := Hd.mk h3
      clear h3 hy
      go_enter Tryz.func177, Tryz.ntmps177
      go_wp2
      refine wp_loop_rounds 2 ?_
      rw [rounds_succ]
      go_wp2
      rw [rounds_succ]
      go_wp2
      go_ret
      exact ⟨by rw [H3.out]; rfl, rfl⟩
  · have h2 : (x != 0) = true := by simpa using hx
    have h3 : orI x y = x := by simp [orI, hx]
    have H3 := Hd.mk h3
    clear h3 hx
    go_enter Tryz.func177, Tryz.ntmps177
    go_wp2
    refine wp_loop_rounds 1 ?_
    rw [rounds_succ]
    go_wp2
    go_ret
    exact ⟨by rw [H3.out]; rfl, rfl⟩
theorem first_two (b : Nat) (x y : Int) (w : World) {t : TypeId} {f : Nat × Nat} (h : w.heap[b]? = some (.cells #[.int .i64 x, .int .i64 y] t f)) :
    Calls Tryz.prog 161 #[.slice (some ⟨b, 0, none⟩) 2 2] w fun e w' => e = .returned (.int .i64 (orI x y)) ∧ w = w' := by
  go_enter Tryz.func161, Tryz.ntmps161
  go_wp2_with (go_at_call 177; refine (or_two _ _ _ _ (cell_at h 0) (cell_at h 1)).mono ?_; rintro e w' ⟨rfl, rfl⟩)
  go_ret
  exact ⟨rfl, rfl⟩

/-! ### mags -/
/-- What mags holds behind k rounds. -/
def cmpP (a b k : Nat) : Int := cmpN (a % 2 ^ (64 * k)) (b % 2 ^ (64 * k))
theorem or_cmp (a b k : Nat) : orI (cmpI (dg a k) (dg b k)) (cmpP a b k) = cmpP a b (k + 1) := by
  unfold cmpP
  rw [cmp_step]
  unfold orI cmpI
  by_cases h1 : dg a k < dg b k
  · simp [h1]
  · by_cases h2 : dg a k > dg b k
    · simp [h1, h2]
    · simp [h1, h2]
set_option maxHeartbeats 400000 in
theorem mags_any (a b : Nat) (ha : a < 2 ^ 256) (hb : b < 2 ^ 256) (w : World) :
    Calls Tryz.prog 138 #[.agg #[.int .u64 (dg (a) 0), .int .u64 (dg (a) 1), .int .u64 (dg (a) 2), .int .u64 (dg (a) 3)], .agg #[.int .u64 (dg (b) 0), .int .u64 (dg (b) 1), .int .u64 (dg (b) 2), .int .u64 (dg (b) 3)]] w fun e w' => e = .returned (.int .i64 (cmpN a b)) ∧ Below w.heap.size w w' := by
  have H4 := Hd.mk (cmp_full ha hb)
  clear ha hb
  go_enter Tryz.func138, Tryz.ntmps138
  go_wp2
  go_loopw [4, 5, 6] (fun c _ i wr => ∃ k : Nat, k ≤ 4 ∧ i = .int .i64 k ∧ c = .int .i64 (cmpP a b k) ∧ Below w.heap.size w wr ∧
      wr.heap[w.heap.size]? = some (.cells #[.int .u64 (dg (a) 0), .int .u64 (dg (a) 1), .int .u64 (dg (a) 2), .int .u64 (dg (a) 3)] 168 (0, 0)) ∧ wr.heap[w.heap.size + 1]? = some (.cells #[.int .u64 (dg (b) 0), .int .u64 (dg (b) 1), .int .u64 (dg (b) 2), .int .u64 (dg (b) 3)] 168 (0, 0)))
    (fun _ _ i _ => 4 - (intOf i).toNat)
  case atStart =>
    refine ⟨0, by omega, rfl, by rw [cmpP, cmp_zero], ?_, ?_, ?_⟩
    focus (repeat (first | (with_reducible exact Below.refl _ _) | (with_reducible assumption) | ((with_reducible refine Below.setCell ?_ ?_ _); rotate_left; (focus (first | omega | (simp; done) | (simp; omega)))) | ((with_reducible refine Below.alloc ?_ ?_ _); rotate_left; (focus (first | omega | (simp; done) | (simp; omega)))) | (with_reducible refine Below.drew ?_) | (refine below_on ?_ (by assumption))))
    · exact heap_old (heap_new _ _) _
    · exact heap_at (by simp) _
  case round =>
    obtain ⟨k, hk, rfl, rfl, hB, h0, h1⟩ := hrel
    by_cases hlt : k < 4
    · have HO := Hd.mk (or_cmp a b k)
      obtain rfl | rfl | rfl | rfl : k = 0 ∨ k = 1 ∨ k = 2 ∨ k = 3 := by omega
      all_goals
        clear hk hlt
        go_wp2
        refine region_mix 8 (by kernel_rfl) (by kernel_rfl) (fun _ _ _ _ h => h) fun X _ mk hmk hcl => ?_
        have c0 := mk_cell hmk h0
        have c1 := mk_cell hmk h1
        simp only [List.take_succ_cons, List.take_zero, List.drop_succ_cons, List.drop_zero]
        repeat (go_big_quiet_step ((go_at_call 162; exact (compare_any _ _ _).mono fun e w' ⟨he, hw⟩ => ⟨he, _, hw.symm⟩)))
        refine wpQuiet_nil ?_
        rintro _ ⟨x, rfl⟩
        clear c0 c1
        have hx := hmk x
        clear hcl hmk
        generalize mk x = W1 at hx
        have h0 := heap_below hx h0
        have h1 := heap_below hx h1
        have hs := lt_of_block h1
        go_wp2_with (go_at_call 161; refine (first_two _ _ _ _ (heap_new _ _)).mono ?_; rintro e w' ⟨rfl, rfl⟩)
        go_roundw
        case rel =>
          refine ⟨_, by omega, by go_num, congrArg (Value.int .i64) HO.out, ?_, ?_, ?_⟩
          focus (repeat (first | (with_reducible exact Below.refl _ _) | (with_reducible assumption) | ((with_reducible refine Below.setCell ?_ ?_ _); rotate_left; (focus (first | omega | (simp; done) | (simp; omega)))) | ((with_reducible refine Below.alloc ?_ ?_ _); rotate_left; (focus (first | omega | (simp; done) | (simp; omega)))) | (with_reducible refine Below.drew ?_) | (refine below_on ?_ (by assumption))))
          · exact heap_old h0 _
          · exact heap_old h1 _
        case measure => simp [intOf]
    · obtain rfl : k = 4 := by omega
      go_wp2
      go_ret
      refine ⟨?_, ?_⟩
      · rw [← H4.out]; rfl
      focus (repeat (first | (with_reducible exact Below.refl _ _) | (with_reducible assumption) | ((with_reducible refine Below.setCell ?_ ?_ _); rotate_left; (focus (first | omega | (simp; done) | (simp; omega)))) | ((with_reducible refine Below.alloc ?_ ?_ _); rotate_left; (focus (first | omega | (simp; done) | (simp; omega)))) | (with_reducible refine Below.drew ?_) | (refine below_on ?_ (by assumption))))
end Go.Proofs.YtfchmikbebdflaaGreatDoor
