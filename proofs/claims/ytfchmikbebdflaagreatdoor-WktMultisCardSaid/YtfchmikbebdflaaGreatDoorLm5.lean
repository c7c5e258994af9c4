/-
  Walks of ratio: sums and differences of wide magnitudes. Conditions stand in each theorem.
-/
import Derived.BigQuiet
import Derived.Deep.RegionHeld3
import Derived.Laws.Externs
import Derived.Test.YtfchmikbebdflaaGreatDoorProg
import Derived.Test.YtfchmikbebdflaaGreatDoorBase2
import Derived.Test.YtfchmikbebdflaaGreatDoorBase3
import Derived.Test.YtfchmikbebdflaaGreatDoorWd0
namespace Go.Proofs.YtfchmikbebdflaaGreatDoor
open Go.RowKit Go.BigFrame

theorem cells22 : Tryz.prog.cellsOf 86 = 1 := by kernel_rfl
theorem info22 : ∃ i, Tryz.prog.info? 86 = some i := by
  cases h : Tryz.prog.info? 86 with
  | some i => exact ⟨i, rfl⟩
  | none => exact absurd h (by intro h; have : (Tryz.prog.info? 86).isSome = true := (by kernel_rfl); rw [h] at this; cases this)
@[go_sem] theorem eqMag (w : World) (d : Nat) (a0 a1 a2 a3 b0 b1 b2 b3 : Int) :
    (Op.equalIn (d + 2) 168 (.agg #[.int .u64 a0, .int .u64 a1, .int .u64 a2, .int .u64 a3]) (.agg #[.int .u64 b0, .int .u64 b1, .int .u64 b2, .int .u64 b3])).run Tryz.prog w =
      .ok (a0 == b0 && (a1 == b1 && (a2 == b2 && a3 == b3))) w := by
  obtain ⟨i, hi⟩ := info22
  exact eq_four w d Tryz.underlying168 hi cells22 Tryz.underlying86 _ _ _ _ _ _ _ _
@[go_sem] theorem eqArr (w : World) (d : Nat) (a0 a1 a2 a3 b0 b1 b2 b3 : Int) :
    (Op.equalIn (d + 2) 87 (.agg #[.int .u64 a0, .int .u64 a1, .int .u64 a2, .int .u64 a3]) (.agg #[.int .u64 b0, .int .u64 b1, .int .u64 b2, .int .u64 b3])).run Tryz.prog w =
      .ok (a0 == b0 && (a1 == b1 && (a2 == b2 && a3 == b3))) w := by
  obtain ⟨i, hi⟩ := info22
  exact eq_four w d Tryz.underlying87 hi cells22 Tryz.underlying86 _ _ _ _ _ _ _ _

/-- must, where it is so. -/
theorem must_ok (x : Int) (w : World) :
    Calls Tryz.prog 175 #[.bool true, .int .i64 x] w fun e w' => e = .returned (.tuple #[]) ∧ w' = w := by
  go_enter Tryz.func175, Tryz.ntmps175
  go_wp2
  go_end0
  exact ⟨rfl, rfl⟩
/-- must, where it is not so. -/
theorem must_no (x : Int) (w : World) :
    Calls Tryz.prog 175 #[.bool false, .int .i64 x] w fun e w' => e = .panicked [{ v := .iface 31 (.int .i64 x), recovered := false }] ∧ w' = w := by
  go_enter Tryz.func175, Tryz.ntmps175
  go_wp2
  exact ⟨rfl, rfl, rfl⟩

theorem sub64 (x y b : Nat) (hb : b ≤ 1) (w : World) :
    (callFunc 163 #[.int .u64 x, .int .u64 y, .int .u64 b]).run Tryz.prog w =
      .ok (.value (.tuple #[.int .u64 (((x + 18446744073709551616 - y - b) % 18446744073709551616 : Nat) : Int), .int .u64 ((if x < y + b then 1 else 0 : Nat) : Int)])) w := by
  rw [run_callFunc_extern Tryz.func163 (by kernel_rfl) (by kernel_rfl) (by kernel_rfl) (e := subEntry) (by kernel_rfl), run_sub x y b hb]
  rfl

set_option maxHeartbeats 400000 in
theorem of_any (b : Bool) (n : Nat) (hn : n < 2 ^ 256) (w : World) :
    Calls Tryz.prog 140 #[.bool b, .agg #[.int .u64 (dg (n) 0), .int .u64 (dg (n) 1), .int .u64 (dg (n) 2), .int .u64 (dg (n) 3)]] w fun e w' => e = .returned (.agg #[.bool (b && decide (n ≠ 0)), .int .u64 (dg (n) 0), .int .u64 (dg (n) 1), .int .u64 (dg (n) 2), .int .u64 (dg (n) 3)]) ∧ Below w.heap.size w w' := by
  have hz : (!(dg n 0 == 0 && (dg n 1 == 0 && (dg n 2 == 0 && dg n 3 == 0)))) = decide (n ≠ 0) := by
    rw [Bool.eq_iff_iff]
    simp only [Bool.not_eq_true', Bool.and_eq_false_iff, beq_eq_false_iff_ne, decide_eq_true_eq, ← dg_eq_zero hn, ne_eq, not_and]
    by_cases h0 : dg n 0 = 0 <;> by_cases h1 : dg n 1 = 0 <;> by_cases h2 : dg n 2 = 0 <;> by_cases h3 : dg n 3 = 0 <;> simp [h0, h1, h2, h3]
  have HZ := Hd.mk hz
  clear hz
  cases b
  all_goals
    go_enter Tryz.func140, Tryz.ntmps140
    go_wp2
    refine region_qt 8 (by kernel_rfl) (by kernel_rfl) fun X _ mk hmk hcl => ?_
    have c0 : ∀ x o, (mk x).cell? ⟨w.heap.size, o, none⟩ = _ := fun x o => (hmk x).cell (by simp; omega)
    simp only [List.take_succ_cons, List.take_zero, List.drop_succ_cons, List.drop_zero]
    repeat (go_big_quiet_step (skip))
    refine wpQuiet_nil ?_
    rintro _ ⟨x, rfl⟩
    clear c0
    have hx := hmk x
    clear hcl hmk
    generalize mk x = W1 at hx
    have hc1 : ∀ o, W1.cell? ⟨w.heap.size + 1, o, none⟩ = _ := fun o => hx.cell (by simp)
    have hf1 : ∀ o, W1.frozen? ⟨w.heap.size + 1, o, none⟩ = _ := fun o => hx.frozen (by simp)
    go_wp2
    refine bodyPost_ret (by simp [results, Tryz.results140, go_sem, hc1]; rfl) rfl ⟨?_, ?_⟩
    · rw [← HZ.out]; simp
    focus (repeat (first | (with_reducible exact Below.refl _ _) | (with_reducible assumption) | ((with_reducible refine Below.setCell ?_ ?_ _); rotate_left; (focus (first | omega | (simp; done) | (simp; omega)))) | ((with_reducible refine Below.alloc ?_ ?_ _); rotate_left; (focus (first | omega | (simp; done) | (simp; omega)))) | (with_reducible refine Below.drew ?_) | (refine below_on ?_ (by assumption))))
end Go.Proofs.YtfchmikbebdflaaGreatDoor

namespace Go.Proofs.YtfchmikbebdflaaGreatDoor
open Go.RowKit Go.BigFrame

/-- What the sum's cells hold behind k rounds. -/
def part4 (s k j : Nat) : Int := if j < k then dg s j else 0

def PlusPost (a b : Nat) (w : World) (e : Ending) (w' : World) : Prop :=
  e = (if a + b < 2 ^ 256 then .returned (.agg #[.int .u64 (dg (a + b) 0), .int .u64 (dg (a + b) 1), .int .u64 (dg (a + b) 2), .int .u64 (dg (a + b) 3)]) else .panicked [{ v := .iface 31 (.int .i64 110), recovered := false }]) ∧ Below w.heap.size w w'

end Go.Proofs.YtfchmikbebdflaaGreatDoor

namespace Go.Proofs.YtfchmikbebdflaaGreatDoor
open Go.RowKit Go.BigFrame

theorem less_digit (a b k : Nat) (hb : b < 2 ^ 256) (hk : k < 4) (w : World) : (callFunc 163 #[.int .u64 (dg a k), .int .u64 (dg b k), .int .u64 (bor a b k)]).run Tryz.prog w =
    .ok (.value (.tuple #[.int .u64 (dg (lessN a b) k), .int .u64 (bor a b (k + 1))])) w := by
  have h1 := dg_less a b k hb hk
  have hc := bor_le a b k
  obtain ⟨x, hx⟩ := Int.eq_ofNat_of_zero_le (dg_nonneg a k)
  obtain ⟨y, hy⟩ := Int.eq_ofNat_of_zero_le (dg_nonneg b k)
  obtain ⟨z, hz⟩ := Int.eq_ofNat_of_zero_le (dg_nonneg (lessN a b) k)
  rw [hx, hy, hz] at h1 ⊢
  simp only [Int.toNat_natCast] at h1
  rw [sub64 _ _ _ hc, h1.1, h1.2]

set_option maxHeartbeats 400000 in
theorem less_any (a b : Nat) (hb : b < 2 ^ 256) (w : World) :
    Calls Tryz.prog 139 #[.agg #[.int .u64 (dg (a) 0), .int .u64 (dg (a) 1), .int .u64 (dg (a) 2), .int .u64 (dg (a) 3)], .agg #[.int .u64 (dg (b) 0), .int .u64 (dg (b) 1), .int .u64 (dg (b) 2), .int .u64 (dg (b) 3)]] w fun e w' => e = .returned (.agg #[.int .u64 (dg (lessN a b) 0), .int .u64 (dg (lessN a b) 1), .int .u64 (dg (lessN a b) 2), .int .u64 (dg (lessN a b) 3)]) ∧ Below w.heap.size w w' := by
  have HB := Hd.mk hb
  clear hb
  go_enter Tryz.func139, Tryz.ntmps139
  go_wp2
  go_loopw [5, 6, 7] (fun c _ i wr => ∃ k : Nat, k ≤ 4 ∧ i = .int .i64 k ∧ c = .int .u64 (bor a b k) ∧ Below w.heap.size w wr ∧
      wr.heap[w.heap.size]? = some (.cells #[.int .u64 (dg (a) 0), .int .u64 (dg (a) 1), .int .u64 (dg (a) 2), .int .u64 (dg (a) 3)] 168 (0, 0)) ∧ wr.heap[w.heap.size + 1]? = some (.cells #[.int .u64 (dg (b) 0), .int .u64 (dg (b) 1), .int .u64 (dg (b) 2), .int .u64 (dg (b) 3)] 168 (0, 0)) ∧
      wr.heap[w.heap.size + 2]? = some (.cells #[.int .u64 (part4 (lessN a b) k 0), .int .u64 (part4 (lessN a b) k 1), .int .u64 (part4 (lessN a b) k 2), .int .u64 (part4 (lessN a b) k 3)] 168 (0, 0)))
    (fun _ _ i _ => 4 - (intOf i).toNat)
  case atStart =>
    refine ⟨0, by omega, rfl, by rw [bor_zero]; rfl, ?_, ?_, ?_, ?_⟩
    focus (repeat (first | (with_reducible exact Below.refl _ _) | (with_reducible assumption) | ((with_reducible refine Below.setCell ?_ ?_ _); rotate_left; (focus (first | omega | (simp; done) | (simp; omega)))) | ((with_reducible refine Below.alloc ?_ ?_ _); rotate_left; (focus (first | omega | (simp; done) | (simp; omega)))) | (with_reducible refine Below.drew ?_) | (refine below_on ?_ (by assumption))))
    · exact heap_old (heap_old (heap_new _ _) _) _
    · exact heap_old (heap_at (by simp) _) _
    · exact heap_at (by simp) _
  case round =>
    obtain ⟨k, hk, rfl, rfl, hB, h0, h1, h2⟩ := hrel
    by_cases hlt : k < 4
    · have hadd := fun W => less_digit a b k HB.out hlt W
      obtain rfl | rfl | rfl | rfl : k = 0 ∨ k = 1 ∨ k = 2 ∨ k = 3 := by omega
      all_goals
        clear hk hlt
        go_wp2
        refine region_mix 13 (by kernel_rfl) (by kernel_rfl) (fun _ _ _ _ h => h) fun X _ mk hmk hcl => ?_
        have c0 := mk_cell hmk h0
        have c1 := mk_cell hmk h1
        simp only [List.take_succ_cons, List.take_zero, List.drop_succ_cons, List.drop_zero]
        repeat (go_big_quiet_step (skip))
        refine wpQuiet_nil ?_
        rintro _ ⟨x, rfl⟩
        clear c0 c1
        have hx := hmk x
        clear hcl hmk
        generalize mk x = W1 at hx
        have h0 := heap_below hx h0
        have h1 := heap_below hx h1
        have h2 := heap_below hx h2
        have c2 := cell_at h2
        have f2 := frozen_at h2
        have hs := lt_of_block h2
        go_wp2
        go_roundw
        case rel =>
          refine ⟨_, by omega, by go_num, rfl, ?_, ?_, ?_, ?_⟩
          focus (repeat (first | (with_reducible exact Below.refl _ _) | (with_reducible assumption) | ((with_reducible refine Below.setCell ?_ ?_ _); rotate_left; (focus (first | omega | (simp; done) | (simp; omega)))) | ((with_reducible refine Below.alloc ?_ ?_ _); rotate_left; (focus (first | omega | (simp; done) | (simp; omega)))) | (with_reducible refine Below.drew ?_) | (refine below_on ?_ (by assumption))))
          · exact heap_set_other h0 (by first | (simp; done) | (simp; omega)) _
          · exact heap_set_other h1 (by first | (simp; done) | (simp; omega)) _
          · refine (heap_set h2 _ _).trans ?_
            simp [part4]
        case measure => simp [intOf]
    · obtain rfl : k = 4 := by omega
      have c2 := cell_at h2
      have f2 := frozen_at h2
      have hs := lt_of_block h2
      go_wp2
      refine bodyPost_ret (by simp [results, Tryz.results139, go_sem, c2]; rfl) rfl ⟨?_, ?_⟩
      · simp [part4]
      focus (repeat (first | (with_reducible exact Below.refl _ _) | (with_reducible assumption) | ((with_reducible refine Below.setCell ?_ ?_ _); rotate_left; (focus (first | omega | (simp; done) | (simp; omega)))) | ((with_reducible refine Below.alloc ?_ ?_ _); rotate_left; (focus (first | omega | (simp; done) | (simp; omega)))) | (with_reducible refine Below.drew ?_) | (refine below_on ?_ (by assumption))))

/-! ### cmp.Compare, cmp.Or, first -/
def cmpI (x y : Int) : Int := if x < y then -1 else if x > y then 1 else 0
set_option maxHeartbeats 400000 in
theorem compare_any (x y : Int) (w : World) :
    Calls Tryz.prog 162 #[.int .u64 x, .int .u64 y] w fun e w' => e = .returned (.int .i64 (cmpI x y)) ∧ w = w' := by
  by_cases h1 : x < y
  · have h2 : decide (x < y) = true := by simpa using h1
    have hv : cmpI x y = -1 := by simp [cmpI, h1]
    have HV := Hd.mk hv
    clear hv h1
    go_enter Tryz.func162, Tryz.ntmps162
    go_wp2
    go_ret
    exact ⟨by rw [HV.out]; rfl, rfl⟩
  · by_cases h3 : x > y
    · have h2 : decide (x < y) = false := by simpa using h1
      have h4 : decide (x > y) = true := by simpa using h3
      have hv : cmpI x y = 1 := by simp [cmpI, h1, h3]
      have HV := Hd.mk hv
      clear hv
      go_enter Tryz.func162, Tryz.ntmps162
      go_wp2
      go_ret
      exact ⟨by rw [HV.out]; rfl, rfl⟩
    · have h2 : decide (x < y) = false := by simpa using h1
      have h4 : decide (x > y) = false := by simpa using h3
      have hv : cmpI x y = 0 := by simp [cmpI, h1, h3]
      have HV := Hd.mk hv
      clear hv
      go_enter Tryz.func162, Tryz.ntmps162
      go_wp2
      go_ret
      exact ⟨by rw [HV.out]; rfl, rfl⟩

def orI (x y : Int) : Int := if x = 0 then y else x
set_option maxHeartbeats 400000 in
theorem or_two (b : Nat) (x y : Int) (w : World) (h0 : w.cell? ⟨b, 0, none⟩ = some (.int .i64 x)) (h1 : w.cell? ⟨b, 1, none⟩ = some (.int .i64 y)) :
    Calls Tryz.prog 177 #[.slice (some ⟨b, 0, none⟩) 2 2] w fun e w' => e = .returned (.int .i64 (orI x y)) ∧ w = w' := by
  by_cases hx : x = 0
  · subst hx
    by_cases hy : y = 0
    · subst hy
      go_enter Tryz.func177, Tryz.ntmps177
      go_wp2
      refine wp_loop_rounds 3 ?_
      rw [rounds_succ]
      go_wp2
      rw [rounds_succ]
      go_wp2
      rw [rounds_succ]
      go_wp2
      go_ret
      exact ⟨rfl, rfl⟩
    · have h2 : (y != 0) = true := by simpa using hy
      have h3 : orI 0 y = y := by simp [orI]
      have H3 := Hd.mk h3
      clear h3 hy
      go_enter Tryz.func177, Tryz.ntmps177
      go_wp2
      refine wp_loop_rounds 2 ?_
      rw [rounds_succ]
      go_wp2
      rw [rounds_succ]
      go_wp2
      go_ret
      exact ⟨by rw [H3.out]; rfl, rfl⟩
  · have h2 : (x != 0) = true := by simpa using hx
    have h3 : orI x y = x := by simp [orI, hx]
    have H3 := Hd.mk h3
    clear h3 hx
    go_enter Tryz.func177, Tryz.ntmps177
    go_wp2
    refine wp_loop_rounds 1 ?_
    rw [rounds_succ]
    go_wp2
    go_ret
    exact ⟨by rw [H3.out]; rfl, rfl⟩
theorem first_two (b : Nat) (x y : Int) (w : World) {t : TypeId} {f : Nat × Nat} (h : w.heap[b]? = some (.cells #[.int .i64 x, .int .i64 y] t f)) :
    Calls Tryz.prog 161 #[.slice (some ⟨b, 0, none⟩) 2 2] w fun e w' => e = .returned (.int .i64 (orI x y)) ∧ w = w' := by
  go_enter Tryz.func161, Tryz.ntmps161
  go_wp2_with (go_at_call 177; refine (or_two _ _ _ _ (cell_at h 0) (cell_at h 1)).mono ?_; rintro e w' ⟨rfl, rfl⟩)
  go_ret
  exact ⟨rfl, rfl⟩

/-! ### mags -/
/-- What mags holds behind k rounds. -/
def cmpP (a b k : Nat) : Int := cmpN (a % 2 ^ (64 * k)) (b % 2 ^ (64 * k))
theorem or_cmp (a b k : Nat) : orI (cmpI (dg a k) (dg b k)) (cmpP a b k) = cmpP a b (k + 1) := by
  unfold cmpP
  rw [cmp_step]
  unfold orI cmpI
  by_cases h1 : dg a k < dg b k
  · simp [h1]
  · by_cases h2 : dg a k > dg b k
    · simp [h1, h2]
    · simp [h1, h2]
set_option maxHeartbeats 400000 in
theorem mags_any (a b : Nat) (ha : a < 2 ^ 256) (hb : b < 2 ^ 256) (w : World) :
    Calls Tryz.prog 138 #[.agg #[.int .u64 (dg (a) 0), .int .u64 (dg (a) 1), .int .u64 (dg (a) 2), .int .u64 (dg (a) 3)], .agg #[.int .u64 (dg (b) 0), .int .u64 (dg (b) 1), .int .u64 (dg (b) 2), .int .u64 (dg (b) 3)]] w fun e w' => e = .returned (.int .i64 (cmpN a b)) ∧ Below w.heap.size w w' := by
  have H4 := Hd.mk (cmp_full ha hb)
  clear ha hb
  go_enter Tryz.func138, Tryz.ntmps138
  go_wp2
  go_loopw [4, 5, 6] (fun c _ i wr => ∃ k : Nat, k ≤ 4 ∧ i = .int .i64 k ∧ c = .int .i64 (cmpP a b k) ∧ Below w.heap.size w wr ∧
      wr.heap[w.heap.size]? = some (.cells #[.int .u64 (dg (a) 0), .int .u64 (dg (a) 1), .int .u64 (dg (a) 2), .int .u64 (dg (a) 3)] 168 (0, 0)) ∧ wr.heap[w.heap.size + 1]? = some (.cells #[.int .u64 (dg (b) 0), .int .u64 (dg (b) 1), .int .u64 (dg (b) 2), .int .u64 (dg (b) 3)] 168 (0, 0)))
    (fun _ _ i _ => 4 - (intOf i).toNat)
  case atStart =>
    refine ⟨0, by omega, rfl, by rw [cmpP, cmp_zero], ?_, ?_, ?_⟩
    focus (repeat (first | (with_reducible exact Below.refl _ _) | (with_reducible assumption) | ((with_reducible refine Below.setCell ?_ ?_ _); rotate_left; (focus (first | omega | (simp; done) | (simp; omega)))) | ((with_reducible refine Below.alloc ?_ ?_ _); rotate_left; (focus (first | omega | (simp; done) | (simp; omega)))) | (with_reducible refine Below.drew ?_) | (refine below_on ?_ (by assumption))))
    · exact heap_old (heap_new _ _) _
    · exact heap_at (by simp) _
  case round =>
    obtain ⟨k, hk, rfl, rfl, hB, h0, h1⟩ := hrel
    by_cases hlt : k < 4
    · have HO := Hd.mk (or_cmp a b k)
      obtain rfl | rfl | rfl | rfl : k = 0 ∨ k = 1 ∨ k = 2 ∨ k = 3 := by omega
      all_goals
        clear hk hlt
        go_wp2
        refine region_mix 8 (by kernel_rfl) (by kernel_rfl) (fun _ _ _ _ h => h) fun X _ mk hmk hcl => ?_
        have c0 := mk_cell hmk h0
        have c1 := mk_cell hmk h1
        simp only [List.take_succ_cons, List.take_zero, List.drop_succ_cons, List.drop_zero]
        repeat (go_big_quiet_step ((go_at_call 162; exact (compare_any _ _ _).mono fun e w' ⟨he, hw⟩ => ⟨he, _, hw.symm⟩)))
        refine wpQuiet_nil ?_
        rintro _ ⟨x, rfl⟩
        clear c0 c1
        have hx := hmk x
        clear hcl hmk
        generalize mk x = W1 at hx
        have h0 := heap_below hx h0
        have h1 := heap_below hx h1
        have hs := lt_of_block h1
        go_wp2_with (go_at_call 161; refine (first_two _ _ _ _ (heap_new _ _)).mono ?_; rintro e w' ⟨rfl, rfl⟩)
        go_roundw
        case rel =>
          refine ⟨_, by omega, by go_num, congrArg (Value.int .i64) HO.out, ?_, ?_, ?_⟩
          focus (repeat (first | (with_reducible exact Below.refl _ _) | (with_reducible assumption) | ((with_reducible refine Below.setCell ?_ ?_ _); rotate_left; (focus (first | omega | (simp; done) | (simp; omega)))) | ((with_reducible refine Below.alloc ?_ ?_ _); rotate_left; (focus (first | omega | (simp; done) | (simp; omega)))) | (with_reducible refine Below.drew ?_) | (refine below_on ?_ (by assumption))))
          · exact heap_old h0 _
          · exact heap_old h1 _
        case measure => simp [intOf]
    · obtain rfl : k = 4 := by omega
      go_wp2
      go_ret
      refine ⟨?_, ?_⟩
      · rw [← H4.out]; rfl
      focus (repeat (first | (with_reducible exact Below.refl _ _) | (with_reducible assumption) | ((with_reducible refine Below.setCell ?_ ?_ _); rotate_left; (focus (first | omega | (simp; done) | (simp; omega)))) | ((with_reducible refine Below.alloc ?_ ?_ _); rotate_left; (focus (first | omega | (simp; done) | (simp; omega)))) | (with_reducible refine Below.drew ?_) | (refine below_on ?_ (by assumption))))
end Go.Proofs.YtfchmikbebdflaaGreatDoor

namespace Go.Proofs.YtfchmikbebdflaaGreatDoor
open Go.RowKit Go.BigFrame

@[go_sem] theorem idxMag0 (x0 x1 x2 x3 : Int) (w : World) : (Instr.index 168 (.agg #[.int .u64 x0, .int .u64 x1, .int .u64 x2, .int .u64 x3]) (.int .i64 0)).run Tryz.prog w = .ok (.int .u64 x0) w := by kernel_rfl
@[go_sem] theorem idxMag1 (x0 x1 x2 x3 : Int) (w : World) : (Instr.index 168 (.agg #[.int .u64 x0, .int .u64 x1, .int .u64 x2, .int .u64 x3]) (.int .i64 1)).run Tryz.prog w = .ok (.int .u64 x1) w := by kernel_rfl
@[go_sem] theorem idxMag2 (x0 x1 x2 x3 : Int) (w : World) : (Instr.index 168 (.agg #[.int .u64 x0, .int .u64 x1, .int .u64 x2, .int .u64 x3]) (.int .i64 2)).run Tryz.prog w = .ok (.int .u64 x2) w := by kernel_rfl
@[go_sem] theorem idxMag3 (x0 x1 x2 x3 : Int) (w : World) : (Instr.index 168 (.agg #[.int .u64 x0, .int .u64 x1, .int .u64 x2, .int .u64 x3]) (.int .i64 3)).run Tryz.prog w = .ok (.int .u64 x3) w := by kernel_rfl

theorem or_low (x b : Nat) (hx : 2 * x < 18446744073709551616) (hb : b ≤ 1) : bits .or .u64 ((2 * x : Nat) : Int) (b : Int) = ((2 * x + b : Nat) : Int) := by
  rw [bits_or_u64_nat _ _ hx (by omega)]
  have := Nat.two_pow_add_eq_or_of_lt (i := 1) (b := b) (by omega) x
  rw [Nat.pow_one] at this
  rw [this]
theorem dbl_digit (a c k : Nat) (hc : c ≤ 1) (hk : k < 4) : bits .or .u64 (IntKind.u64.wrap (dg a k * 2)) (ovr a c k : Nat) = dg (dblN a c) k ∧ dg a k / 9223372036854775808 = (ovr a c (k + 1) : Nat) := by
  have h := dg_dbl a c k hk
  have hb := ovr_le hc k (a := a)
  have hx := dg_lt a k
  obtain ⟨x, hx'⟩ := Int.eq_ofNat_of_zero_le (dg_nonneg a k)
  obtain ⟨z, hz⟩ := Int.eq_ofNat_of_zero_le (dg_nonneg (dblN a c) k)
  rw [hx', hz] at h ⊢
  simp only [Int.toNat_natCast] at h
  rw [hx'] at hx
  refine ⟨?_, ?_⟩
  · rw [IntKind.wrap_u64]
    have e : (x : Int) * 2 % 18446744073709551616 = ((2 * (x % 9223372036854775808) : Nat) : Int) := by omega
    rw [e, or_low _ _ (by omega) hb]
    omega
  · omega

set_option maxRecDepth 20000 in
set_option maxHeartbeats 400000 in
theorem doubled_any (a c : Nat) (ha : a < 2 ^ 256) (hc : c ≤ 1) (w : World) :
    Calls Tryz.prog 136 #[.agg #[.int .u64 (dg (a) 0), .int .u64 (dg (a) 1), .int .u64 (dg (a) 2), .int .u64 (dg (a) 3)], .int .u64 c] w fun e w' => e = .returned (.tuple #[.agg #[.int .u64 (dg (dblN a c) 0), .int .u64 (dg (dblN a c) 1), .int .u64 (dg (dblN a c) 2), .int .u64 (dg (dblN a c) 3)], .int .u64 (ovr a c 4 : Nat)]) ∧ Below w.heap.size w w' := by
  have HC := Hd.mk hc
  have HA := Hd.mk ha
  clear hc ha
  go_enter Tryz.func136, Tryz.ntmps136
  go_wp2
  go_loopw [1, 6, 7, 9] (fun o _ _ i wr => ∃ k : Nat, k ≤ 4 ∧ i = .int .i64 k ∧ o = .int .u64 (ovr a c k : Nat) ∧ Below w.heap.size w wr ∧
      wr.heap[w.heap.size + 1]? = some (.cells #[.int .u64 (part4 (dblN a c) k 0), .int .u64 (part4 (dblN a c) k 1), .int .u64 (part4 (dblN a c) k 2), .int .u64 (part4 (dblN a c) k 3)] 168 (0, 0)))
    (fun _ _ _ i _ => 4 - (intOf i).toNat)
  case atStart =>
    refine ⟨0, by omega, rfl, by rw [ovr_zero], ?_, ?_⟩
    focus (repeat (first | (with_reducible exact Below.refl _ _) | (with_reducible assumption) | ((with_reducible refine Below.setCell ?_ ?_ _); rotate_left; (focus (first | omega | (simp; done) | (simp; omega)))) | ((with_reducible refine Below.alloc ?_ ?_ _); rotate_left; (focus (first | omega | (simp; done) | (simp; omega)))) | (with_reducible refine Below.drew ?_) | (refine below_on ?_ (by assumption))))
    · exact heap_at (by simp) _
  case round =>
    obtain ⟨k, hk, rfl, rfl, hB, h1⟩ := hrel
    by_cases hlt : k < 4
    · have HD := Hd.mk (dbl_digit a c k HC.out hlt)
      obtain rfl | rfl | rfl | rfl : k = 0 ∨ k = 1 ∨ k = 2 ∨ k = 3 := by omega
      all_goals
        clear hk hlt
        have c1 := cell_at h1
        have f1 := frozen_at h1
        have hs := lt_of_block h1
        go_wp2
        rw [HD.out.1, HD.out.2]
        go_roundw
        case rel =>
          refine ⟨_, ?_, ?_, rfl, ?_, ?_⟩
          · omega
          · go_num
          focus (repeat (first | (with_reducible exact Below.refl _ _) | (with_reducible assumption) | ((with_reducible refine Below.setCell ?_ ?_ _); rotate_left; (focus (first | omega | (simp; done) | (simp; omega)))) | ((with_reducible refine Below.alloc ?_ ?_ _); rotate_left; (focus (first | omega | (simp; done) | (simp; omega)))) | (with_reducible refine Below.drew ?_) | (refine below_on ?_ (by assumption))))
          · refine (heap_set h1 _ _).trans ?_
            simp [part4]
        case measure => simp [intOf]
    · obtain rfl : k = 4 := by omega
      have c1 := cell_at h1
      have f1 := frozen_at h1
      have hs := lt_of_block h1
      go_wp2
      refine bodyPost_ret (by simp [results, Tryz.results136, go_sem, c1]; rfl) rfl ⟨?_, ?_⟩
      · simp [part4]
      focus (repeat (first | (with_reducible exact Below.refl _ _) | (with_reducible assumption) | ((with_reducible refine Below.setCell ?_ ?_ _); rotate_left; (focus (first | omega | (simp; done) | (simp; omega)))) | ((with_reducible refine Below.alloc ?_ ?_ _); rotate_left; (focus (first | omega | (simp; done) | (simp; omega)))) | (with_reducible refine Below.drew ?_) | (refine below_on ?_ (by assumption))))

theorem and_one (a q r : Nat) : bits .and .u64 (dg a q / 2 ^ r) 1 = (((dg a q).toNat / 2 ^ r % 2 : Nat) : Int) := by
  have hx := dg_lt a q
  obtain ⟨x, hx'⟩ := Int.eq_ofNat_of_zero_le (dg_nonneg a q)
  rw [hx'] at hx ⊢
  have e : (x : Int) / 2 ^ r = ((x / 2 ^ r : Nat) : Int) := by rw [Int.natCast_ediv, Int.natCast_pow]; rfl
  rw [e, Int.toNat_natCast]
  have h1 : x / 2 ^ r ≤ x := Nat.div_le_self _ _
  have := bits_and_u64_nat (x / 2 ^ r) 1 (by omega) (by omega)
  rw [show ((1 : Nat) : Int) = 1 from rfl] at this
  rw [this, Nat.and_one_is_mod]

set_option maxRecDepth 20000 in
set_option maxHeartbeats 400000 in
theorem bit_any (a i : Nat) (hi : i < 256) (w : World) :
    Calls Tryz.prog 137 #[.agg #[.int .u64 (dg (a) 0), .int .u64 (dg (a) 1), .int .u64 (dg (a) 2), .int .u64 (dg (a) 3)], .int .i64 i] w fun e w' => e = .returned (.int .u64 (bitN a i : Nat)) ∧ Below w.heap.size w w' := by
  have hb := bit_dg a i
  have HI := Hd.mk hi
  have h0 : (0 : Int) ≤ i := by omega
  have h1 : (i : Int) < 256 := by omega
  have hm0 : (0 : Int) ≤ (i : Int) % 64 := by omega
  have hm1 : (i : Int) % 64 < 64 := by omega
  obtain hq | hq | hq | hq : (i : Int) / 64 = 0 ∨ (i : Int) / 64 = 1 ∨ (i : Int) / 64 = 2 ∨ (i : Int) / 64 = 3 := by omega
  all_goals
    have HB := Hd.mk hb
    clear hb hi
    go_enter Tryz.func137, Tryz.ntmps137
    go_wp2
    go_ret
    refine ⟨?_, ?_⟩
    · have hqn : i / 64 = Int.toNat ((i : Int) / 64) := by omega
      rw [← HB.out, hqn, hq]
      exact congrArg (fun x => Ending.returned (.int .u64 x)) (and_one _ _ _)
    focus (repeat (first | (with_reducible exact Below.refl _ _) | (with_reducible assumption) | ((with_reducible refine Below.setCell ?_ ?_ _); rotate_left; (focus (first | omega | (simp; done) | (simp; omega)))) | ((with_reducible refine Below.alloc ?_ ?_ _); rotate_left; (focus (first | omega | (simp; done) | (simp; omega)))) | (with_reducible refine Below.drew ?_) | (refine below_on ?_ (by assumption))))
end Go.Proofs.YtfchmikbebdflaaGreatDoor

namespace Go.Proofs.YtfchmikbebdflaaGreatDoor
open Go.RowKit Go.BigFrame

/-- How many bits a number takes. -/
def topN (n : Nat) : Nat := if n = 0 then 0 else n.log2 + 1
theorem topN_zero : topN 0 = 0 := rfl
theorem topN_eq {n k : Nat} (h1 : 2 ^ k ≤ n) (h2 : n < 2 ^ (k + 1)) : topN n = k + 1 := by
  have h0 : n ≠ 0 := by have := Nat.two_pow_pos k; omega
  unfold topN
  rw [if_neg h0, (Nat.log2_eq_iff h0).2 ⟨h1, h2⟩]
theorem topN_spec {n : Nat} (h : n ≠ 0) : 2 ^ (topN n - 1) ≤ n ∧ n < 2 ^ topN n ∧ 1 ≤ topN n := by
  unfold topN
  rw [if_neg h]
  have := (Nat.log2_eq_iff h).1 rfl
  exact ⟨by simpa using this.1, this.2, by omega⟩
theorem topN_lt (n : Nat) : n < 2 ^ topN n := by
  by_cases h : n = 0
  · subst h; exact Nat.two_pow_pos _
  · exact (topN_spec h).2.1
theorem topN_le {n k : Nat} (h : n < 2 ^ k) : topN n ≤ k := by
  by_cases h0 : n = 0
  · subst h0; simp [topN]
  · have h1 := (topN_spec h0).1
    have h2 : 2 ^ (topN n - 1) < 2 ^ k := Nat.lt_of_le_of_lt h1 h
    have h3 := (Nat.pow_lt_pow_iff_right (by decide : 1 < 2)).1 h2
    omega
theorem topN_shift (n k : Nat) (h : 2 ^ k ≤ n) : topN n = k + topN (n / 2 ^ k) := by
  have hp := Nat.two_pow_pos k
  have h0 : n / 2 ^ k ≠ 0 := by
    have := (Nat.le_div_iff_mul_le hp (x := 1) (y := n)).2 (by omega)
    omega
  obtain ⟨h1, h2, h3⟩ := topN_spec h0
  have e : k + topN (n / 2 ^ k) = (k + (topN (n / 2 ^ k) - 1)) + 1 := by omega
  rw [e]
  refine topN_eq ?_ ?_
  · rw [Nat.pow_add, Nat.mul_comm]; exact (Nat.le_div_iff_mul_le hp).1 h1
  · have := (Nat.div_lt_iff_lt_mul hp).1 h2
    rwa [← Nat.pow_add, show topN (n / 2 ^ k) + k = (k + (topN (n / 2 ^ k) - 1)) + 1 by omega] at this

theorem tab_val (t : ByteArray) (h : (List.range 256).all (fun n => decide ((t.data.toList.getD n 0).toNat = topN n)) = true) (n : Nat) (hn : n < 256) (hp : n < t.size) : (t[n]'hp).toNat = topN n := by
  have h1 := of_decide_eq_true (List.all_eq_true.1 h n (List.mem_range.2 hn))
  rw [← h1, List.getD_eq_getElem?_getD, List.getElem?_eq_getElem (by simpa using hp)]
  rfl

theorem len_end (x : Nat) (c : Int) (k m : Nat) (t : ByteArray) (h : (List.range 256).all (fun n => decide ((t.data.toList.getD n 0).toNat = topN n)) = true) (hm : m < 256) (hp : m < t.size)
    (hk : topN x = k + topN m) (hc : c = k) (hk64 : k ≤ 64) : wrap64 (c + wrap64 (t[m]'hp).toNat) = topN x := by
  rw [tab_val t h m hm hp, hk, hc]
  have := topN_le (n := m) (k := 8) (by omega)
  unfold wrap64
  omega

theorem len_end0 (x : Nat) (t : ByteArray) (h : (List.range 256).all (fun n => decide ((t.data.toList.getD n 0).toNat = topN n)) = true) (hm : x < 256) (hp : x < t.size) : wrap64 (wrap64 (t[x]'hp).toNat) = topN x := by
  rw [tab_val t h x hm hp]
  have := topN_le (n := x) (k := 8) (by omega)
  unfold wrap64
  omega
theorem ret_int {k : IntKind} {a b : Int} (h : a = b) : Ending.returned (.int k a) = .returned (.int k b) := by rw [h]
theorem dec_ge {a b : Int} (h : b ≤ a) : decide (a ≥ b) = true := by simp; omega
theorem dec_lt {a b : Int} (h : a < b) : decide (a ≥ b) = false := by simp; omega

set_option maxRecDepth 20000 in
set_option maxHeartbeats 400000 in
theorem len_000 (x : Nat) (g : x < 256) (_g32 : x < 4294967296) (_g16 : x < 65536) (_g8 : x < 256) (w : World) :
    Calls Tryz.prog 121 #[.int .u64 x] w fun e w' => e = .returned (.int .i64 (topN x)) ∧ w = w' := by
  have hx0 : (0 : Int) ≤ x := by omega
  have hl : (x : Int) < 256 := by omega
  have h32 := dec_lt (a := (x : Int)) (b := 4294967296) (by omega)
  have h16 := dec_lt (a := (x : Int)) (b := 65536) (by omega)
  have h8 := dec_lt (a := (x : Int)) (b := 256) (by omega)
  have HT : Hd (topN x = 0 + topN (x)) := ⟨by
    omega⟩
  clear _g32 _g16 _g8
  have HG := Hd.mk g
  clear g
  go_enter Tryz.func121, Tryz.ntmps121
  go_wp2
  go_ret
  refine ⟨?_, rfl⟩
  refine ret_int (len_end0 x _ (by kernel_rfl) HG.out _)
set_option maxRecDepth 20000 in
set_option maxHeartbeats 400000 in
theorem len_001 (x : Nat) (g : x / 256 < 256) (g32 : x < 4294967296) (g16 : x < 65536) (g8 : 256 ≤ x) (w : World) :
    Calls Tryz.prog 121 #[.int .u64 x] w fun e w' => e = .returned (.int .i64 (topN x)) ∧ w = w' := by
  have hx0 : (0 : Int) ≤ x := by omega
  have hl : (x : Int) / 256 < 256 := by omega
  have h32 := dec_lt (a := (x : Int)) (b := 4294967296) (by omega)
  have h16 := dec_lt (a := (x : Int)) (b := 65536) (by omega)
  have h8 := dec_ge (a := (x : Int)) (b := 256) (by omega)
  have HT : Hd (topN x = 8 + topN (x / 256)) := ⟨by
    have e8 := topN_shift (x) 8 (by omega)
    simp only [Nat.reducePow] at e8
    omega⟩
  clear g32 g16 g8
  have HG := Hd.mk g
  clear g
  go_enter Tryz.func121, Tryz.ntmps121
  go_wp2
  go_ret
  refine ⟨?_, rfl⟩
  refine ret_int (len_end x _ 8 _ _ (by kernel_rfl) HG.out _ HT.out rfl (by omega))
set_option maxRecDepth 20000 in
set_option maxHeartbeats 400000 in
theorem len_010 (x : Nat) (g : x / 65536 < 256) (g32 : x < 4294967296) (g16 : 65536 ≤ x) (_g8 : x / 65536 < 256) (w : World) :
    Calls Tryz.prog 121 #[.int .u64 x] w fun e w' => e = .returned (.int .i64 (topN x)) ∧ w = w' := by
  have hx0 : (0 : Int) ≤ x := by omega
  have hl : (x : Int) / 65536 < 256 := by omega
  have h32 := dec_lt (a := (x : Int)) (b := 4294967296) (by omega)
  have h16 := dec_ge (a := (x : Int)) (b := 65536) (by omega)
  have h8 := dec_lt (a := (x : Int) / 65536) (b := 256) (by omega)
  have HT : Hd (topN x = 16 + topN (x / 65536)) := ⟨by
    have e16 := topN_shift (x) 16 (by omega)
    simp only [Nat.reducePow] at e16
    omega⟩
  clear g32 g16 _g8
  have HG := Hd.mk g
  clear g
  go_enter Tryz.func121, Tryz.ntmps121
  go_wp2
  go_ret
  refine ⟨?_, rfl⟩
  refine ret_int (len_end x _ 16 _ _ (by kernel_rfl) HG.out _ HT.out rfl (by omega))
set_option maxRecDepth 20000 in
set_option maxHeartbeats 400000 in
theorem len_011 (x : Nat) (g : x / 65536 / 256 < 256) (g32 : x < 4294967296) (g16 : 65536 ≤ x) (g8 : 256 ≤ x / 65536) (w : World) :
    Calls Tryz.prog 121 #[.int .u64 x] w fun e w' => e = .returned (.int .i64 (topN x)) ∧ w = w' := by
  have hx0 : (0 : Int) ≤ x := by omega
  have hl : (x : Int) / 65536 / 256 < 256 := by omega
  have h32 := dec_lt (a := (x : Int)) (b := 4294967296) (by omega)
  have h16 := dec_ge (a := (x : Int)) (b := 65536) (by omega)
  have h8 := dec_ge (a := (x : Int) / 65536) (b := 256) (by omega)
  have HT : Hd (topN x = 24 + topN (x / 65536 / 256)) := ⟨by
    have e16 := topN_shift (x) 16 (by omega)
    have e8 := topN_shift (x / 65536) 8 (by omega)
    simp only [Nat.reducePow] at e16 e8
    omega⟩
  clear g32 g16 g8
  have HG := Hd.mk g
  clear g
  go_enter Tryz.func121, Tryz.ntmps121
  go_wp2
  go_ret
  refine ⟨?_, rfl⟩
  refine ret_int (len_end x _ 24 _ _ (by kernel_rfl) HG.out _ HT.out rfl (by omega))
set_option maxRecDepth 20000 in
set_option maxHeartbeats 400000 in
theorem len_100 (x : Nat) (g : x / 4294967296 < 256) (g32 : 4294967296 ≤ x) (_g16 : x / 4294967296 < 65536) (_g8 : x / 4294967296 < 256) (w : World) :
    Calls Tryz.prog 121 #[.int .u64 x] w fun e w' => e = .returned (.int .i64 (topN x)) ∧ w = w' := by
  have hx0 : (0 : Int) ≤ x := by omega
  have hl : (x : Int) / 4294967296 < 256 := by omega
  have h32 := dec_ge (a := (x : Int)) (b := 4294967296) (by omega)
  have h16 := dec_lt (a := (x : Int) / 4294967296) (b := 65536) (by omega)
  have h8 := dec_lt (a := (x : Int) / 4294967296) (b := 256) (by omega)
  have HT : Hd (topN x = 32 + topN (x / 4294967296)) := ⟨by
    have e32 := topN_shift (x) 32 (by omega)
    simp only [Nat.reducePow] at e32
    omega⟩
  clear g32 _g16 _g8
  have HG := Hd.mk g
  clear g
  go_enter Tryz.func121, Tryz.ntmps121
  go_wp2
  go_ret
  refine ⟨?_, rfl⟩
  refine ret_int (len_end x _ 32 _ _ (by kernel_rfl) HG.out _ HT.out rfl (by omega))
set_option maxRecDepth 20000 in
set_option maxHeartbeats 400000 in
theorem len_101 (x : Nat) (g : x / 4294967296 / 256 < 256) (g32 : 4294967296 ≤ x) (g16 : x / 4294967296 < 65536) (g8 : 256 ≤ x / 4294967296) (w : World) :
    Calls Tryz.prog 121 #[.int .u64 x] w fun e w' => e = .returned (.int .i64 (topN x)) ∧ w = w' := by
  have hx0 : (0 : Int) ≤ x := by omega
  have hl : (x : Int) / 4294967296 / 256 < 256 := by omega
  have h32 := dec_ge (a := (x : Int)) (b := 4294967296) (by omega)
  have h16 := dec_lt (a := (x : Int) / 4294967296) (b := 65536) (by omega)
  have h8 := dec_ge (a := (x : Int) / 4294967296) (b := 256) (by omega)
  have HT : Hd (topN x = 40 + topN (x / 4294967296 / 256)) := ⟨by
    have e32 := topN_shift (x) 32 (by omega)
    have e8 := topN_shift (x / 4294967296) 8 (by omega)
    simp only [Nat.reducePow] at e32 e8
    omega⟩
  clear g32 g16 g8
  have HG := Hd.mk g
  clear g
  go_enter Tryz.func121, Tryz.ntmps121
  go_wp2
  go_ret
  refine ⟨?_, rfl⟩
  refine ret_int (len_end x _ 40 _ _ (by kernel_rfl) HG.out _ HT.out rfl (by omega))
set_option maxRecDepth 20000 in
set_option maxHeartbeats 400000 in
theorem len_110 (x : Nat) (g : x / 4294967296 / 65536 < 256) (g32 : 4294967296 ≤ x) (g16 : 65536 ≤ x / 4294967296) (_g8 : x / 4294967296 / 65536 < 256) (w : World) :
    Calls Tryz.prog 121 #[.int .u64 x] w fun e w' => e = .returned (.int .i64 (topN x)) ∧ w = w' := by
  have hx0 : (0 : Int) ≤ x := by omega
  have hl : (x : Int) / 4294967296 / 65536 < 256 := by omega
  have h32 := dec_ge (a := (x : Int)) (b := 4294967296) (by omega)
  have h16 := dec_ge (a := (x : Int) / 4294967296) (b := 65536) (by omega)
  have h8 := dec_lt (a := (x : Int) / 4294967296 / 65536) (b := 256) (by omega)
  have HT : Hd (topN x = 48 + topN (x / 4294967296 / 65536)) := ⟨by
    have e32 := topN_shift (x) 32 (by omega)
    have e16 := topN_shift (x / 4294967296) 16 (by omega)
    simp only [Nat.reducePow] at e32 e16
    omega⟩
  clear g32 g16 _g8
  have HG := Hd.mk g
  clear g
  go_enter Tryz.func121, Tryz.ntmps121
  go_wp2
  go_ret
  refine ⟨?_, rfl⟩
  refine ret_int (len_end x _ 48 _ _ (by kernel_rfl) HG.out _ HT.out rfl (by omega))
set_option maxRecDepth 20000 in
set_option maxHeartbeats 400000 in
theorem len_111 (x : Nat) (g : x / 4294967296 / 65536 / 256 < 256) (g32 : 4294967296 ≤ x) (g16 : 65536 ≤ x / 4294967296) (g8 : 256 ≤ x / 4294967296 / 65536) (w : World) :
    Calls Tryz.prog 121 #[.int .u64 x] w fun e w' => e = .returned (.int .i64 (topN x)) ∧ w = w' := by
  have hx0 : (0 : Int) ≤ x := by omega
  have hl : (x : Int) / 4294967296 / 65536 / 256 < 256 := by omega
  have h32 := dec_ge (a := (x : Int)) (b := 4294967296) (by omega)
  have h16 := dec_ge (a := (x : Int) / 4294967296) (b := 65536) (by omega)
  have h8 := dec_ge (a := (x : Int) / 4294967296 / 65536) (b := 256) (by omega)
  have HT : Hd (topN x = 56 + topN (x / 4294967296 / 65536 / 256)) := ⟨by
    have e32 := topN_shift (x) 32 (by omega)
    have e16 := topN_shift (x / 4294967296) 16 (by omega)
    have e8 := topN_shift (x / 4294967296 / 65536) 8 (by omega)
    simp only [Nat.reducePow] at e32 e16 e8
    omega⟩
  clear g32 g16 g8
  have HG := Hd.mk g
  clear g
  go_enter Tryz.func121, Tryz.ntmps121
  go_wp2
  go_ret
  refine ⟨?_, rfl⟩
  refine ret_int (len_end x _ 56 _ _ (by kernel_rfl) HG.out _ HT.out rfl (by omega))
theorem len_any (x : Nat) (h : x < 18446744073709551616) (w : World) :
    Calls Tryz.prog 121 #[.int .u64 x] w fun e w' => e = .returned (.int .i64 (topN x)) ∧ w = w' := by
  by_cases c0 : x < 4294967296
  · by_cases c1 : x < 65536
    · by_cases c2 : x < 256
      · exact len_000 x (by omega) (by omega) (by omega) (by omega) w
      · exact len_001 x (by omega) (by omega) (by omega) (by omega) w
    · by_cases c2 : x / 65536 < 256
      · exact len_010 x (by omega) (by omega) (by omega) (by omega) w
      · exact len_011 x (by omega) (by omega) (by omega) (by omega) w
  · by_cases c1 : x / 4294967296 < 65536
    · by_cases c2 : x / 4294967296 < 256
      · exact len_100 x (by omega) (by omega) (by omega) (by omega) w
      · exact len_101 x (by omega) (by omega) (by omega) (by omega) w
    · by_cases c2 : x / 4294967296 / 65536 < 256
      · exact len_110 x (by omega) (by omega) (by omega) (by omega) w
      · exact len_111 x (by omega) (by omega) (by omega) (by omega) w
end Go.Proofs.YtfchmikbebdflaaGreatDoor

namespace Go.Proofs.YtfchmikbebdflaaGreatDoor
open Go.RowKit Go.BigFrame

theorem lessW_digit (a b k : Nat) (hb : b < 2 ^ (64 * 9)) (hk : k < 9) (w : World) : (callFunc 163 #[.int .u64 (dg a k), .int .u64 (dg b k), .int .u64 (bor a b k)]).run Tryz.prog w =
    .ok (.value (.tuple #[.int .u64 (dg (a + 2 ^ (64 * 9) - b) k), .int .u64 (bor a b (k + 1))])) w := by
  have h1 := dg_lessW 9 a b k hb hk
  have hc := bor_le a b k
  obtain ⟨x, hx⟩ := Int.eq_ofNat_of_zero_le (dg_nonneg a k)
  obtain ⟨y, hy⟩ := Int.eq_ofNat_of_zero_le (dg_nonneg b k)
  obtain ⟨z, hz⟩ := Int.eq_ofNat_of_zero_le (dg_nonneg (a + 2 ^ (64 * 9) - b) k)
  rw [hx, hy, hz] at h1 ⊢
  simp only [Int.toNat_natCast] at h1
  rw [sub64 _ _ _ hc, h1.1, h1.2]

end Go.Proofs.YtfchmikbebdflaaGreatDoor
