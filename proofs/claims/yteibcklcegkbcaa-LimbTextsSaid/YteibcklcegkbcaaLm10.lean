/-
  Walks over Ints by their value: Check, of, sum. Conditions stand in each theorem.
-/
import Derived.Test.YteibcklcegkbcaaLm9
import Derived.Test.YteibcklcegkbcaaBase4
namespace Go.Proofs.Yteibcklcegkbcaa
open Go.RowKit Go.BigFrame

/-- The sign and the magnitude of a number. -/
def ng (z : Int) : Bool := decide (z < 0)
def ab (z : Int) : Nat := z.natAbs
theorem ng_nat (n : Nat) : ng (n : Int) = false := by unfold ng; simp
theorem ab_nat (n : Nat) : ab (n : Int) = n := by unfold ab; simp
theorem ng_neg (n : Nat) : ng (-(n : Int)) = decide (n ≠ 0) := by unfold ng; rw [Bool.eq_iff_iff]; simp; omega
theorem ab_neg (n : Nat) : ab (-(n : Int)) = n := by unfold ab; simp
theorem ng_zero_iff (z : Int) : ng z = true → ab z ≠ 0 := by unfold ng ab; simp; omega
/-- The number of a sign and a magnitude. -/
def zof (b : Bool) (n : Nat) : Int := if b then -(n : Int) else n
theorem zof_ng_ab (z : Int) : zof (ng z) (ab z) = z := by unfold zof ng ab; by_cases h : z < 0 <;> simp [h] <;> omega
theorem ng_zof (b : Bool) (n : Nat) : ng (zof b n) = (b && decide (n ≠ 0)) := by cases b <;> simp [zof, ng_nat, ng_neg]
theorem ab_zof (b : Bool) (n : Nat) : ab (zof b n) = n := by cases b <;> simp [zof, ab_nat, ab_neg]

/-- 'of', by value. -/
theorem of_z (b : Bool) (n : Nat) (hn : n < 2 ^ 256) (w : World) :
    Calls Try.prog 48 #[.bool b, .agg #[.int .u64 (dg (n) 0), .int .u64 (dg (n) 1), .int .u64 (dg (n) 2), .int .u64 (dg (n) 3)]] w fun e w' => e = .returned (.agg #[.bool (ng (zof b n)), .int .u64 (dg (ab (zof b n)) 0), .int .u64 (dg (ab (zof b n)) 1), .int .u64 (dg (ab (zof b n)) 2), .int .u64 (dg (ab (zof b n)) 3)]) ∧ Below w.heap.size w w' := by
  have h := of_any b n hn w
  rw [ng_zof, ab_zof]
  exact h

theorem mag_zero {n : Nat} (hn : n < 2 ^ 256) : (dg n 0 == 0 && (dg n 1 == 0 && (dg n 2 == 0 && dg n 3 == 0))) = decide (n = 0) := by
  rw [Bool.eq_iff_iff]
  simp only [Bool.and_eq_true, beq_iff_eq, decide_eq_true_eq]
  exact dg_eq_zero hn

set_option maxHeartbeats 400000 in
theorem check_ok (z : Int) (hz : ab z < 2 ^ 256) (w : World) :
    Calls Try.prog 35 #[.agg #[.bool (ng (z)), .int .u64 (dg (ab (z)) 0), .int .u64 (dg (ab (z)) 1), .int .u64 (dg (ab (z)) 2), .int .u64 (dg (ab (z)) 3)]] w fun e w' => e = .returned (.int .i64 0) ∧ Below w.heap.size w w' := by
  have h1 := mag_zero hz
  have h2 := ng_zero_iff z
  clear hz
  cases hs : ng z
  · clear h1 h2 hs
    go_enter Try.func35, Try.ntmps35
    go_wp2
    go_ret
    refine ⟨rfl, ?_⟩
    focus (repeat (first | (with_reducible exact Below.refl _ _) | (with_reducible assumption) | ((with_reducible refine Below.setCell ?_ ?_ _); rotate_left; (focus (first | omega | (simp; done) | (simp; omega)))) | ((with_reducible refine Below.alloc ?_ ?_ _); rotate_left; (focus (first | omega | (simp; done) | (simp; omega)))) | (with_reducible refine Below.drew ?_) | (refine below_on ?_ (by assumption))))
  · have h3 : (dg (ab z) 0 == 0 && (dg (ab z) 1 == 0 && (dg (ab z) 2 == 0 && dg (ab z) 3 == 0))) = false := by rw [h1]; simpa using h2 hs
    clear h1 h2 hs
    go_enter Try.func35, Try.ntmps35
    go_wp2
    go_ret
    refine ⟨rfl, ?_⟩
    focus (repeat (first | (with_reducible exact Below.refl _ _) | (with_reducible assumption) | ((with_reducible refine Below.setCell ?_ ?_ _); rotate_left; (focus (first | omega | (simp; done) | (simp; omega)))) | ((with_reducible refine Below.alloc ?_ ?_ _); rotate_left; (focus (first | omega | (simp; done) | (simp; omega)))) | (with_reducible refine Below.drew ?_) | (refine below_on ?_ (by assumption))))
set_option maxHeartbeats 400000 in
theorem check_bad (w : World) :
    Calls Try.prog 35 #[.agg #[.bool (true), .int .u64 (dg (0) 0), .int .u64 (dg (0) 1), .int .u64 (dg (0) 2), .int .u64 (dg (0) 3)]] w fun e w' => e = .returned (.int .i64 2) ∧ Below w.heap.size w w' := by
  simp only [dg_zero]
  go_enter Try.func35, Try.ntmps35
  go_wp2
  go_ret
  refine ⟨rfl, ?_⟩
  focus (repeat (first | (with_reducible exact Below.refl _ _) | (with_reducible assumption) | ((with_reducible refine Below.setCell ?_ ?_ _); rotate_left; (focus (first | omega | (simp; done) | (simp; omega)))) | ((with_reducible refine Below.alloc ?_ ?_ _); rotate_left; (focus (first | omega | (simp; done) | (simp; omega)))) | (with_reducible refine Below.drew ?_) | (refine below_on ?_ (by assumption))))

def SumPost (x y : Int) (w : World) (e : Ending) (w' : World) : Prop :=
  e = (if ab (x + y) < 2 ^ 256 then .returned (.agg #[.bool (ng (x + y)), .int .u64 (dg (ab (x + y)) 0), .int .u64 (dg (ab (x + y)) 1), .int .u64 (dg (ab (x + y)) 2), .int .u64 (dg (ab (x + y)) 3)]) else .panicked [{ v := .iface 26 (.int .i64 110), recovered := false }]) ∧ Below w.heap.size w w'
theorem plus_ok (a b : Nat) (ha : a < 2 ^ 256) (hb : b < 2 ^ 256) (h : a + b < 2 ^ 256) (w : World) :
    Calls Try.prog 61 #[.agg #[.int .u64 (dg (a) 0), .int .u64 (dg (a) 1), .int .u64 (dg (a) 2), .int .u64 (dg (a) 3)], .agg #[.int .u64 (dg (b) 0), .int .u64 (dg (b) 1), .int .u64 (dg (b) 2), .int .u64 (dg (b) 3)]] w fun e w' => e = .returned (.agg #[.int .u64 (dg (a + b) 0), .int .u64 (dg (a + b) 1), .int .u64 (dg (a + b) 2), .int .u64 (dg (a + b) 3)]) ∧ Below w.heap.size w w' :=
  (plus_any a b ha hb w).mono fun e w' ⟨he, hw⟩ => ⟨by rw [he, if_pos h], hw⟩
theorem plus_no (a b : Nat) (ha : a < 2 ^ 256) (hb : b < 2 ^ 256) (h : ¬ a + b < 2 ^ 256) (w : World) :
    Calls Try.prog 61 #[.agg #[.int .u64 (dg (a) 0), .int .u64 (dg (a) 1), .int .u64 (dg (a) 2), .int .u64 (dg (a) 3)], .agg #[.int .u64 (dg (b) 0), .int .u64 (dg (b) 1), .int .u64 (dg (b) 2), .int .u64 (dg (b) 3)]] w fun e w' => e = .panicked [{ v := .iface 26 (.int .i64 110), recovered := false }] ∧ Below w.heap.size w w' :=
  (plus_any a b ha hb w).mono fun e w' ⟨he, hw⟩ => ⟨by rw [he, if_neg h], hw⟩

theorem sum_alike (x y : Int) (hs : ng x = ng y) : ab (x + y) = ab x + ab y ∧ zof (ng x) (ab x + ab y) = x + y := by
  unfold zof ng ab at *
  have h : (x < 0) ↔ (y < 0) := by simpa using hs
  by_cases h1 : x < 0
  · have h2 := h.1 h1
    simp [h1]; omega
  · have h2 : ¬ y < 0 := fun h3 => h1 (h.2 h3)
    simp [h1]; omega
theorem sum_apart (x y : Int) (hs : ng x ≠ ng y) : (ab y ≤ ab x → zof (ng x) (ab x - ab y) = x + y) ∧ (ab x < ab y → zof (ng y) (ab y - ab x) = x + y) ∧ (ab (x + y) ≤ ab x ∨ ab (x + y) ≤ ab y) := by
  unfold zof ng ab at *
  have h : ¬ ((x < 0) ↔ (y < 0)) := by simpa using hs
  by_cases h1 : x < 0
  · have h2 : ¬ y < 0 := fun h3 => h ⟨fun _ => h3, fun _ => h1⟩
    simp [h1, h2]; omega
  · have h2 : y < 0 := by
      rcases Int.lt_or_le y 0 with h3 | h3
      · exact h3
      · exact absurd ⟨fun h4 => absurd h4 h1, fun h4 => absurd h4 (by omega)⟩ h
    simp [h1, h2]; omega

set_option maxHeartbeats 1000000 in
theorem sum_any (x y : Int) (hx : ab x < 2 ^ 256) (hy : ab y < 2 ^ 256) (w : World) :
    Calls Try.prog 71 #[.agg #[.bool (ng (x)), .int .u64 (dg (ab (x)) 0), .int .u64 (dg (ab (x)) 1), .int .u64 (dg (ab (x)) 2), .int .u64 (dg (ab (x)) 3)], .agg #[.bool (ng (y)), .int .u64 (dg (ab (y)) 0), .int .u64 (dg (ab (y)) 1), .int .u64 (dg (ab (y)) 2), .int .u64 (dg (ab (y)) 3)]] w (SumPost x y w) := by
  have HX := Hd.mk hx
  have HY := Hd.mk hy
  by_cases hs : ng x = ng y
  · have hsb : (ng x == ng y) = true := by simpa using hs
    obtain ⟨hab, hz⟩ := sum_alike x y hs
    have HZ := Hd.mk hz
    by_cases hov : ab (x + y) < 2 ^ 256
    · have HO := Hd.mk hov
      have HL := Hd.mk (hab ▸ hov)
      clear hs hab hz hov hx hy
      go_enter Try.func71, Try.ntmps71
      go_wp2
      refine region_qt 8 (by kernel_rfl) (by kernel_rfl) fun X _ mk hmk hcl => ?_
      have z0 := fun x => heap_below (hmk x) ( (heap_old (heap_old (heap_new w _) _) _))
      have z1 := fun x => heap_below (hmk x) ( (heap_old (heap_at (n := w.heap.size + 1) (by simp) _) _))
      have z2 := fun x => heap_below (hmk x) ( (heap_at (n := w.heap.size + 2) (by simp) _))
      have c0 := fun x => cell_at (z0 x)
      have c1 := fun x => cell_at (z1 x)
      simp only [List.take_succ_cons, List.take_zero, List.drop_succ_cons, List.drop_zero]
      repeat (go_big_quiet_step ((first | (go_at_call 61; exact (plus_ok _ _ HX.out HY.out HL.out _).mono fun e w' ⟨he, hw⟩ => ⟨he, hcl _ _ hw⟩) | (go_at_call 48; exact (of_z _ _ HL.out _).mono fun e w' ⟨he, hw⟩ => ⟨he, hcl _ _ hw⟩))))
      refine wpQuiet_nil ?_
      rintro _ ⟨x, rfl⟩
      have hw1 := hmk x
      have z2 := z2 x
      clear hcl hmk z0 z1 c0 c1
      generalize mk x = W1 at hw1 z2
      have c2 := cell_at z2
      have f2 := frozen_at z2
      have hs2 := lt_of_block z2
      go_wp2
      refine bodyPost_ret (by simp [results, Try.results71, go_sem, c2]; rfl) rfl ⟨?_, ?_⟩
      · rw [if_pos HO.out, ← HZ.out]
      focus (repeat (first | (with_reducible exact Below.refl _ _) | (with_reducible assumption) | ((with_reducible refine Below.setCell ?_ ?_ _); rotate_left; (focus (first | omega | (simp; done) | (simp; omega)))) | ((with_reducible refine Below.alloc ?_ ?_ _); rotate_left; (focus (first | omega | (simp; done) | (simp; omega)))) | (with_reducible refine Below.drew ?_) | (refine below_on ?_ (by assumption))))
    · have HO := Hd.mk hov
      have HL := Hd.mk (hab ▸ hov)
      clear hs hab hz hov hx hy
      go_enter Try.func71, Try.ntmps71
      go_wp2
      refine region_pan 6 [11, 12, 13, 14, 15, 16] (by kernel_rfl) (by kernel_rfl) (fun _ _ _ _ _ _ h => h) fun X _ mk hmk hcl => ?_
      have z0 := fun x => heap_below (hmk x) (heap_old (heap_old (heap_new w _) _) _)
      have z1 := fun x => heap_below (hmk x) (heap_old (heap_at (n := w.heap.size + 1) (by simp) _) _)
      have c0 := fun x => cell_at (z0 x)
      have c1 := fun x => cell_at (z1 x)
      simp only [List.take_succ_cons, List.take_zero, List.drop_succ_cons, List.drop_zero]
      repeat (go_big_quiet_step (skip))
      refine wpQuiet_nil ?_
      rintro _ ⟨x, rfl⟩
      have hw1 := hmk x
      clear hcl hmk z0 z1 c0 c1
      generalize mk x = W1 at hw1
      go_wp2_with (go_at_call 61; refine (plus_no _ _ HX.out HY.out HL.out _).mono ?_; rintro e w' ⟨rfl, hw2⟩)
      refine ⟨rfl, by rw [if_neg HO.out], ?_⟩
      focus (repeat (first | (with_reducible exact Below.refl _ _) | (with_reducible assumption) | ((with_reducible refine Below.setCell ?_ ?_ _); rotate_left; (focus (first | omega | (simp; done) | (simp; omega)))) | ((with_reducible refine Below.alloc ?_ ?_ _); rotate_left; (focus (first | omega | (simp; done) | (simp; omega)))) | (with_reducible refine Below.drew ?_) | (refine below_on ?_ (by assumption))))
  · have hsb : (ng x == ng y) = false := by simpa using hs
    obtain ⟨hz1, hz2, hz3⟩ := sum_apart x y hs
    have HO : Hd (ab (x + y) < 2 ^ 256) := ⟨by omega⟩
    by_cases hle : ab y ≤ ab x
    · have hC : decide (cmpN (ab x) (ab y) ≥ 0) = true := by
        unfold cmpN; rw [if_neg (by omega)]; split <;> rfl
      have hL := lessN_eq hx hle
      have HZ : Hd (zof (ng x) (lessN (ab x) (ab y)) = x + y) := ⟨by rw [hL]; exact hz1 hle⟩
      clear hs hz1 hz2 hz3 hle hL hx hy
      go_enter Try.func71, Try.ntmps71
      go_wp2_with (go_at_call 75; refine (mags_any _ _ HX.out HY.out _).mono ?_; rintro e w1 ⟨rfl, hb1⟩)
      refine region_qt 8 (by kernel_rfl) (by kernel_rfl) fun X _ mk hmk hcl => ?_
      have z0 := fun x => heap_below (hmk x) (heap_below hb1 (heap_old (heap_old (heap_new w _) _) _))
      have z1 := fun x => heap_below (hmk x) (heap_below hb1 (heap_old (heap_at (n := w.heap.size + 1) (by simp) _) _))
      have z2 := fun x => heap_below (hmk x) (heap_below hb1 (heap_at (n := w.heap.size + 2) (by simp) _))
      have c0 := fun x => cell_at (z0 x)
      have c1 := fun x => cell_at (z1 x)
      simp only [List.take_succ_cons, List.take_zero, List.drop_succ_cons, List.drop_zero]
      repeat (go_big_quiet_step ((first | (go_at_call 76; exact (less_any _ _ HY.out _).mono fun e w' ⟨he, hw⟩ => ⟨he, hcl _ _ hw⟩) | (go_at_call 48; exact (of_z _ _ (lessN_lt _ _) _).mono fun e w' ⟨he, hw⟩ => ⟨he, hcl _ _ hw⟩))))
      refine wpQuiet_nil ?_
      rintro _ ⟨x, rfl⟩
      have hw1 := hmk x
      have z2 := z2 x
      clear hcl hmk z0 z1 c0 c1
      generalize mk x = W1 at hw1 z2
      have c2 := cell_at z2
      have f2 := frozen_at z2
      have hs2 := lt_of_block z2
      go_wp2
      refine bodyPost_ret (by simp [results, Try.results71, go_sem, c2]; rfl) rfl ⟨?_, ?_⟩
      · rw [if_pos HO.out, ← HZ.out]
      focus (repeat (first | (with_reducible exact Below.refl _ _) | (with_reducible assumption) | ((with_reducible refine Below.setCell ?_ ?_ _); rotate_left; (focus (first | omega | (simp; done) | (simp; omega)))) | ((with_reducible refine Below.alloc ?_ ?_ _); rotate_left; (focus (first | omega | (simp; done) | (simp; omega)))) | (with_reducible refine Below.drew ?_) | (refine below_on ?_ (by assumption))))
    · have hC : decide (cmpN (ab x) (ab y) ≥ 0) = false := by
        unfold cmpN; rw [if_pos (by omega)]; rfl
      have hL := lessN_eq hy (by omega : ab x ≤ ab y)
      have HZ : Hd (zof (ng y) (lessN (ab y) (ab x)) = x + y) := ⟨by rw [hL]; exact hz2 (by omega)⟩
      clear hs hz1 hz2 hz3 hle hL hx hy
      go_enter Try.func71, Try.ntmps71
      go_wp2_with (go_at_call 75; refine (mags_any _ _ HX.out HY.out _).mono ?_; rintro e w1 ⟨rfl, hb1⟩)
      refine region_qt 8 (by kernel_rfl) (by kernel_rfl) fun X _ mk hmk hcl => ?_
      have z0 := fun x => heap_below (hmk x) (heap_below hb1 (heap_old (heap_old (heap_new w _) _) _))
      have z1 := fun x => heap_below (hmk x) (heap_below hb1 (heap_old (heap_at (n := w.heap.size + 1) (by simp) _) _))
      have z2 := fun x => heap_below (hmk x) (heap_below hb1 (heap_at (n := w.heap.size + 2) (by simp) _))
      have c0 := fun x => cell_at (z0 x)
      have c1 := fun x => cell_at (z1 x)
      simp only [List.take_succ_cons, List.take_zero, List.drop_succ_cons, List.drop_zero]
      repeat (go_big_quiet_step ((first | (go_at_call 76; exact (less_any _ _ HX.out _).mono fun e w' ⟨he, hw⟩ => ⟨he, hcl _ _ hw⟩) | (go_at_call 48; exact (of_z _ _ (lessN_lt _ _) _).mono fun e w' ⟨he, hw⟩ => ⟨he, hcl _ _ hw⟩))))
      refine wpQuiet_nil ?_
      rintro _ ⟨x, rfl⟩
      have hw1 := hmk x
      have z2 := z2 x
      clear hcl hmk z0 z1 c0 c1
      generalize mk x = W1 at hw1 z2
      have c2 := cell_at z2
      have f2 := frozen_at z2
      have hs2 := lt_of_block z2
      go_wp2
      refine bodyPost_ret (by simp [results, Try.results71, go_sem, c2]; rfl) rfl ⟨?_, ?_⟩
      · rw [if_pos HO.out, ← HZ.out]
      focus (repeat (first | (with_reducible exact Below.refl _ _) | (with_reducible assumption) | ((with_reducible refine Below.setCell ?_ ?_ _); rotate_left; (focus (first | omega | (simp; done) | (simp; omega)))) | ((with_reducible refine Below.alloc ?_ ?_ _); rotate_left; (focus (first | omega | (simp; done) | (simp; omega)))) | (with_reducible refine Below.drew ?_) | (refine below_on ?_ (by assumption))))
end Go.Proofs.Yteibcklcegkbcaa
