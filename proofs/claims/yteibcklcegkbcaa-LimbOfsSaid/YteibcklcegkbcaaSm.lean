/-
  Walks: Small. Conditions stand in each theorem.
-/
import Derived.Test.YteibcklcegkbcaaOr1
namespace Go.Proofs.Yteibcklcegkbcaa
open Go.RowKit Go.BigFrame

theorem wrap_dg0 (n : Nat) : wrap64 (dg n 0) = ((n : Int) + 9223372036854775808) % 18446744073709551616 - 9223372036854775808 := by
  unfold wrap64 dg
  rw [Nat.mul_zero, Nat.pow_zero, Nat.div_one]
  omega
theorem eq_int (x y : Int) (hx : ab x < 2 ^ 256) (hy : ab y < 2 ^ 256) : (ng x == ng y && (dg (ab x) 0 == dg (ab y) 0 && (dg (ab x) 1 == dg (ab y) 1 && (dg (ab x) 2 == dg (ab y) 2 && dg (ab x) 3 == dg (ab y) 3)))) = decide (x = y) := by
  rw [Bool.eq_iff_iff]
  simp only [Bool.and_eq_true, beq_iff_eq, decide_eq_true_eq]
  constructor
  · rintro ⟨h, h0, h1, h2, h3⟩
    have := dg_inj hx hy h0 h1 h2 h3
    rw [← zof_ng_ab x, ← zof_ng_ab y, h, this]
  · rintro rfl
    exact ⟨rfl, rfl, rfl, rfl, rfl⟩
theorem check_bad0 (w : World) : Calls Try.prog 35 #[.agg #[.bool true, .int .u64 0, .int .u64 0, .int .u64 0, .int .u64 0]] w fun e w' => e = .returned (.int .i64 2) ∧ Below w.heap.size w w' := by
  have h := check_bad w
  simp only [dg_zero] at h
  exact h
set_option maxHeartbeats 1000000 in
theorem small_bad (w : World) :
    Calls Try.prog 32 #[.agg #[.bool (true), .int .u64 (dg (0) 0), .int .u64 (dg (0) 1), .int .u64 (dg (0) 2), .int .u64 (dg (0) 3)]] w fun e w' => e = .returned (.tuple #[.int .i64 0, .bool false]) ∧ Below w.heap.size w w' := by
  simp only [dg_zero]
  go_enter Try.func32, Try.ntmps32
  go_wp2
  refine region_mix 8 (by kernel_rfl) (by kernel_rfl) (fun _ _ _ _ h => h) fun X _ mk hmk hcl => ?_
  have z0 := fun x => heap_below (hmk x) (heap_old (heap_new w _) _)
  have c0 := fun x => cell_at (z0 x)
  simp only [List.take_succ_cons, List.take_zero, List.drop_succ_cons, List.drop_zero]
  repeat (go_big_quiet_step ((go_at_call 35; exact (check_bad0 _).mono fun e w' ⟨he, hw⟩ => ⟨he, hcl _ _ hw⟩)))
  refine wpQuiet_nil ?_
  rintro _ ⟨x, rfl⟩
  have hw1 := hmk x
  clear hcl hmk z0 c0
  generalize mk x = W1 at hw1
  go_wp2
  refine bodyPost_ret (by simp [results, Try.results32, go_sem]) rfl ⟨rfl, ?_⟩
  focus (repeat (first | (with_reducible exact Below.refl _ _) | (with_reducible assumption) | ((with_reducible refine Below.setCell ?_ ?_ _); rotate_left; (focus (first | omega | (simp; done) | (simp; omega)))) | ((with_reducible refine Below.alloc ?_ ?_ _); rotate_left; (focus (first | omega | (simp; done) | (simp; omega)))) | (with_reducible refine Below.drew ?_) | (refine below_on ?_ (by assumption))))
theorem check_s (z : Int) (s : Bool) (hs : ng z = s) (hz : ab z < 2 ^ 256) (w : World) :
    Calls Try.prog 35 #[.agg #[.bool (s), .int .u64 (dg (ab z) 0), .int .u64 (dg (ab z) 1), .int .u64 (dg (ab z) 2), .int .u64 (dg (ab z) 3)]] w fun e w' => e = .returned (.int .i64 0) ∧ Below w.heap.size w w' := hs ▸ check_ok z hz w
set_option maxHeartbeats 1000000 in
theorem small_in (z : Int) (HZ : Hd (ab z < 2 ^ 256)) (HK : Hd (-9223372036854775808 ≤ z ∧ z < 9223372036854775808)) (hk : if ng z = true then wrap64 (-wrap64 (dg (ab z) 0)) = z else wrap64 (dg (ab z) 0) = z) (w : World) :
    Calls Try.prog 32 #[.agg #[.bool (ng (z)), .int .u64 (dg (ab (z)) 0), .int .u64 (dg (ab (z)) 1), .int .u64 (dg (ab (z)) 2), .int .u64 (dg (ab (z)) 3)]] w fun e w' => e = .returned (.tuple #[.int .i64 z, .bool true]) ∧ Below w.heap.size w w' := by
  cases hn : ng z
  · rw [hn, if_neg (by simp)] at hk
    have HS := Hd.mk hn
    have HK1 := Hd.mk hk
    clear hk
    go_enter Try.func32, Try.ntmps32
    go_wp2
    rw [HK1.out]
    refine region_mix 8 (by kernel_rfl) (by kernel_rfl) (fun _ _ _ _ h => h) fun X _ mk hmk hcl => ?_
    have z0 := fun x => heap_below (hmk x) (heap_old (heap_new w _) _)
    have c0 := fun x => cell_at (z0 x)
    simp only [List.take_succ_cons, List.take_zero, List.drop_succ_cons, List.drop_zero]
    repeat (go_big_quiet_step ((first | (go_at_call 35; exact (check_s z _ HS.out HZ.out _).mono fun e w' ⟨he, hw⟩ => ⟨he, hcl _ _ hw⟩) | (go_at_call 31; exact (of_word z HK.out.1 HK.out.2 _).mono fun e w' ⟨he, hw⟩ => ⟨he, hcl _ _ hw⟩))))
    refine wpQuiet_nil ?_
    rintro _ ⟨x, rfl⟩
    have hw1 := hmk x
    clear hcl hmk z0 c0
    generalize mk x = W1 at hw1
    go_wp2
    refine bodyPost_ret (by simp [results, Try.results32, go_sem]) rfl ⟨rfl, ?_⟩
    focus (repeat (first | (with_reducible exact Below.refl _ _) | (with_reducible assumption) | ((with_reducible refine Below.setCell ?_ ?_ _); rotate_left; (focus (first | omega | (simp; done) | (simp; omega)))) | ((with_reducible refine Below.alloc ?_ ?_ _); rotate_left; (focus (first | omega | (simp; done) | (simp; omega)))) | (with_reducible refine Below.drew ?_) | (refine below_on ?_ (by assumption))))
  · rw [hn, if_pos rfl] at hk
    have HS := Hd.mk hn
    have HK1 := Hd.mk hk
    clear hk
    go_enter Try.func32, Try.ntmps32
    go_wp2
    rw [HK1.out]
    refine region_mix 8 (by kernel_rfl) (by kernel_rfl) (fun _ _ _ _ h => h) fun X _ mk hmk hcl => ?_
    have z0 := fun x => heap_below (hmk x) (heap_old (heap_new w _) _)
    have c0 := fun x => cell_at (z0 x)
    simp only [List.take_succ_cons, List.take_zero, List.drop_succ_cons, List.drop_zero]
    repeat (go_big_quiet_step ((first | (go_at_call 35; exact (check_s z _ HS.out HZ.out _).mono fun e w' ⟨he, hw⟩ => ⟨he, hcl _ _ hw⟩) | (go_at_call 31; exact (of_word z HK.out.1 HK.out.2 _).mono fun e w' ⟨he, hw⟩ => ⟨he, hcl _ _ hw⟩))))
    refine wpQuiet_nil ?_
    rintro _ ⟨x, rfl⟩
    have hw1 := hmk x
    clear hcl hmk z0 c0
    generalize mk x = W1 at hw1
    go_wp2
    refine bodyPost_ret (by simp [results, Try.results32, go_sem]) rfl ⟨rfl, ?_⟩
    focus (repeat (first | (with_reducible exact Below.refl _ _) | (with_reducible assumption) | ((with_reducible refine Below.setCell ?_ ?_ _); rotate_left; (focus (first | omega | (simp; done) | (simp; omega)))) | ((with_reducible refine Below.alloc ?_ ?_ _); rotate_left; (focus (first | omega | (simp; done) | (simp; omega)))) | (with_reducible refine Below.drew ?_) | (refine below_on ?_ (by assumption))))
set_option maxHeartbeats 1000000 in
theorem small_out (z k : Int) (HZ : Hd (ab z < 2 ^ 256)) (HK : Hd (-9223372036854775808 ≤ k ∧ k < 9223372036854775808)) (hk : if ng z = true then wrap64 (-wrap64 (dg (ab z) 0)) = k else wrap64 (dg (ab z) 0) = k) (hne : k ≠ z) (w : World) :
    Calls Try.prog 32 #[.agg #[.bool (ng (z)), .int .u64 (dg (ab (z)) 0), .int .u64 (dg (ab (z)) 1), .int .u64 (dg (ab (z)) 2), .int .u64 (dg (ab (z)) 3)]] w fun e w' => e = .returned (.tuple #[.int .i64 0, .bool false]) ∧ Below w.heap.size w w' := by
  have he := eq_int k z (by have := HK.out; unfold ab; omega) HZ.out
  rw [decide_eq_false hne] at he
  clear hne
  cases hn : ng z
  · rw [hn, if_neg (by simp)] at hk
    rw [hn] at he
    simp at he
    have HE := Hd.mk he
    have HS := Hd.mk hn
    clear he hn
    have HK1 := Hd.mk hk
    clear hk
    go_enter Try.func32, Try.ntmps32
    go_wp2
    rw [HK1.out]
    refine region_mix 7 (by kernel_rfl) (by kernel_rfl) (fun _ _ _ _ h => h) fun X _ mk hmk hcl => ?_
    have z0 := fun x => heap_below (hmk x) (heap_old (heap_new w _) _)
    have c0 := fun x => cell_at (z0 x)
    simp only [List.take_succ_cons, List.take_zero, List.drop_succ_cons, List.drop_zero]
    repeat (go_big_quiet_step ((first | (go_at_call 35; exact (check_s z _ HS.out HZ.out _).mono fun e w' ⟨he, hw⟩ => ⟨he, hcl _ _ hw⟩) | (go_at_call 31; exact (of_word k HK.out.1 HK.out.2 _).mono fun e w' ⟨he, hw⟩ => ⟨he, hcl _ _ hw⟩))))
    refine wpQuiet_nil ?_
    rintro _ ⟨x, rfl⟩
    have hw1 := hmk x
    clear hcl hmk z0 c0
    generalize mk x = W1 at hw1
    have he := HE.out
    go_wp2
    all_goals first
      | (exfalso; simp_all; done)
      | (refine bodyPost_ret (by simp [results, Try.results32, go_sem]) rfl ⟨rfl, ?_⟩; focus (repeat (first | (with_reducible exact Below.refl _ _) | (with_reducible assumption) | ((with_reducible refine Below.setCell ?_ ?_ _); rotate_left; (focus (first | omega | (simp; done) | (simp; omega)))) | ((with_reducible refine Below.alloc ?_ ?_ _); rotate_left; (focus (first | omega | (simp; done) | (simp; omega)))) | (with_reducible refine Below.drew ?_) | (refine below_on ?_ (by assumption)))))
  · rw [hn, if_pos rfl] at hk
    rw [hn] at he
    simp at he
    have HE := Hd.mk he
    have HS := Hd.mk hn
    clear he hn
    have HK1 := Hd.mk hk
    clear hk
    go_enter Try.func32, Try.ntmps32
    go_wp2
    rw [HK1.out]
    refine region_mix 7 (by kernel_rfl) (by kernel_rfl) (fun _ _ _ _ h => h) fun X _ mk hmk hcl => ?_
    have z0 := fun x => heap_below (hmk x) (heap_old (heap_new w _) _)
    have c0 := fun x => cell_at (z0 x)
    simp only [List.take_succ_cons, List.take_zero, List.drop_succ_cons, List.drop_zero]
    repeat (go_big_quiet_step ((first | (go_at_call 35; exact (check_s z _ HS.out HZ.out _).mono fun e w' ⟨he, hw⟩ => ⟨he, hcl _ _ hw⟩) | (go_at_call 31; exact (of_word k HK.out.1 HK.out.2 _).mono fun e w' ⟨he, hw⟩ => ⟨he, hcl _ _ hw⟩))))
    refine wpQuiet_nil ?_
    rintro _ ⟨x, rfl⟩
    have hw1 := hmk x
    clear hcl hmk z0 c0
    generalize mk x = W1 at hw1
    have he := HE.out
    go_wp2
    all_goals first
      | (exfalso; simp_all; done)
      | (refine bodyPost_ret (by simp [results, Try.results32, go_sem]) rfl ⟨rfl, ?_⟩; focus (repeat (first | (with_reducible exact Below.refl _ _) | (with_reducible assumption) | ((with_reducible refine Below.setCell ?_ ?_ _); rotate_left; (focus (first | omega | (simp; done) | (simp; omega)))) | ((with_reducible refine Below.alloc ?_ ?_ _); rotate_left; (focus (first | omega | (simp; done) | (simp; omega)))) | (with_reducible refine Below.drew ?_) | (refine below_on ?_ (by assumption)))))
theorem small_word (z : Int) (hz : ab z < 2 ^ 256) (h : -9223372036854775808 ≤ z ∧ z < 9223372036854775808) (w : World) :
    Calls Try.prog 32 #[.agg #[.bool (ng (z)), .int .u64 (dg (ab (z)) 0), .int .u64 (dg (ab (z)) 1), .int .u64 (dg (ab (z)) 2), .int .u64 (dg (ab (z)) 3)]] w fun e w' => e = .returned (.tuple #[.int .i64 z, .bool true]) ∧ Below w.heap.size w w' := by
  refine small_in z ⟨hz⟩ ⟨h⟩ ?_ w
  rw [wrap_dg0]
  split
  · rename_i hs
    unfold wrap64 ab
    unfold ng at hs
    simp only [decide_eq_true_eq] at hs
    omega
  · rename_i hs
    unfold ab
    unfold ng at hs
    simp only [decide_eq_true_eq] at hs
    omega
theorem small_no (z : Int) (hz : ab z < 2 ^ 256) (h : ¬ (-9223372036854775808 ≤ z ∧ z < 9223372036854775808)) (w : World) :
    Calls Try.prog 32 #[.agg #[.bool (ng (z)), .int .u64 (dg (ab (z)) 0), .int .u64 (dg (ab (z)) 1), .int .u64 (dg (ab (z)) 2), .int .u64 (dg (ab (z)) 3)]] w fun e w' => e = .returned (.tuple #[.int .i64 0, .bool false]) ∧ Below w.heap.size w w' := by
  obtain ⟨k, hk, hr⟩ : ∃ k : Int, (if ng z = true then wrap64 (-wrap64 (dg (ab z) 0)) = k else wrap64 (dg (ab z) 0) = k) ∧ -9223372036854775808 ≤ k ∧ k < 9223372036854775808 := by
    split
    · exact ⟨_, rfl, by unfold wrap64; omega⟩
    · exact ⟨_, rfl, by unfold wrap64; omega⟩
  exact small_out z k ⟨hz⟩ ⟨hr⟩ hk (fun e => h (e ▸ hr)) w
end Go.Proofs.Yteibcklcegkbcaa
