/-
  Walks of ratio: the greatest that divides two wide magnitudes, none of which is nought. Conditions stand in each theorem.
-/
import Derived.Test.YtbhfnfokihdjjaaGreatDoorWd5
import Derived.Test.YtbhfnfokihdjjaaGreatDoorWe4
namespace Go.Proofs.YtbhfnfokihdjjaaGreatDoor
open Go.RowKit Go.BigFrame

theorem wshift_v (a b : Nat) (h : a / 2 = b) (ha : a < 2 ^ (64 * 9)) (w : World) :
    Calls Tryz.prog 186 #[.agg #[.int .u64 (dg (a) 0), .int .u64 (dg (a) 1), .int .u64 (dg (a) 2), .int .u64 (dg (a) 3), .int .u64 (dg (a) 4), .int .u64 (dg (a) 5), .int .u64 (dg (a) 6), .int .u64 (dg (a) 7), .int .u64 (dg (a) 8)]] w fun e w' => e = .returned (.agg #[.int .u64 (dg (b) 0), .int .u64 (dg (b) 1), .int .u64 (dg (b) 2), .int .u64 (dg (b) 3), .int .u64 (dg (b) 4), .int .u64 (dg (b) 5), .int .u64 (dg (b) 6), .int .u64 (dg (b) 7), .int .u64 (dg (b) 8)]) ∧ Below w.heap.size w w' := by
  rw [← h]
  exact wshift_any a ha w
theorem half_lt {a e : Nat} (k : Nat) (ha : a < 2 ^ e) : a / 2 ^ k < 2 ^ e := Nat.lt_of_le_of_lt (Nat.div_le_self _ _) ha
theorem half_next (a k : Nat) : a / 2 ^ k / 2 = a / 2 ^ (k + 1) := by rw [Nat.div_div_eq_div_mul, Nat.pow_succ]
set_option maxRecDepth 20000 in
set_option maxHeartbeats 2000000 in
theorem whalved_any (a n : Nat) (hn : n < 9223372036854775808) (ha : a < 2 ^ (64 * 9)) (w : World) :
    Calls Tryz.prog 182 #[.agg #[.int .u64 (dg (a) 0), .int .u64 (dg (a) 1), .int .u64 (dg (a) 2), .int .u64 (dg (a) 3), .int .u64 (dg (a) 4), .int .u64 (dg (a) 5), .int .u64 (dg (a) 6), .int .u64 (dg (a) 7), .int .u64 (dg (a) 8)], .int .i64 n] w fun e w' => e = .returned (.agg #[.int .u64 (dg (a / 2 ^ n) 0), .int .u64 (dg (a / 2 ^ n) 1), .int .u64 (dg (a / 2 ^ n) 2), .int .u64 (dg (a / 2 ^ n) 3), .int .u64 (dg (a / 2 ^ n) 4), .int .u64 (dg (a / 2 ^ n) 5), .int .u64 (dg (a / 2 ^ n) 6), .int .u64 (dg (a / 2 ^ n) 7), .int .u64 (dg (a / 2 ^ n) 8)]) ∧ Below w.heap.size w w' := by
  have HA : Hd (∀ k, a / 2 ^ k < 2 ^ (64 * 9)) := ⟨by intro k; exact Nat.lt_of_le_of_lt (Nat.div_le_self _ _) ha⟩
  clear ha
  go_enter Tryz.func182, Tryz.ntmps182
  go_wp2
  go_loopw [6] (fun i wr => ∃ k : Nat, k ≤ n ∧ i = .int .i64 k ∧ wr.heap[w.heap.size]? = some (.cells #[.int .u64 (dg (a / 2 ^ k) 0), .int .u64 (dg (a / 2 ^ k) 1), .int .u64 (dg (a / 2 ^ k) 2), .int .u64 (dg (a / 2 ^ k) 3), .int .u64 (dg (a / 2 ^ k) 4), .int .u64 (dg (a / 2 ^ k) 5), .int .u64 (dg (a / 2 ^ k) 6), .int .u64 (dg (a / 2 ^ k) 7), .int .u64 (dg (a / 2 ^ k) 8)] 160 (0, 0)) ∧ wr.heap[w.heap.size + 1]? = some (.cells #[.int .u64 (dg (0) 0), .int .u64 (dg (0) 1), .int .u64 (dg (0) 2), .int .u64 (dg (0) 3), .int .u64 (dg (0) 4), .int .u64 (dg (0) 5), .int .u64 (dg (0) 6), .int .u64 (dg (0) 7), .int .u64 (dg (0) 8)] 160 (0, 0)) ∧ Below w.heap.size w wr)
    (fun i _ => n - (intOf i).toNat)
  case atStart =>
    refine ⟨0, by omega, rfl, ?_, ?_, ?_⟩
    · rw [Nat.pow_zero, Nat.div_one]; exact heap_old (heap_new _ _) _
    · simp only [dg_zero]; exact heap_at (by simp) _
    focus (repeat (first | (with_reducible exact Below.refl _ _) | (with_reducible assumption) | ((with_reducible refine Below.setCell ?_ ?_ _); rotate_left; (focus (first | omega | (simp; done) | (simp; omega)))) | ((with_reducible refine Below.alloc ?_ ?_ _); rotate_left; (focus (first | omega | (simp; done) | (simp; omega)))) | (with_reducible refine Below.drew ?_) | (refine below_on ?_ (by assumption))))
  case round =>
    obtain ⟨k, hk, rfl, z0, z1, hB⟩ := hrel
    by_cases hlt : k < n
    · have hd : decide (k < n) = true := by simp [hlt]
      have c0 := cell_at z0
      go_wp2_with fail
      refine (wshift_v (a / 2 ^ k) (a / 2 ^ (k + 1)) (half_next a k) (HA.out k) _).mono ?_
      rintro e wa ⟨rfl, hb⟩
      have y0 := heap_below hb z0
      have y1 := heap_below hb z1
      have hB2 := below_on hB hb
      have p0 := cell_at y0
      have f0 := frozen_at y0
      clear hb z0 z1 c0 hB
      go_wp2
      go_roundw
      case rel =>
        obtain ⟨l1, l2, l3⟩ := laid_9 (w.heap.size) wa (.int .u64 (dg (a / 2 ^ (k + 1)) 0)) (.int .u64 (dg (a / 2 ^ (k + 1)) 1)) (.int .u64 (dg (a / 2 ^ (k + 1)) 2)) (.int .u64 (dg (a / 2 ^ (k + 1)) 3)) (.int .u64 (dg (a / 2 ^ (k + 1)) 4)) (.int .u64 (dg (a / 2 ^ (k + 1)) 5)) (.int .u64 (dg (a / 2 ^ (k + 1)) 6)) (.int .u64 (dg (a / 2 ^ (k + 1)) 7)) (.int .u64 (dg (a / 2 ^ (k + 1)) 8))
        exact ⟨k + 1, by omega, by go_num, l1 y0 rfl, l2 _ _ (by omega) y1, hB2.trans (l3 _ (Nat.le_refl _))⟩
      case measure => simp [intOf]; omega
    · obtain rfl : k = n := by omega
      have hd : decide (k < k) = false := by simp
      have c0 := cell_at z0
      have c1 := cell_at z1
      have f1 := frozen_at z1
      have hs := lt_of_block z1
      go_wp2
      obtain ⟨l1, l2, l3⟩ := laid_9 (w.heap.size + 1) wr (.int .u64 (dg (a / 2 ^ k) 0)) (.int .u64 (dg (a / 2 ^ k) 1)) (.int .u64 (dg (a / 2 ^ k) 2)) (.int .u64 (dg (a / 2 ^ k) 3)) (.int .u64 (dg (a / 2 ^ k) 4)) (.int .u64 (dg (a / 2 ^ k) 5)) (.int .u64 (dg (a / 2 ^ k) 6)) (.int .u64 (dg (a / 2 ^ k) 7)) (.int .u64 (dg (a / 2 ^ k) 8))
      have c2 := cell_at (l1 z1 rfl)
      refine bodyPost_ret (by simp [results, Tryz.results182, go_sem, c2] <;> rfl) rfl ⟨rfl, hB.trans (l3 _ (by omega))⟩
theorem tz_bound {n : Nat} (e : Nat) (he : e = 576) (h0 : 0 < n) (h : n < 2 ^ e) : tz n < 9223372036854775808 := by
  obtain ⟨_, _, h⟩ := od_spec e he h0 h
  omega
set_option maxRecDepth 20000 in
set_option maxHeartbeats 2000000 in
theorem wodd_any (a : Nat) (ha : a < 2 ^ (64 * 9)) (w : World) (hV : Vars w) :
    Calls Tryz.prog 173 #[.agg #[.int .u64 (dg (a) 0), .int .u64 (dg (a) 1), .int .u64 (dg (a) 2), .int .u64 (dg (a) 3), .int .u64 (dg (a) 4), .int .u64 (dg (a) 5), .int .u64 (dg (a) 6), .int .u64 (dg (a) 7), .int .u64 (dg (a) 8)]] w fun e w' => e = .returned (.agg #[.int .u64 (dg (od a) 0), .int .u64 (dg (od a) 1), .int .u64 (dg (od a) 2), .int .u64 (dg (od a) 3), .int .u64 (dg (od a) 4), .int .u64 (dg (od a) 5), .int .u64 (dg (od a) 6), .int .u64 (dg (od a) 7), .int .u64 (dg (od a) 8)]) ∧ Below w.heap.size w w' := by
  have hz := nine_zero ha
  have HA := Hd.mk ha
  have HV := Hd.mk hV
  by_cases h0 : a = 0
  · rw [decide_eq_true h0] at hz
    rw [show od a = a from by rw [h0, od_zero]]
    clear ha hV h0
    go_enter Tryz.func173, Tryz.ntmps173
    go_upto_region 2 with (fail)
    clear hz
    refine abs_wp (fun W => W.heap[w.heap.size]? = some (.cells #[.int .u64 (dg (a) 0), .int .u64 (dg (a) 1), .int .u64 (dg (a) 2), .int .u64 (dg (a) 3), .int .u64 (dg (a) 4), .int .u64 (dg (a) 5), .int .u64 (dg (a) 6), .int .u64 (dg (a) 7), .int .u64 (dg (a) 8)] 160 (0, 0)) ∧ W.heap[w.heap.size + 1]? = some (.cells #[.int .u64 (dg (0) 0), .int .u64 (dg (0) 1), .int .u64 (dg (0) 2), .int .u64 (dg (0) 3), .int .u64 (dg (0) 4), .int .u64 (dg (0) 5), .int .u64 (dg (0) 6), .int .u64 (dg (0) 7), .int .u64 (dg (0) 8)] 160 (0, 0)) ∧ Below w.heap.size w W) ⟨heap_old (heap_new _ _) _, by simp only [dg_zero]; exact heap_at (by simp) _, by focus (repeat (first | (with_reducible exact Below.refl _ _) | (with_reducible assumption) | ((with_reducible refine Below.setCell ?_ ?_ _); rotate_left; (focus (first | omega | (simp; done) | (simp; omega)))) | ((with_reducible refine Below.alloc ?_ ?_ _); rotate_left; (focus (first | omega | (simp; done) | (simp; omega)))) | (with_reducible refine Below.drew ?_) | (refine below_on ?_ (by assumption))))⟩ fun W ⟨z0, z1, hB⟩ => ?_
    have c0 := cell_at z0
    have c1 := cell_at z1
    have f1 := frozen_at z1
    go_wp2
    obtain ⟨l1, l2, l3⟩ := laid_9 (w.heap.size + 1) W (.int .u64 (dg (a) 0)) (.int .u64 (dg (a) 1)) (.int .u64 (dg (a) 2)) (.int .u64 (dg (a) 3)) (.int .u64 (dg (a) 4)) (.int .u64 (dg (a) 5)) (.int .u64 (dg (a) 6)) (.int .u64 (dg (a) 7)) (.int .u64 (dg (a) 8))
    have c2 := cell_at (l1 z1 rfl)
    refine bodyPost_ret (by simp [results, Tryz.results173, go_sem, c2] <;> rfl) rfl ⟨rfl, hB.trans (l3 _ (by omega))⟩
  · rw [decide_eq_false h0] at hz
    have H0 : Hd (0 < a) := ⟨by omega⟩
    have HT := Hd.mk (tz_bound (64 * 9) rfl H0.out ha)
    obtain ⟨t, ht⟩ : ∃ t, t = tz a := ⟨_, rfl⟩
    have HOD : Hd (od a = a / 2 ^ t) := ⟨by rw [ht]; rfl⟩
    have HZ : Hd (∀ w : World, Vars w → Calls Tryz.prog 172 #[.agg #[.int .u64 (dg (a) 0), .int .u64 (dg (a) 1), .int .u64 (dg (a) 2), .int .u64 (dg (a) 3), .int .u64 (dg (a) 4), .int .u64 (dg (a) 5), .int .u64 (dg (a) 6), .int .u64 (dg (a) 7), .int .u64 (dg (a) 8)]] w fun e w' => e = .returned (.int .i64 t) ∧ Below w.heap.size w w') := ⟨fun w hv => by rw [ht]; exact wzeros_any a H0.out HA.out w hv⟩
    rw [HOD.out]
    rw [← ht] at HT
    clear h0 ha hV ht
    go_enter Tryz.func173, Tryz.ntmps173
    go_upto_region 3 with (fail)
    clear hz
    refine abs_wp (fun W => W.heap[w.heap.size]? = some (.cells #[.int .u64 (dg (a) 0), .int .u64 (dg (a) 1), .int .u64 (dg (a) 2), .int .u64 (dg (a) 3), .int .u64 (dg (a) 4), .int .u64 (dg (a) 5), .int .u64 (dg (a) 6), .int .u64 (dg (a) 7), .int .u64 (dg (a) 8)] 160 (0, 0)) ∧ W.heap[w.heap.size + 1]? = some (.cells #[.int .u64 (dg (0) 0), .int .u64 (dg (0) 1), .int .u64 (dg (0) 2), .int .u64 (dg (0) 3), .int .u64 (dg (0) 4), .int .u64 (dg (0) 5), .int .u64 (dg (0) 6), .int .u64 (dg (0) 7), .int .u64 (dg (0) 8)] 160 (0, 0)) ∧ Below w.heap.size w W) ⟨heap_old (heap_new _ _) _, by simp only [dg_zero]; exact heap_at (by simp) _, by focus (repeat (first | (with_reducible exact Below.refl _ _) | (with_reducible assumption) | ((with_reducible refine Below.setCell ?_ ?_ _); rotate_left; (focus (first | omega | (simp; done) | (simp; omega)))) | ((with_reducible refine Below.alloc ?_ ?_ _); rotate_left; (focus (first | omega | (simp; done) | (simp; omega)))) | (with_reducible refine Below.drew ?_) | (refine below_on ?_ (by assumption))))⟩ fun W ⟨z0, z1, hB⟩ => ?_
    have HVW := Hd.mk (HV.out.below hB)
    refine region_qt 4 (by kernel_rfl) (by kernel_rfl) fun X _ mk hmk hcl => ?_
    have c0 := mk_cell hmk z0
    have c1 := mk_cell hmk z1
    simp only [List.take_succ_cons, List.take_zero, List.drop_succ_cons, List.drop_zero]
    repeat (go_big_quiet_step (first | (go_at_call 172; exact (HZ.out _ (HVW.out.below (hmk _))).mono fun e w' ⟨he, hw⟩ => ⟨he, hcl _ _ hw⟩) | (go_at_call 182; exact (whalved_any a t HT.out HA.out _).mono fun e w' ⟨he, hw⟩ => ⟨he, hcl _ _ hw⟩)))
    refine wpQuiet_nil ?_
    rintro _ ⟨x, rfl⟩
    clear c0 c1
    have hx := hmk x
    clear hcl hmk
    generalize mk x = W1 at hx
    have y1 := heap_below hx z1
    have hB2 := below_on hB hx
    have c1 := cell_at y1
    have f1 := frozen_at y1
    clear z0 z1 hB hx
    go_wp2
    obtain ⟨l1, l2, l3⟩ := laid_9 (w.heap.size + 1) W1 (.int .u64 (dg (a / 2 ^ t) 0)) (.int .u64 (dg (a / 2 ^ t) 1)) (.int .u64 (dg (a / 2 ^ t) 2)) (.int .u64 (dg (a / 2 ^ t) 3)) (.int .u64 (dg (a / 2 ^ t) 4)) (.int .u64 (dg (a / 2 ^ t) 5)) (.int .u64 (dg (a / 2 ^ t) 6)) (.int .u64 (dg (a / 2 ^ t) 7)) (.int .u64 (dg (a / 2 ^ t) 8))
    have c2 := cell_at (l1 y1 rfl)
    refine bodyPost_ret (by simp [results, Tryz.results173, go_sem, c2] <;> rfl) rfl ⟨rfl, hB2.trans (l3 _ (by omega))⟩
end Go.Proofs.YtbhfnfokihdjjaaGreatDoor

namespace Go.Proofs.YtbhfnfokihdjjaaGreatDoor
open Go.RowKit Go.BigFrame

/-- The number of digits in cells. -/
def valC (c : Array Value) : Nat → Nat
  | 0 => 0
  | k + 1 => valC c k + 2 ^ (64 * k) * (intOf (c.getD k undef)).toNat
/-- The number that a block holds. -/
def wideOf (b : Nat) (W : World) : Nat :=
  match W.heap[b]? with
  | some (.cells c _ _) => valC c 9
  | _ => 0
theorem valC_mod (c : Array Value) (n : Nat) : ∀ k, (∀ i, i < k → c.getD i undef = .int .u64 (dg n i)) → valC c k = n % 2 ^ (64 * k)
  | 0, _ => by simp [valC, Nat.mod_one]
  | k + 1, h => by
    rw [valC, valC_mod c n k (fun i hi => h i (by omega)), h k (by omega), pow_step, mod_step, ← dg_toNat]
    simp only [intOf]
    omega
theorem wideOf_eqK {b n K : Nat} {W : World} {t : TypeId} {f : Nat × Nat} (hK : K = 9) (hn : n < 2 ^ (64 * K)) (h : W.heap[b]? = some (.cells #[.int .u64 (dg (n) 0), .int .u64 (dg (n) 1), .int .u64 (dg (n) 2), .int .u64 (dg (n) 3), .int .u64 (dg (n) 4), .int .u64 (dg (n) 5), .int .u64 (dg (n) 6), .int .u64 (dg (n) 7), .int .u64 (dg (n) 8)] t f)) : wideOf b W = n := by
  unfold wideOf
  rw [h]
  show valC _ 9 = n
  rw [← hK, valC_mod _ n K, Nat.mod_eq_of_lt hn]
  intro i hi
  obtain rfl | rfl | rfl | rfl | rfl | rfl | rfl | rfl | rfl : i = 0 ∨ i = 1 ∨ i = 2 ∨ i = 3 ∨ i = 4 ∨ i = 5 ∨ i = 6 ∨ i = 7 ∨ i = 8 := by omega
  all_goals rfl
theorem wideOf_eq {b n : Nat} {W : World} {t : TypeId} {f : Nat × Nat} (hn : n < 2 ^ (64 * 9)) (h : W.heap[b]? = some (.cells #[.int .u64 (dg (n) 0), .int .u64 (dg (n) 1), .int .u64 (dg (n) 2), .int .u64 (dg (n) 3), .int .u64 (dg (n) 4), .int .u64 (dg (n) 5), .int .u64 (dg (n) 6), .int .u64 (dg (n) 7), .int .u64 (dg (n) 8)] t f)) : wideOf b W = n := wideOf_eqK rfl hn h
theorem nine_eqK {x y K : Nat} (hK : K = 9) (hx : x < 2 ^ (64 * K)) (hy : y < 2 ^ (64 * K)) : (dg x 0 == dg y 0 && (dg x 1 == dg y 1 && (dg x 2 == dg y 2 && (dg x 3 == dg y 3 && (dg x 4 == dg y 4 && (dg x 5 == dg y 5 && (dg x 6 == dg y 6 && (dg x 7 == dg y 7 && (dg x 8 == dg y 8))))))))) = decide (x = y) := by
  rw [Bool.eq_iff_iff]
  simp only [Bool.and_eq_true, beq_iff_eq, decide_eq_true_eq]
  constructor
  · rintro ⟨h0, h1, h2, h3, h4, h5, h6, h7, h8⟩
    have e1 := valC_mod (#[.int .u64 (dg (x) 0), .int .u64 (dg (x) 1), .int .u64 (dg (x) 2), .int .u64 (dg (x) 3), .int .u64 (dg (x) 4), .int .u64 (dg (x) 5), .int .u64 (dg (x) 6), .int .u64 (dg (x) 7), .int .u64 (dg (x) 8)]) x K (fun i hi => by
      obtain rfl | rfl | rfl | rfl | rfl | rfl | rfl | rfl | rfl : i = 0 ∨ i = 1 ∨ i = 2 ∨ i = 3 ∨ i = 4 ∨ i = 5 ∨ i = 6 ∨ i = 7 ∨ i = 8 := by omega
      all_goals rfl)
    have e2 := valC_mod (#[.int .u64 (dg (x) 0), .int .u64 (dg (x) 1), .int .u64 (dg (x) 2), .int .u64 (dg (x) 3), .int .u64 (dg (x) 4), .int .u64 (dg (x) 5), .int .u64 (dg (x) 6), .int .u64 (dg (x) 7), .int .u64 (dg (x) 8)]) y K (fun i hi => by
      obtain rfl | rfl | rfl | rfl | rfl | rfl | rfl | rfl | rfl : i = 0 ∨ i = 1 ∨ i = 2 ∨ i = 3 ∨ i = 4 ∨ i = 5 ∨ i = 6 ∨ i = 7 ∨ i = 8 := by omega
      all_goals first | rw [← h0] | rw [← h1] | rw [← h2] | rw [← h3] | rw [← h4] | rw [← h5] | rw [← h6] | rw [← h7] | rw [← h8]
      all_goals rfl)
    rw [Nat.mod_eq_of_lt hx] at e1
    rw [Nat.mod_eq_of_lt hy] at e2
    exact e1.symm.trans e2
  · rintro rfl
    exact ⟨rfl, rfl, rfl, rfl, rfl, rfl, rfl, rfl, rfl⟩
theorem nine_eq {x y : Nat} (hx : x < 2 ^ (64 * 9)) (hy : y < 2 ^ (64 * 9)) : (dg x 0 == dg y 0 && (dg x 1 == dg y 1 && (dg x 2 == dg y 2 && (dg x 3 == dg y 3 && (dg x 4 == dg y 4 && (dg x 5 == dg y 5 && (dg x 6 == dg y 6 && (dg x 7 == dg y 7 && (dg x 8 == dg y 8))))))))) = decide (x = y) := nine_eqK rfl hx hy
/-- How far the search for what divides both has come. -/
structure GW (a b x y : Nat) : Prop where
  ox : ∃ m, x = 2 * m + 1
  oy : ∃ m, y = 2 * m + 1
  lx : x < 2 ^ (64 * 9)
  ly : y < 2 ^ (64 * 9)
  g : Nat.gcd x y = Nat.gcd (od a) (od b)
theorem od_ltK {n K e : Nat} (he : e = 64 * K) (h : n < 2 ^ e) : od n < 2 ^ (64 * K) := he ▸ Nat.lt_of_le_of_lt (od_le n) h
theorem GW.start {a b : Nat} (ha0 : 0 < a) (hb0 : 0 < b) (ha : a < 2 ^ (64 * 9)) (hb : b < 2 ^ (64 * 9)) : GW a b (od a) (od b) :=
  ⟨(od_spec (64 * 9) rfl ha0 ha).1, (od_spec (64 * 9) rfl hb0 hb).1, od_ltK (K := 9) rfl ha, od_ltK (K := 9) rfl hb, rfl⟩
theorem GW.left {a b x y : Nat} (h : GW a b x y) (hlt : y < x) : GW a b (od (x - y)) y ∧ od (x - y) < x := by
  obtain ⟨h1, ⟨m, h2⟩, h3, h4, h5⟩ := h
  have hs : x - y < 2 ^ (64 * 9) := Nat.lt_of_le_of_lt (Nat.sub_le _ _) h3
  exact ⟨⟨(od_spec (64 * 9) rfl (Nat.sub_pos_of_lt hlt) hs).1, ⟨m, h2⟩, od_ltK (K := 9) rfl hs, h4, (gcd_step h2 (64 * 9) rfl hlt h3).trans h5⟩, by have := od_le (x - y); clear h3 h4 hs; omega⟩
theorem GW.swap {a b x y : Nat} (h : GW a b x y) : GW b a y x := ⟨h.oy, h.ox, h.ly, h.lx, by rw [Nat.gcd_comm, h.g, Nat.gcd_comm]⟩
theorem GW.right {a b x y : Nat} (h : GW a b x y) (hlt : x < y) : GW a b x (od (y - x)) ∧ od (y - x) < y :=
  ⟨(h.swap.left hlt).1.swap, (h.swap.left hlt).2⟩
theorem GW.done {a b x : Nat} (h : GW a b x x) (ha0 : 0 < a) (hb0 : 0 < b) (ha : a < 2 ^ (64 * 9)) (hb : b < 2 ^ (64 * 9)) : x * 2 ^ (min (tz a) (tz b)) = Nat.gcd a b := by
  rw [← gcd_twos (64 * 9) rfl ha0 hb0 ha hb, ← h.g, Nat.gcd_self]
theorem dbl (x k : Nat) : x * 2 ^ k + x * 2 ^ k = x * 2 ^ (k + 1) := by rw [Nat.pow_succ, ← Nat.mul_assoc]; omega
theorem wsum_v (a b : Nat) (h : a + a = b) (w : World) :
    Calls Tryz.prog 127 #[.agg #[.int .u64 (dg (a) 0), .int .u64 (dg (a) 1), .int .u64 (dg (a) 2), .int .u64 (dg (a) 3), .int .u64 (dg (a) 4), .int .u64 (dg (a) 5), .int .u64 (dg (a) 6), .int .u64 (dg (a) 7), .int .u64 (dg (a) 8)], .agg #[.int .u64 (dg (a) 0), .int .u64 (dg (a) 1), .int .u64 (dg (a) 2), .int .u64 (dg (a) 3), .int .u64 (dg (a) 4), .int .u64 (dg (a) 5), .int .u64 (dg (a) 6), .int .u64 (dg (a) 7), .int .u64 (dg (a) 8)]] w fun e w' => e = .returned (.agg #[.int .u64 (dg (b) 0), .int .u64 (dg (b) 1), .int .u64 (dg (b) 2), .int .u64 (dg (b) 3), .int .u64 (dg (b) 4), .int .u64 (dg (b) 5), .int .u64 (dg (b) 6), .int .u64 (dg (b) 7), .int .u64 (dg (b) 8)]) ∧ Below w.heap.size w w' := by
  rw [← h]
  exact wsum_any a a w
set_option maxRecDepth 20000 in
set_option maxHeartbeats 2000000 in
theorem wgcd_left (a b : Nat) (ha : a < 2 ^ (64 * 9)) (hb : b < 2 ^ (64 * 9)) (h0 : a = 0) (w : World) :
    Calls Tryz.prog 154 #[.agg #[.int .u64 (dg (a) 0), .int .u64 (dg (a) 1), .int .u64 (dg (a) 2), .int .u64 (dg (a) 3), .int .u64 (dg (a) 4), .int .u64 (dg (a) 5), .int .u64 (dg (a) 6), .int .u64 (dg (a) 7), .int .u64 (dg (a) 8)], .agg #[.int .u64 (dg (b) 0), .int .u64 (dg (b) 1), .int .u64 (dg (b) 2), .int .u64 (dg (b) 3), .int .u64 (dg (b) 4), .int .u64 (dg (b) 5), .int .u64 (dg (b) 6), .int .u64 (dg (b) 7), .int .u64 (dg (b) 8)]] w fun e w' => e = .returned (.agg #[.int .u64 (dg (b) 0), .int .u64 (dg (b) 1), .int .u64 (dg (b) 2), .int .u64 (dg (b) 3), .int .u64 (dg (b) 4), .int .u64 (dg (b) 5), .int .u64 (dg (b) 6), .int .u64 (dg (b) 7), .int .u64 (dg (b) 8)]) ∧ Below w.heap.size w w' := by
  have hza := nine_zero ha
  have hzb := nine_zero hb
  rw [decide_eq_true h0] at hza
  clear ha hb h0
  go_enter Tryz.func154, Tryz.ntmps154
  go_upto_region 2 with (fail)
  clear hza hzb
  refine abs_wp (fun W => W.heap[w.heap.size]? = some (.cells #[.int .u64 (dg (a) 0), .int .u64 (dg (a) 1), .int .u64 (dg (a) 2), .int .u64 (dg (a) 3), .int .u64 (dg (a) 4), .int .u64 (dg (a) 5), .int .u64 (dg (a) 6), .int .u64 (dg (a) 7), .int .u64 (dg (a) 8)] 160 (0, 0)) ∧ W.heap[w.heap.size + 1]? = some (.cells #[.int .u64 (dg (b) 0), .int .u64 (dg (b) 1), .int .u64 (dg (b) 2), .int .u64 (dg (b) 3), .int .u64 (dg (b) 4), .int .u64 (dg (b) 5), .int .u64 (dg (b) 6), .int .u64 (dg (b) 7), .int .u64 (dg (b) 8)] 160 (0, 0)) ∧ W.heap[w.heap.size + 1 + 1]? = some (.cells #[.int .u64 (dg (0) 0), .int .u64 (dg (0) 1), .int .u64 (dg (0) 2), .int .u64 (dg (0) 3), .int .u64 (dg (0) 4), .int .u64 (dg (0) 5), .int .u64 (dg (0) 6), .int .u64 (dg (0) 7), .int .u64 (dg (0) 8)] 160 (0, 0)) ∧ Below w.heap.size w W) ⟨heap_old (heap_old (heap_new _ _) _) _, heap_old (heap_at (by simp) _) _, by simp only [dg_zero]; exact heap_at (by simp) _, by focus (repeat (first | (with_reducible exact Below.refl _ _) | (with_reducible assumption) | ((with_reducible refine Below.setCell ?_ ?_ _); rotate_left; (focus (first | omega | (simp; done) | (simp; omega)))) | ((with_reducible refine Below.alloc ?_ ?_ _); rotate_left; (focus (first | omega | (simp; done) | (simp; omega)))) | (with_reducible refine Below.drew ?_) | (refine below_on ?_ (by assumption))))⟩ fun W ⟨z0, z1, z2, hB⟩ => ?_
  have c0 := cell_at z0
  have c1 := cell_at z1
  have c2 := cell_at z2
  have f2 := frozen_at z2
  go_wp2
  obtain ⟨l1, l2, l3⟩ := laid_9 (w.heap.size + 1 + 1) W (.int .u64 (dg (b) 0)) (.int .u64 (dg (b) 1)) (.int .u64 (dg (b) 2)) (.int .u64 (dg (b) 3)) (.int .u64 (dg (b) 4)) (.int .u64 (dg (b) 5)) (.int .u64 (dg (b) 6)) (.int .u64 (dg (b) 7)) (.int .u64 (dg (b) 8))
  have c3 := cell_at (l1 z2 rfl)
  refine bodyPost_ret (by simp [results, Tryz.results154, go_sem, c3] <;> rfl) rfl ⟨rfl, hB.trans (l3 _ (by omega))⟩
set_option maxRecDepth 20000 in
set_option maxHeartbeats 2000000 in
theorem wgcd_right (a b : Nat) (ha : a < 2 ^ (64 * 9)) (hb : b < 2 ^ (64 * 9)) (h0 : 0 < a ∧ b = 0) (w : World) :
    Calls Tryz.prog 154 #[.agg #[.int .u64 (dg (a) 0), .int .u64 (dg (a) 1), .int .u64 (dg (a) 2), .int .u64 (dg (a) 3), .int .u64 (dg (a) 4), .int .u64 (dg (a) 5), .int .u64 (dg (a) 6), .int .u64 (dg (a) 7), .int .u64 (dg (a) 8)], .agg #[.int .u64 (dg (b) 0), .int .u64 (dg (b) 1), .int .u64 (dg (b) 2), .int .u64 (dg (b) 3), .int .u64 (dg (b) 4), .int .u64 (dg (b) 5), .int .u64 (dg (b) 6), .int .u64 (dg (b) 7), .int .u64 (dg (b) 8)]] w fun e w' => e = .returned (.agg #[.int .u64 (dg (a) 0), .int .u64 (dg (a) 1), .int .u64 (dg (a) 2), .int .u64 (dg (a) 3), .int .u64 (dg (a) 4), .int .u64 (dg (a) 5), .int .u64 (dg (a) 6), .int .u64 (dg (a) 7), .int .u64 (dg (a) 8)]) ∧ Below w.heap.size w w' := by
  have hza := nine_zero ha
  have hzb := nine_zero hb
  rw [decide_eq_false (Nat.ne_of_gt h0.1)] at hza
  rw [decide_eq_true h0.2] at hzb
  clear ha hb h0
  go_enter Tryz.func154, Tryz.ntmps154
  go_upto_region 4 with (fail)
  clear hza hzb
  refine abs_wp (fun W => W.heap[w.heap.size]? = some (.cells #[.int .u64 (dg (a) 0), .int .u64 (dg (a) 1), .int .u64 (dg (a) 2), .int .u64 (dg (a) 3), .int .u64 (dg (a) 4), .int .u64 (dg (a) 5), .int .u64 (dg (a) 6), .int .u64 (dg (a) 7), .int .u64 (dg (a) 8)] 160 (0, 0)) ∧ W.heap[w.heap.size + 1]? = some (.cells #[.int .u64 (dg (b) 0), .int .u64 (dg (b) 1), .int .u64 (dg (b) 2), .int .u64 (dg (b) 3), .int .u64 (dg (b) 4), .int .u64 (dg (b) 5), .int .u64 (dg (b) 6), .int .u64 (dg (b) 7), .int .u64 (dg (b) 8)] 160 (0, 0)) ∧ W.heap[w.heap.size + 1 + 1]? = some (.cells #[.int .u64 (dg (0) 0), .int .u64 (dg (0) 1), .int .u64 (dg (0) 2), .int .u64 (dg (0) 3), .int .u64 (dg (0) 4), .int .u64 (dg (0) 5), .int .u64 (dg (0) 6), .int .u64 (dg (0) 7), .int .u64 (dg (0) 8)] 160 (0, 0)) ∧ Below w.heap.size w W) ⟨heap_old (heap_old (heap_new _ _) _) _, heap_old (heap_at (by simp) _) _, by simp only [dg_zero]; exact heap_at (by simp) _, by focus (repeat (first | (with_reducible exact Below.refl _ _) | (with_reducible assumption) | ((with_reducible refine Below.setCell ?_ ?_ _); rotate_left; (focus (first | omega | (simp; done) | (simp; omega)))) | ((with_reducible refine Below.alloc ?_ ?_ _); rotate_left; (focus (first | omega | (simp; done) | (simp; omega)))) | (with_reducible refine Below.drew ?_) | (refine below_on ?_ (by assumption))))⟩ fun W ⟨z0, z1, z2, hB⟩ => ?_
  have c0 := cell_at z0
  have c1 := cell_at z1
  have c2 := cell_at z2
  have f2 := frozen_at z2
  go_wp2
  obtain ⟨l1, l2, l3⟩ := laid_9 (w.heap.size + 1 + 1) W (.int .u64 (dg (a) 0)) (.int .u64 (dg (a) 1)) (.int .u64 (dg (a) 2)) (.int .u64 (dg (a) 3)) (.int .u64 (dg (a) 4)) (.int .u64 (dg (a) 5)) (.int .u64 (dg (a) 6)) (.int .u64 (dg (a) 7)) (.int .u64 (dg (a) 8))
  have c3 := cell_at (l1 z2 rfl)
  refine bodyPost_ret (by simp [results, Tryz.results154, go_sem, c3] <;> rfl) rfl ⟨rfl, hB.trans (l3 _ (by omega))⟩
end Go.Proofs.YtbhfnfokihdjjaaGreatDoor

namespace Go.Proofs.YtbhfnfokihdjjaaGreatDoor
open Go.RowKit Go.BigFrame

set_option maxRecDepth 20000 in
set_option maxHeartbeats 4000000 in
theorem wgcd_main (a b : Nat) (ha : a < 2 ^ (64 * 9)) (hb : b < 2 ^ (64 * 9)) (ha0 : 0 < a) (hb0 : 0 < b) (w : World) (hV : Vars w) :
    Calls Tryz.prog 154 #[.agg #[.int .u64 (dg (a) 0), .int .u64 (dg (a) 1), .int .u64 (dg (a) 2), .int .u64 (dg (a) 3), .int .u64 (dg (a) 4), .int .u64 (dg (a) 5), .int .u64 (dg (a) 6), .int .u64 (dg (a) 7), .int .u64 (dg (a) 8)], .agg #[.int .u64 (dg (b) 0), .int .u64 (dg (b) 1), .int .u64 (dg (b) 2), .int .u64 (dg (b) 3), .int .u64 (dg (b) 4), .int .u64 (dg (b) 5), .int .u64 (dg (b) 6), .int .u64 (dg (b) 7), .int .u64 (dg (b) 8)]] w fun e w' => e = .returned (.agg #[.int .u64 (dg (Nat.gcd a b) 0), .int .u64 (dg (Nat.gcd a b) 1), .int .u64 (dg (Nat.gcd a b) 2), .int .u64 (dg (Nat.gcd a b) 3), .int .u64 (dg (Nat.gcd a b) 4), .int .u64 (dg (Nat.gcd a b) 5), .int .u64 (dg (Nat.gcd a b) 6), .int .u64 (dg (Nat.gcd a b) 7), .int .u64 (dg (Nat.gcd a b) 8)]) ∧ Below w.heap.size w w' := by
  have hza := nine_zero ha
  have hzb := nine_zero hb
  rw [decide_eq_false (Nat.ne_of_gt ha0)] at hza
  rw [decide_eq_false (Nat.ne_of_gt hb0)] at hzb
  have HV := Hd.mk hV
  have HZ : Hd (∀ x, (x = a ∨ x = b) → ∀ W, Vars W → Calls Tryz.prog 172 #[.agg #[.int .u64 (dg (x) 0), .int .u64 (dg (x) 1), .int .u64 (dg (x) 2), .int .u64 (dg (x) 3), .int .u64 (dg (x) 4), .int .u64 (dg (x) 5), .int .u64 (dg (x) 6), .int .u64 (dg (x) 7), .int .u64 (dg (x) 8)]] W fun e w' => e = .returned (.int .i64 (tz x)) ∧ Below W.heap.size W w') := ⟨by
    rintro x (rfl | rfl) W hW
    · exact wzeros_any _ ha0 ha W hW
    · exact wzeros_any _ hb0 hb W hW⟩
  have HO : Hd (∀ x, (x = a ∨ x = b) → ∀ W, Vars W → Calls Tryz.prog 173 #[.agg #[.int .u64 (dg (x) 0), .int .u64 (dg (x) 1), .int .u64 (dg (x) 2), .int .u64 (dg (x) 3), .int .u64 (dg (x) 4), .int .u64 (dg (x) 5), .int .u64 (dg (x) 6), .int .u64 (dg (x) 7), .int .u64 (dg (x) 8)]] W fun e w' => e = .returned (.agg #[.int .u64 (dg (od x) 0), .int .u64 (dg (od x) 1), .int .u64 (dg (od x) 2), .int .u64 (dg (od x) 3), .int .u64 (dg (od x) 4), .int .u64 (dg (od x) 5), .int .u64 (dg (od x) 6), .int .u64 (dg (od x) 7), .int .u64 (dg (od x) 8)]) ∧ Below W.heap.size W w') := ⟨by
    rintro x (rfl | rfl) W hW
    · exact wodd_any _ ha W hW
    · exact wodd_any _ hb W hW⟩
  have HG := Hd.mk (GW.start ha0 hb0 ha hb)
  obtain ⟨T, hT⟩ : ∃ T, T = min (tz a) (tz b) := ⟨_, rfl⟩
  have HT : Hd (T < 9223372036854775807) := ⟨by rw [hT]; exact Nat.lt_of_le_of_lt (Nat.min_le_left _ _) (Nat.lt_of_lt_of_le (od_spec (64 * 9) rfl ha0 ha).2.2 (by decide))⟩
  have HT2 : Hd (min ((tz a : Nat) : Int) ((tz b : Nat) : Int) = (T : Int)) := ⟨by rw [hT]; omega⟩
  have HD : Hd (∀ x, GW a b x x → x * 2 ^ T = Nat.gcd a b) := ⟨fun x h => by rw [hT]; exact h.done ha0 hb0 ha hb⟩
  clear ha hb ha0 hb0 hV hT
  go_enter Tryz.func154, Tryz.ntmps154
  go_upto_region 5 with (fail)
  clear hza hzb
  refine abs_wp (fun W => W.heap[w.heap.size]? = some (.cells #[.int .u64 (dg (a) 0), .int .u64 (dg (a) 1), .int .u64 (dg (a) 2), .int .u64 (dg (a) 3), .int .u64 (dg (a) 4), .int .u64 (dg (a) 5), .int .u64 (dg (a) 6), .int .u64 (dg (a) 7), .int .u64 (dg (a) 8)] 160 (0, 0)) ∧ W.heap[w.heap.size + 1]? = some (.cells #[.int .u64 (dg (b) 0), .int .u64 (dg (b) 1), .int .u64 (dg (b) 2), .int .u64 (dg (b) 3), .int .u64 (dg (b) 4), .int .u64 (dg (b) 5), .int .u64 (dg (b) 6), .int .u64 (dg (b) 7), .int .u64 (dg (b) 8)] 160 (0, 0)) ∧ W.heap[w.heap.size + 1 + 1]? = some (.cells #[.int .u64 (dg (0) 0), .int .u64 (dg (0) 1), .int .u64 (dg (0) 2), .int .u64 (dg (0) 3), .int .u64 (dg (0) 4), .int .u64 (dg (0) 5), .int .u64 (dg (0) 6), .int .u64 (dg (0) 7), .int .u64 (dg (0) 8)] 160 (0, 0)) ∧ Below w.heap.size w W) ⟨heap_old (heap_old (heap_new _ _) _) _, heap_old (heap_at (by simp) _) _, by simp only [dg_zero]; exact heap_at (by simp) _, by focus (repeat (first | (with_reducible exact Below.refl _ _) | (with_reducible assumption) | ((with_reducible refine Below.setCell ?_ ?_ _); rotate_left; (focus (first | omega | (simp; done) | (simp; omega)))) | ((with_reducible refine Below.alloc ?_ ?_ _); rotate_left; (focus (first | omega | (simp; done) | (simp; omega)))) | (with_reducible refine Below.drew ?_) | (refine below_on ?_ (by assumption))))⟩ fun W ⟨z0, z1, z2, hB⟩ => ?_
  have HVW := Hd.mk (HV.out.below hB)
  refine region_qt 5 (by kernel_rfl) (by kernel_rfl) fun X _ mk hmk hcl => ?_
  have c0 := mk_cell hmk z0
  have c1 := mk_cell hmk z1
  simp only [List.take_succ_cons, List.take_zero, List.drop_succ_cons, List.drop_zero]
  repeat (go_big_quiet_step ((go_at_call 172; exact (HZ.out _ (by first | (with_reducible exact Or.inl rfl) | (with_reducible exact Or.inr rfl)) _ (HVW.out.below (hmk _))).mono fun e w' ⟨he, hw⟩ => ⟨he, hcl _ _ hw⟩)))
  refine wpQuiet_nil ?_
  rintro _ ⟨x, rfl⟩
  clear c0 c1
  have hx := hmk x
  clear hcl hmk
  generalize mk x = W1 at hx
  have y0 := heap_below hx z0
  have y1 := heap_below hx z1
  have y2 := heap_below hx z2
  have hB1 := below_on hB hx
  have HVX := Hd.mk (HVW.out.below hx)
  clear z0 z1 z2 hB hx HVW HZ
  go_upto_region 6 with (fail)
  rw [HT2.out]
  refine region_qt 4 (by kernel_rfl) (by kernel_rfl) fun X _ mk hmk hcl => ?_
  have c0 := mk_cell hmk y0
  have c1 := mk_cell hmk y1
  simp only [List.take_succ_cons, List.take_zero, List.drop_succ_cons, List.drop_zero]
  repeat (go_big_quiet_step ((go_at_call 173; exact (HO.out _ (by first | (with_reducible exact Or.inl rfl) | (with_reducible exact Or.inr rfl)) _ (HVX.out.below (hmk _))).mono fun e w' ⟨he, hw⟩ => ⟨he, hcl _ _ hw⟩)))
  refine wpQuiet_nil ?_
  rintro _ ⟨x, rfl⟩
  clear c0 c1
  have hx := hmk x
  clear hcl hmk
  generalize mk x = W2 at hx
  have z0 := heap_below hx y0
  have z1 := heap_below hx y1
  have z2 := heap_below hx y2
  have hB2 := below_on hB1 hx
  have HVY := Hd.mk (HVX.out.below hx)
  have c0 := cell_at z0
  have f0 := frozen_at z0
  have c1 := cell_at z1
  have f1 := frozen_at z1
  clear y0 y1 y2 hB1 hx HVX HO
  go_wp2
  refine abs_wp (fun W => W.heap[w.heap.size]? = some (.cells #[.int .u64 (dg (od a) 0), .int .u64 (dg (od a) 1), .int .u64 (dg (od a) 2), .int .u64 (dg (od a) 3), .int .u64 (dg (od a) 4), .int .u64 (dg (od a) 5), .int .u64 (dg (od a) 6), .int .u64 (dg (od a) 7), .int .u64 (dg (od a) 8)] 160 (0, 0)) ∧ W.heap[w.heap.size + 1]? = some (.cells #[.int .u64 (dg (od b) 0), .int .u64 (dg (od b) 1), .int .u64 (dg (od b) 2), .int .u64 (dg (od b) 3), .int .u64 (dg (od b) 4), .int .u64 (dg (od b) 5), .int .u64 (dg (od b) 6), .int .u64 (dg (od b) 7), .int .u64 (dg (od b) 8)] 160 (0, 0)) ∧ W.heap[w.heap.size + 1 + 1]? = some (.cells #[.int .u64 (dg (0) 0), .int .u64 (dg (0) 1), .int .u64 (dg (0) 2), .int .u64 (dg (0) 3), .int .u64 (dg (0) 4), .int .u64 (dg (0) 5), .int .u64 (dg (0) 6), .int .u64 (dg (0) 7), .int .u64 (dg (0) 8)] 160 (0, 0)) ∧ Vars W ∧ Below w.heap.size w W) ?_ fun W ⟨v0, v1, v2, hVs, hB⟩ => ?_
  · obtain ⟨l1, l2, l3⟩ := laid_9 (w.heap.size) W2 (.int .u64 (dg (od a) 0)) (.int .u64 (dg (od a) 1)) (.int .u64 (dg (od a) 2)) (.int .u64 (dg (od a) 3)) (.int .u64 (dg (od a) 4)) (.int .u64 (dg (od a) 5)) (.int .u64 (dg (od a) 6)) (.int .u64 (dg (od a) 7)) (.int .u64 (dg (od a) 8))
    obtain ⟨m1, m2, m3⟩ := laid_9 (w.heap.size + 1) _ (.int .u64 (dg (od b) 0)) (.int .u64 (dg (od b) 1)) (.int .u64 (dg (od b) 2)) (.int .u64 (dg (od b) 3)) (.int .u64 (dg (od b) 4)) (.int .u64 (dg (od b) 5)) (.int .u64 (dg (od b) 6)) (.int .u64 (dg (od b) 7)) (.int .u64 (dg (od b) 8))
    have hx := hB2.trans ((l3 _ (Nat.le_refl _)).trans (m3 _ (by omega)))
    exact ⟨m2 _ _ (by omega) (l1 z0 rfl), m1 (l2 _ _ (by omega) z1) rfl, m2 _ _ (by omega) (l2 _ _ (by omega) z2), HV.out.below hx, hx⟩
  clear z0 z1 z2 c0 c1 f0 f1 hB2 HVY
  have HVs := Hd.mk hVs
  clear hVs
  go_loopw [] (fun wr => ∃ x y : Nat, Hd (GW a b x y) ∧ wr.heap[w.heap.size]? = some (.cells #[.int .u64 (dg (x) 0), .int .u64 (dg (x) 1), .int .u64 (dg (x) 2), .int .u64 (dg (x) 3), .int .u64 (dg (x) 4), .int .u64 (dg (x) 5), .int .u64 (dg (x) 6), .int .u64 (dg (x) 7), .int .u64 (dg (x) 8)] 160 (0, 0)) ∧ wr.heap[w.heap.size + 1]? = some (.cells #[.int .u64 (dg (y) 0), .int .u64 (dg (y) 1), .int .u64 (dg (y) 2), .int .u64 (dg (y) 3), .int .u64 (dg (y) 4), .int .u64 (dg (y) 5), .int .u64 (dg (y) 6), .int .u64 (dg (y) 7), .int .u64 (dg (y) 8)] 160 (0, 0)) ∧ wr.heap[w.heap.size + 1 + 1]? = some (.cells #[.int .u64 (dg (0) 0), .int .u64 (dg (0) 1), .int .u64 (dg (0) 2), .int .u64 (dg (0) 3), .int .u64 (dg (0) 4), .int .u64 (dg (0) 5), .int .u64 (dg (0) 6), .int .u64 (dg (0) 7), .int .u64 (dg (0) 8)] 160 (0, 0)) ∧ Vars wr ∧ Below w.heap.size w wr) (fun wr => wideOf w.heap.size wr + wideOf (w.heap.size + 1) wr)
  case atStart => exact ⟨_, _, HG, v0, v1, v2, HVs.out, hB⟩
  case round =>
    clear v0 v1 v2 hB HVs HG
    obtain ⟨x, y, HG, z0, z1, z2, hVs, hB⟩ := hrel
    have HVs := Hd.mk hVs
    have HM : Hd (wideOf w.heap.size wr + wideOf (w.heap.size + 1) wr = x + y) := ⟨by rw [wideOf_eq HG.out.lx z0, wideOf_eq HG.out.ly z1]⟩
    have hxy := nine_eq HG.out.lx HG.out.ly
    have c0 := cell_at z0
    have c1 := cell_at z1
    clear hVs
    by_cases he : x = y
    · rw [decide_eq_true he] at hxy
      subst he
      have HX := Hd.mk (HD.out x HG.out)
      go_wp2
      clear hxy
      have HVr := HVs
      go_loopw [51] (fun i wr => ∃ k : Nat, k ≤ T ∧ i = .int .i64 k ∧ wr.heap[w.heap.size]? = some (.cells #[.int .u64 (dg (x * 2 ^ k) 0), .int .u64 (dg (x * 2 ^ k) 1), .int .u64 (dg (x * 2 ^ k) 2), .int .u64 (dg (x * 2 ^ k) 3), .int .u64 (dg (x * 2 ^ k) 4), .int .u64 (dg (x * 2 ^ k) 5), .int .u64 (dg (x * 2 ^ k) 6), .int .u64 (dg (x * 2 ^ k) 7), .int .u64 (dg (x * 2 ^ k) 8)] 160 (0, 0)) ∧ wr.heap[w.heap.size + 1]? = some (.cells #[.int .u64 (dg (x) 0), .int .u64 (dg (x) 1), .int .u64 (dg (x) 2), .int .u64 (dg (x) 3), .int .u64 (dg (x) 4), .int .u64 (dg (x) 5), .int .u64 (dg (x) 6), .int .u64 (dg (x) 7), .int .u64 (dg (x) 8)] 160 (0, 0)) ∧ wr.heap[w.heap.size + 1 + 1]? = some (.cells #[.int .u64 (dg (0) 0), .int .u64 (dg (0) 1), .int .u64 (dg (0) 2), .int .u64 (dg (0) 3), .int .u64 (dg (0) 4), .int .u64 (dg (0) 5), .int .u64 (dg (0) 6), .int .u64 (dg (0) 7), .int .u64 (dg (0) 8)] 160 (0, 0)) ∧ Below w.heap.size w wr) (fun i _ => T - (intOf i).toNat)
      case atStart => exact ⟨0, Nat.zero_le _, rfl, by rw [Nat.pow_zero, Nat.mul_one]; exact z0, z1, z2, hB⟩
      case round =>
        clear z0 z1 z2 hB c0 c1
        obtain ⟨k, hk, rfl, z0, z1, z2, hB⟩ := hrel
        have ht := HT.out
        by_cases hlt : k < T
        · have hd : decide (k < T) = true := by simp [hlt]
          have c0 := cell_at z0
          go_wp2_with fail
          refine (wsum_v (x * 2 ^ k) (x * 2 ^ (k + 1)) (dbl x k) _).mono ?_
          rintro e wa ⟨rfl, hb⟩
          have y0 := heap_below hb z0
          have y1 := heap_below hb z1
          have y2 := heap_below hb z2
          have hB2 := below_on hB hb
          have p0 := cell_at y0
          have f0 := frozen_at y0
          clear hb z0 z1 z2 c0 hB
          go_wp2
          go_roundw
          case rel =>
            obtain ⟨l1, l2, l3⟩ := laid_9 (w.heap.size) wa (.int .u64 (dg (x * 2 ^ (k + 1)) 0)) (.int .u64 (dg (x * 2 ^ (k + 1)) 1)) (.int .u64 (dg (x * 2 ^ (k + 1)) 2)) (.int .u64 (dg (x * 2 ^ (k + 1)) 3)) (.int .u64 (dg (x * 2 ^ (k + 1)) 4)) (.int .u64 (dg (x * 2 ^ (k + 1)) 5)) (.int .u64 (dg (x * 2 ^ (k + 1)) 6)) (.int .u64 (dg (x * 2 ^ (k + 1)) 7)) (.int .u64 (dg (x * 2 ^ (k + 1)) 8))
            exact ⟨k + 1, by omega, by go_num, l1 y0 rfl, l2 _ _ (by omega) y1, l2 _ _ (by omega) y2, hB2.trans (l3 _ (Nat.le_refl _))⟩
          case measure => simp [intOf]; omega
        · obtain rfl : k = T := by omega
          have hd : decide (k < k) = false := by simp
          rw [HX.out] at z0
          have c0 := cell_at z0
          have c2 := cell_at z2
          have f2 := frozen_at z2
          have hs := lt_of_block z2
          go_wp2
          obtain ⟨l1, l2, l3⟩ := laid_9 (w.heap.size + 1 + 1) wr (.int .u64 (dg (Nat.gcd a b) 0)) (.int .u64 (dg (Nat.gcd a b) 1)) (.int .u64 (dg (Nat.gcd a b) 2)) (.int .u64 (dg (Nat.gcd a b) 3)) (.int .u64 (dg (Nat.gcd a b) 4)) (.int .u64 (dg (Nat.gcd a b) 5)) (.int .u64 (dg (Nat.gcd a b) 6)) (.int .u64 (dg (Nat.gcd a b) 7)) (.int .u64 (dg (Nat.gcd a b) 8))
          have c3 := cell_at (l1 z2 rfl)
          refine bodyPost_ret (by simp [results, Tryz.results154, go_sem, c3] <;> rfl) rfl ⟨rfl, hB.trans (l3 _ (by omega))⟩
    · rw [decide_eq_false he] at hxy
      have hs2 := lt_of_block z2
      have hsz := hB.size
      by_cases hlt : y < x
      · have HN := Hd.mk (HG.out.left hlt)
        have HLT := Hd.mk hlt
        have HL : Hd (x - y < 2 ^ (64 * 9)) := ⟨Nat.lt_of_le_of_lt (Nat.sub_le _ _) HG.out.lx⟩
        clear he hlt
        go_wp2_with fail
        refine (wless_ge x y HG.out.lx (Nat.le_of_lt HLT.out) _).mono ?_
        rintro e wa ⟨rfl, hb⟩
        have y0 := heap_below hb z0
        have y1 := heap_below hb z1
        have y2 := heap_below hb z2
        have hB2 := below_on hB hb
        have hV2 := HVs.out.below hb
        have s2 := lt_of_block y2
        clear hb z0 z1 z2 c0 c1 hB hxy
        go_wp2_with fail
        refine (wodd_any (x - y) HL.out _ (hV2.low (by have := hV2.size; omega) (Below.alloc (Below.refl _ _) (Nat.le_refl _) _))).mono ?_
        rintro e wb ⟨rfl, hb⟩
        have v0 := heap_below hb (heap_old y0 _)
        have v1 := heap_below hb (heap_old y1 _)
        have v2 := heap_below hb (heap_old y2 _)
        have hB3 := below_on (Below.alloc hB2 (by omega) _) hb
        have q0 := cell_at v0
        have g0 := frozen_at v0
        clear hb y0 y1 y2 hB2 hV2
        go_wp2
        go_roundw
        case rel =>
          obtain ⟨l1, l2, l3⟩ := laid_9 (w.heap.size) wb (.int .u64 (dg (od (x - y)) 0)) (.int .u64 (dg (od (x - y)) 1)) (.int .u64 (dg (od (x - y)) 2)) (.int .u64 (dg (od (x - y)) 3)) (.int .u64 (dg (od (x - y)) 4)) (.int .u64 (dg (od (x - y)) 5)) (.int .u64 (dg (od (x - y)) 6)) (.int .u64 (dg (od (x - y)) 7)) (.int .u64 (dg (od (x - y)) 8))
          have hB4 := hB3.trans (l3 _ (Nat.le_refl _))
          exact ⟨od (x - y), y, ⟨HN.out.1⟩, l1 v0 rfl, l2 _ _ (by omega) v1, l2 _ _ (by omega) v2, HV.out.below hB4, hB4⟩
        case measure =>
          obtain ⟨l1, l2, l3⟩ := laid_9 (w.heap.size) wb (.int .u64 (dg (od (x - y)) 0)) (.int .u64 (dg (od (x - y)) 1)) (.int .u64 (dg (od (x - y)) 2)) (.int .u64 (dg (od (x - y)) 3)) (.int .u64 (dg (od (x - y)) 4)) (.int .u64 (dg (od (x - y)) 5)) (.int .u64 (dg (od (x - y)) 6)) (.int .u64 (dg (od (x - y)) 7)) (.int .u64 (dg (od (x - y)) 8))
          have e1 := wideOf_eq HN.out.1.lx (l1 v0 rfl)
          have e2 := wideOf_eq HN.out.1.ly (l2 _ _ (by omega) v1)
          have e3 := HN.out.2
          refine Nat.lt_of_le_of_lt (Nat.le_of_eq (congr (congrArg HAdd.hAdd e1) e2)) (Nat.lt_of_lt_of_eq ?_ HM.out.symm)
          omega
      · have hlt : x < y := by omega
        have HN := Hd.mk (HG.out.right hlt)
        have HLT := Hd.mk hlt
        have HL : Hd (y - x < 2 ^ (64 * 9)) := ⟨Nat.lt_of_le_of_lt (Nat.sub_le _ _) HG.out.ly⟩
        clear he hlt
        go_wp2_with fail
        refine (wless_lt x y HG.out.ly HLT.out _).mono ?_
        rintro e wa ⟨R, rfl, hb⟩
        have y0 := heap_below hb z0
        have y1 := heap_below hb z1
        have y2 := heap_below hb z2
        have hB2 := below_on hB hb
        have hV2 := HVs.out.below hb
        have s2 := lt_of_block y2
        clear hb z0 z1 z2 c0 c1 hB hxy
        have c0 := cell_at (heap_old y0 (.cells #[.int .u64 (dg (R) 0), .int .u64 (dg (R) 1), .int .u64 (dg (R) 2), .int .u64 (dg (R) 3), .int .u64 (dg (R) 4), .int .u64 (dg (R) 5), .int .u64 (dg (R) 6), .int .u64 (dg (R) 7), .int .u64 (dg (R) 8)] 160))
        have c1 := cell_at (heap_old y1 (.cells #[.int .u64 (dg (R) 0), .int .u64 (dg (R) 1), .int .u64 (dg (R) 2), .int .u64 (dg (R) 3), .int .u64 (dg (R) 4), .int .u64 (dg (R) 5), .int .u64 (dg (R) 6), .int .u64 (dg (R) 7), .int .u64 (dg (R) 8)] 160))
        go_wp2_with fail
        refine (wless_ge y x HG.out.ly (Nat.le_of_lt HLT.out) _).mono ?_
        rintro e wd ⟨rfl, hb⟩
        have x0 := heap_below hb (heap_old y0 _)
        have x1 := heap_below hb (heap_old y1 _)
        have x2 := heap_below hb (heap_old y2 _)
        have hB5 := below_on (Below.alloc hB2 (by omega) _) hb
        have s5 := lt_of_block x2
        have hV5 := HV.out.below hB5
        clear hb y0 y1 y2 hB2 hV2 c0 c1 s2
        go_wp2_with fail
        refine (wodd_any (y - x) HL.out _ (hV5.low (by have := hV5.size; omega) (Below.alloc (Below.refl _ _) (Nat.le_refl _) _))).mono ?_
        rintro e wb ⟨rfl, hb⟩
        have v0 := heap_below hb (heap_old x0 _)
        have v1 := heap_below hb (heap_old x1 _)
        have v2 := heap_below hb (heap_old x2 _)
        have hB3 := below_on (Below.alloc hB5 (by omega) _) hb
        have q0 := cell_at v1
        have g0 := frozen_at v1
        clear hb x0 x1 x2 hB5 hV5
        go_wp2
        go_roundw
        case rel =>
          obtain ⟨l1, l2, l3⟩ := laid_9 (w.heap.size + 1) wb (.int .u64 (dg (od (y - x)) 0)) (.int .u64 (dg (od (y - x)) 1)) (.int .u64 (dg (od (y - x)) 2)) (.int .u64 (dg (od (y - x)) 3)) (.int .u64 (dg (od (y - x)) 4)) (.int .u64 (dg (od (y - x)) 5)) (.int .u64 (dg (od (y - x)) 6)) (.int .u64 (dg (od (y - x)) 7)) (.int .u64 (dg (od (y - x)) 8))
          have hB4 := hB3.trans (l3 _ (by omega))
          exact ⟨x, od (y - x), ⟨HN.out.1⟩, l2 _ _ (by omega) v0, l1 v1 rfl, l2 _ _ (by omega) v2, HV.out.below hB4, hB4⟩
        case measure =>
          obtain ⟨l1, l2, l3⟩ := laid_9 (w.heap.size + 1) wb (.int .u64 (dg (od (y - x)) 0)) (.int .u64 (dg (od (y - x)) 1)) (.int .u64 (dg (od (y - x)) 2)) (.int .u64 (dg (od (y - x)) 3)) (.int .u64 (dg (od (y - x)) 4)) (.int .u64 (dg (od (y - x)) 5)) (.int .u64 (dg (od (y - x)) 6)) (.int .u64 (dg (od (y - x)) 7)) (.int .u64 (dg (od (y - x)) 8))
          have e1 := wideOf_eq HN.out.1.lx (l2 _ _ (by omega) v0)
          have e2 := wideOf_eq HN.out.1.ly (l1 v1 rfl)
          have e3 := HN.out.2
          refine Nat.lt_of_le_of_lt (Nat.le_of_eq (congr (congrArg HAdd.hAdd e1) e2)) (Nat.lt_of_lt_of_eq ?_ HM.out.symm)
          omega
/-- The greatest that divides both (the other one, where one is nought). -/
theorem wgcd_any (a b : Nat) (ha : a < 2 ^ (64 * 9)) (hb : b < 2 ^ (64 * 9)) (w : World) (hV : Vars w) :
    Calls Tryz.prog 154 #[.agg #[.int .u64 (dg (a) 0), .int .u64 (dg (a) 1), .int .u64 (dg (a) 2), .int .u64 (dg (a) 3), .int .u64 (dg (a) 4), .int .u64 (dg (a) 5), .int .u64 (dg (a) 6), .int .u64 (dg (a) 7), .int .u64 (dg (a) 8)], .agg #[.int .u64 (dg (b) 0), .int .u64 (dg (b) 1), .int .u64 (dg (b) 2), .int .u64 (dg (b) 3), .int .u64 (dg (b) 4), .int .u64 (dg (b) 5), .int .u64 (dg (b) 6), .int .u64 (dg (b) 7), .int .u64 (dg (b) 8)]] w fun e w' => e = .returned (.agg #[.int .u64 (dg (Nat.gcd a b) 0), .int .u64 (dg (Nat.gcd a b) 1), .int .u64 (dg (Nat.gcd a b) 2), .int .u64 (dg (Nat.gcd a b) 3), .int .u64 (dg (Nat.gcd a b) 4), .int .u64 (dg (Nat.gcd a b) 5), .int .u64 (dg (Nat.gcd a b) 6), .int .u64 (dg (Nat.gcd a b) 7), .int .u64 (dg (Nat.gcd a b) 8)]) ∧ Below w.heap.size w w' := by
  by_cases h1 : a = 0
  · have h := wgcd_left a b ha hb h1 w
    rw [show Nat.gcd a b = b from by rw [h1, Nat.gcd_zero_left]]
    exact h
  · by_cases h2 : b = 0
    · have h := wgcd_right a b ha hb ⟨Nat.pos_of_ne_zero h1, h2⟩ w
      rw [show Nat.gcd a b = a from by rw [h2, Nat.gcd_zero_right]]
      exact h
    · exact wgcd_main a b ha hb (Nat.pos_of_ne_zero h1) (Nat.pos_of_ne_zero h2) w hV
end Go.Proofs.YtbhfnfokihdjjaaGreatDoor
