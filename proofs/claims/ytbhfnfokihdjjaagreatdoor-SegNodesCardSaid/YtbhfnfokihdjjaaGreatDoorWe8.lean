/-
  Walks of ratio: a quotient of wide magnitudes, bit by bit. Conditions stand in each theorem.
-/
import Derived.Test.YtbhfnfokihdjjaaGreatDoorWd5
import Derived.Test.YtbhfnfokihdjjaaGreatDoorWe4
namespace Go.Proofs.YtbhfnfokihdjjaaGreatDoor
open Go.RowKit Go.BigFrame

theorem wshift_v (a b : Nat) (h : a / 2 = b) (ha : a < 2 ^ (64 * 9)) (w : World) :
    Calls Tryz.prog 186 #[.agg #[.int .u64 (dg (a) 0), .int .u64 (dg (a) 1), .int .u64 (dg (a) 2), .int .u64 (dg (a) 3), .int .u64 (dg (a) 4), .int .u64 (dg (a) 5), .int .u64 (dg (a) 6), .int .u64 (dg (a) 7), .int .u64 (dg (a) 8)]] w fun e w' => e = .returned (.agg #[.int .u64 (dg (b) 0), .int .u64 (dg (b) 1), .int .u64 (dg (b) 2), .int .u64 (dg (b) 3), .int .u64 (dg (b) 4), .int .u64 (dg (b) 5), .int .u64 (dg (b) 6), .int .u64 (dg (b) 7), .int .u64 (dg (b) 8)]) ∧ Below w.heap.size w w' := by
  rw [← h]
  exact wshift_any a ha w
theorem half_lt {a e : Nat} (k : Nat) (ha : a < 2 ^ e) : a / 2 ^ k < 2 ^ e := Nat.lt_of_le_of_lt (Nat.div_le_self _ _) ha
theorem half_next (a k : Nat) : a / 2 ^ k / 2 = a / 2 ^ (k + 1) := by rw [Nat.div_div_eq_div_mul, Nat.pow_succ]
set_option maxRecDepth 20000 in
set_option maxHeartbeats 2000000 in
theorem whalved_any (a n : Nat) (hn : n < 9223372036854775808) (ha : a < 2 ^ (64 * 9)) (w : World) :
    Calls Tryz.prog 182 #[.agg #[.int .u64 (dg (a) 0), .int .u64 (dg (a) 1), .int .u64 (dg (a) 2), .int .u64 (dg (a) 3), .int .u64 (dg (a) 4), .int .u64 (dg (a) 5), .int .u64 (dg (a) 6), .int .u64 (dg (a) 7), .int .u64 (dg (a) 8)], .int .i64 n] w fun e w' => e = .returned (.agg #[.int .u64 (dg (a / 2 ^ n) 0), .int .u64 (dg (a / 2 ^ n) 1), .int .u64 (dg (a / 2 ^ n) 2), .int .u64 (dg (a / 2 ^ n) 3), .int .u64 (dg (a / 2 ^ n) 4), .int .u64 (dg (a / 2 ^ n) 5), .int .u64 (dg (a / 2 ^ n) 6), .int .u64 (dg (a / 2 ^ n) 7), .int .u64 (dg (a / 2 ^ n) 8)]) ∧ Below w.heap.size w w' := by
  have HA : Hd (∀ k, a / 2 ^ k < 2 ^ (64 * 9)) := ⟨by intro k; exact Nat.lt_of_le_of_lt (Nat.div_le_self _ _) ha⟩
  clear ha
  go_enter Tryz.func182, Tryz.ntmps182
  go_wp2
  go_loopw [6] (fun i wr => ∃ k : Nat, k ≤ n ∧ i = .int .i64 k ∧ wr.heap[w.heap.size]? = some (.cells #[.int .u64 (dg (a / 2 ^ k) 0), .int .u64 (dg (a / 2 ^ k) 1), .int .u64 (dg (a / 2 ^ k) 2), .int .u64 (dg (a / 2 ^ k) 3), .int .u64 (dg (a / 2 ^ k) 4), .int .u64 (dg (a / 2 ^ k) 5), .int .u64 (dg (a / 2 ^ k) 6), .int .u64 (dg (a / 2 ^ k) 7), .int .u64 (dg (a / 2 ^ k) 8)] 160 (0, 0)) ∧ wr.heap[w.heap.size + 1]? = some (.cells #[.int .u64 (dg (0) 0), .int .u64 (dg (0) 1), .int .u64 (dg (0) 2), .int .u64 (dg (0) 3), .int .u64 (dg (0) 4), .int .u64 (dg (0) 5), .int .u64 (dg (0) 6), .int .u64 (dg (0) 7), .int .u64 (dg (0) 8)] 160 (0, 0)) ∧ Below w.heap.size w wr)
    (fun i _ => n - (intOf i).toNat)
  case atStart =>
    refine ⟨0, by omega, rfl, ?_, ?_, ?_⟩
    · rw [Nat.pow_zero, Nat.div_one]; exact heap_old (heap_new _ _) _
    · simp only [dg_zero]; exact heap_at (by simp) _
    focus (repeat (first | (with_reducible exact Below.refl _ _) | (with_reducible assumption) | ((with_reducible refine Below.setCell ?_ ?_ _); rotate_left; (focus (first | omega | (simp; done) | (simp; omega)))) | ((with_reducible refine Below.alloc ?_ ?_ _); rotate_left; (focus (first | omega | (simp; done) | (simp; omega)))) | (with_reducible refine Below.drew ?_) | (refine below_on ?_ (by assumption))))
  case round =>
    obtain ⟨k, hk, rfl, z0, z1, hB⟩ := hrel
    by_cases hlt : k < n
    · have hd : decide (k < n) = true := by simp [hlt]
      have c0 := cell_at z0
      go_wp2_with fail
      refine (wshift_v (a / 2 ^ k) (a / 2 ^ (k + 1)) (half_next a k) (HA.out k) _).mono ?_
      rintro e wa ⟨rfl, hb⟩
      have y0 := heap_below hb z0
      have y1 := heap_below hb z1
      have hB2 := below_on hB hb
      have p0 := cell_at y0
      have f0 := frozen_at y0
      clear hb z0 z1 c0 hB
      go_wp2
      go_roundw
      case rel =>
        obtain ⟨l1, l2, l3⟩ := laid_9 (w.heap.size) wa (.int .u64 (dg (a / 2 ^ (k + 1)) 0)) (.int .u64 (dg (a / 2 ^ (k + 1)) 1)) (.int .u64 (dg (a / 2 ^ (k + 1)) 2)) (.int .u64 (dg (a / 2 ^ (k + 1)) 3)) (.int .u64 (dg (a / 2 ^ (k + 1)) 4)) (.int .u64 (dg (a / 2 ^ (k + 1)) 5)) (.int .u64 (dg (a / 2 ^ (k + 1)) 6)) (.int .u64 (dg (a / 2 ^ (k + 1)) 7)) (.int .u64 (dg (a / 2 ^ (k + 1)) 8))
        exact ⟨k + 1, by omega, by go_num, l1 y0 rfl, l2 _ _ (by omega) y1, hB2.trans (l3 _ (Nat.le_refl _))⟩
      case measure => simp [intOf]; omega
    · obtain rfl : k = n := by omega
      have hd : decide (k < k) = false := by simp
      have c0 := cell_at z0
      have c1 := cell_at z1
      have f1 := frozen_at z1
      have hs := lt_of_block z1
      go_wp2
      obtain ⟨l1, l2, l3⟩ := laid_9 (w.heap.size + 1) wr (.int .u64 (dg (a / 2 ^ k) 0)) (.int .u64 (dg (a / 2 ^ k) 1)) (.int .u64 (dg (a / 2 ^ k) 2)) (.int .u64 (dg (a / 2 ^ k) 3)) (.int .u64 (dg (a / 2 ^ k) 4)) (.int .u64 (dg (a / 2 ^ k) 5)) (.int .u64 (dg (a / 2 ^ k) 6)) (.int .u64 (dg (a / 2 ^ k) 7)) (.int .u64 (dg (a / 2 ^ k) 8))
      have c2 := cell_at (l1 z1 rfl)
      refine bodyPost_ret (by simp [results, Tryz.results182, go_sem, c2] <;> rfl) rfl ⟨rfl, hB.trans (l3 _ (by omega))⟩
theorem tz_bound {n : Nat} (e : Nat) (he : e = 576) (h0 : 0 < n) (h : n < 2 ^ e) : tz n < 9223372036854775808 := by
  obtain ⟨_, _, h⟩ := od_spec e he h0 h
  omega
set_option maxRecDepth 20000 in
set_option maxHeartbeats 2000000 in
theorem wodd_any (a : Nat) (ha : a < 2 ^ (64 * 9)) (w : World) (hV : Vars w) :
    Calls Tryz.prog 173 #[.agg #[.int .u64 (dg (a) 0), .int .u64 (dg (a) 1), .int .u64 (dg (a) 2), .int .u64 (dg (a) 3), .int .u64 (dg (a) 4), .int .u64 (dg (a) 5), .int .u64 (dg (a) 6), .int .u64 (dg (a) 7), .int .u64 (dg (a) 8)]] w fun e w' => e = .returned (.agg #[.int .u64 (dg (od a) 0), .int .u64 (dg (od a) 1), .int .u64 (dg (od a) 2), .int .u64 (dg (od a) 3), .int .u64 (dg (od a) 4), .int .u64 (dg (od a) 5), .int .u64 (dg (od a) 6), .int .u64 (dg (od a) 7), .int .u64 (dg (od a) 8)]) ∧ Below w.heap.size w w' := by
  have hz := nine_zero ha
  have HA := Hd.mk ha
  have HV := Hd.mk hV
  by_cases h0 : a = 0
  · rw [decide_eq_true h0] at hz
    rw [show od a = a from by rw [h0, od_zero]]
    clear ha hV h0
    go_enter Tryz.func173, Tryz.ntmps173
    go_upto_region 2 with (fail)
    clear hz
    refine abs_wp (fun W => W.heap[w.heap.size]? = some (.cells #[.int .u64 (dg (a) 0), .int .u64 (dg (a) 1), .int .u64 (dg (a) 2), .int .u64 (dg (a) 3), .int .u64 (dg (a) 4), .int .u64 (dg (a) 5), .int .u64 (dg (a) 6), .int .u64 (dg (a) 7), .int .u64 (dg (a) 8)] 160 (0, 0)) ∧ W.heap[w.heap.size + 1]? = some (.cells #[.int .u64 (dg (0) 0), .int .u64 (dg (0) 1), .int .u64 (dg (0) 2), .int .u64 (dg (0) 3), .int .u64 (dg (0) 4), .int .u64 (dg (0) 5), .int .u64 (dg (0) 6), .int .u64 (dg (0) 7), .int .u64 (dg (0) 8)] 160 (0, 0)) ∧ Below w.heap.size w W) ⟨heap_old (heap_new _ _) _, by simp only [dg_zero]; exact heap_at (by simp) _, by focus (repeat (first | (with_reducible exact Below.refl _ _) | (with_reducible assumption) | ((with_reducible refine Below.setCell ?_ ?_ _); rotate_left; (focus (first | omega | (simp; done) | (simp; omega)))) | ((with_reducible refine Below.alloc ?_ ?_ _); rotate_left; (focus (first | omega | (simp; done) | (simp; omega)))) | (with_reducible refine Below.drew ?_) | (refine below_on ?_ (by assumption))))⟩ fun W ⟨z0, z1, hB⟩ => ?_
    have c0 := cell_at z0
    have c1 := cell_at z1
    have f1 := frozen_at z1
    go_wp2
    obtain ⟨l1, l2, l3⟩ := laid_9 (w.heap.size + 1) W (.int .u64 (dg (a) 0)) (.int .u64 (dg (a) 1)) (.int .u64 (dg (a) 2)) (.int .u64 (dg (a) 3)) (.int .u64 (dg (a) 4)) (.int .u64 (dg (a) 5)) (.int .u64 (dg (a) 6)) (.int .u64 (dg (a) 7)) (.int .u64 (dg (a) 8))
    have c2 := cell_at (l1 z1 rfl)
    refine bodyPost_ret (by simp [results, Tryz.results173, go_sem, c2] <;> rfl) rfl ⟨rfl, hB.trans (l3 _ (by omega))⟩
  · rw [decide_eq_false h0] at hz
    have H0 : Hd (0 < a) := ⟨by omega⟩
    have HT := Hd.mk (tz_bound (64 * 9) rfl H0.out ha)
    obtain ⟨t, ht⟩ : ∃ t, t = tz a := ⟨_, rfl⟩
    have HOD : Hd (od a = a / 2 ^ t) := ⟨by rw [ht]; rfl⟩
    have HZ : Hd (∀ w : World, Vars w → Calls Tryz.prog 172 #[.agg #[.int .u64 (dg (a) 0), .int .u64 (dg (a) 1), .int .u64 (dg (a) 2), .int .u64 (dg (a) 3), .int .u64 (dg (a) 4), .int .u64 (dg (a) 5), .int .u64 (dg (a) 6), .int .u64 (dg (a) 7), .int .u64 (dg (a) 8)]] w fun e w' => e = .returned (.int .i64 t) ∧ Below w.heap.size w w') := ⟨fun w hv => by rw [ht]; exact wzeros_any a H0.out HA.out w hv⟩
    rw [HOD.out]
    rw [← ht] at HT
    clear h0 ha hV ht
    go_enter Tryz.func173, Tryz.ntmps173
    go_upto_region 3 with (fail)
    clear hz
    refine abs_wp (fun W => W.heap[w.heap.size]? = some (.cells #[.int .u64 (dg (a) 0), .int .u64 (dg (a) 1), .int .u64 (dg (a) 2), .int .u64 (dg (a) 3), .int .u64 (dg (a) 4), .int .u64 (dg (a) 5), .int .u64 (dg (a) 6), .int .u64 (dg (a) 7), .int .u64 (dg (a) 8)] 160 (0, 0)) ∧ W.heap[w.heap.size + 1]? = some (.cells #[.int .u64 (dg (0) 0), .int .u64 (dg (0) 1), .int .u64 (dg (0) 2), .int .u64 (dg (0) 3), .int .u64 (dg (0) 4), .int .u64 (dg (0) 5), .int .u64 (dg (0) 6), .int .u64 (dg (0) 7), .int .u64 (dg (0) 8)] 160 (0, 0)) ∧ Below w.heap.size w W) ⟨heap_old (heap_new _ _) _, by simp only [dg_zero]; exact heap_at (by simp) _, by focus (repeat (first | (with_reducible exact Below.refl _ _) | (with_reducible assumption) | ((with_reducible refine Below.setCell ?_ ?_ _); rotate_left; (focus (first | omega | (simp; done) | (simp; omega)))) | ((with_reducible refine Below.alloc ?_ ?_ _); rotate_left; (focus (first | omega | (simp; done) | (simp; omega)))) | (with_reducible refine Below.drew ?_) | (refine below_on ?_ (by assumption))))⟩ fun W ⟨z0, z1, hB⟩ => ?_
    have HVW := Hd.mk (HV.out.below hB)
    refine region_qt 4 (by kernel_rfl) (by kernel_rfl) fun X _ mk hmk hcl => ?_
    have c0 := mk_cell hmk z0
    have c1 := mk_cell hmk z1
    simp only [List.take_succ_cons, List.take_zero, List.drop_succ_cons, List.drop_zero]
    repeat (go_big_quiet_step (first | (go_at_call 172; exact (HZ.out _ (HVW.out.below (hmk _))).mono fun e w' ⟨he, hw⟩ => ⟨he, hcl _ _ hw⟩) | (go_at_call 182; exact (whalved_any a t HT.out HA.out _).mono fun e w' ⟨he, hw⟩ => ⟨he, hcl _ _ hw⟩)))
    refine wpQuiet_nil ?_
    rintro _ ⟨x, rfl⟩
    clear c0 c1
    have hx := hmk x
    clear hcl hmk
    generalize mk x = W1 at hx
    have y1 := heap_below hx z1
    have hB2 := below_on hB hx
    have c1 := cell_at y1
    have f1 := frozen_at y1
    clear z0 z1 hB hx
    go_wp2
    obtain ⟨l1, l2, l3⟩ := laid_9 (w.heap.size + 1) W1 (.int .u64 (dg (a / 2 ^ t) 0)) (.int .u64 (dg (a / 2 ^ t) 1)) (.int .u64 (dg (a / 2 ^ t) 2)) (.int .u64 (dg (a / 2 ^ t) 3)) (.int .u64 (dg (a / 2 ^ t) 4)) (.int .u64 (dg (a / 2 ^ t) 5)) (.int .u64 (dg (a / 2 ^ t) 6)) (.int .u64 (dg (a / 2 ^ t) 7)) (.int .u64 (dg (a / 2 ^ t) 8))
    have c2 := cell_at (l1 y1 rfl)
    refine bodyPost_ret (by simp [results, Tryz.results173, go_sem, c2] <;> rfl) rfl ⟨rfl, hB2.trans (l3 _ (by omega))⟩
end Go.Proofs.YtbhfnfokihdjjaaGreatDoor

namespace Go.Proofs.YtbhfnfokihdjjaaGreatDoor
open Go.RowKit Go.BigFrame

/-- The number of digits in cells. -/
def valC (c : Array Value) : Nat → Nat
  | 0 => 0
  | k + 1 => valC c k + 2 ^ (64 * k) * (intOf (c.getD k undef)).toNat
/-- The number that a block holds. -/
def wideOf (b : Nat) (W : World) : Nat :=
  match W.heap[b]? with
  | some (.cells c _ _) => valC c 9
  | _ => 0
theorem valC_mod (c : Array Value) (n : Nat) : ∀ k, (∀ i, i < k → c.getD i undef = .int .u64 (dg n i)) → valC c k = n % 2 ^ (64 * k)
  | 0, _ => by simp [valC, Nat.mod_one]
  | k + 1, h => by
    rw [valC, valC_mod c n k (fun i hi => h i (by omega)), h k (by omega), pow_step, mod_step, ← dg_toNat]
    simp only [intOf]
    omega
theorem wideOf_eqK {b n K : Nat} {W : World} {t : TypeId} {f : Nat × Nat} (hK : K = 9) (hn : n < 2 ^ (64 * K)) (h : W.heap[b]? = some (.cells #[.int .u64 (dg (n) 0), .int .u64 (dg (n) 1), .int .u64 (dg (n) 2), .int .u64 (dg (n) 3), .int .u64 (dg (n) 4), .int .u64 (dg (n) 5), .int .u64 (dg (n) 6), .int .u64 (dg (n) 7), .int .u64 (dg (n) 8)] t f)) : wideOf b W = n := by
  unfold wideOf
  rw [h]
  show valC _ 9 = n
  rw [← hK, valC_mod _ n K, Nat.mod_eq_of_lt hn]
  intro i hi
  obtain rfl | rfl | rfl | rfl | rfl | rfl | rfl | rfl | rfl : i = 0 ∨ i = 1 ∨ i = 2 ∨ i = 3 ∨ i = 4 ∨ i = 5 ∨ i = 6 ∨ i = 7 ∨ i = 8 := by omega
  all_goals rfl
theorem wideOf_eq {b n : Nat} {W : World} {t : TypeId} {f : Nat × Nat} (hn : n < 2 ^ (64 * 9)) (h : W.heap[b]? = some (.cells #[.int .u64 (dg (n) 0), .int .u64 (dg (n) 1), .int .u64 (dg (n) 2), .int .u64 (dg (n) 3), .int .u64 (dg (n) 4), .int .u64 (dg (n) 5), .int .u64 (dg (n) 6), .int .u64 (dg (n) 7), .int .u64 (dg (n) 8)] t f)) : wideOf b W = n := wideOf_eqK rfl hn h
theorem nine_eqK {x y K : Nat} (hK : K = 9) (hx : x < 2 ^ (64 * K)) (hy : y < 2 ^ (64 * K)) : (dg x 0 == dg y 0 && (dg x 1 == dg y 1 && (dg x 2 == dg y 2 && (dg x 3 == dg y 3 && (dg x 4 == dg y 4 && (dg x 5 == dg y 5 && (dg x 6 == dg y 6 && (dg x 7 == dg y 7 && (dg x 8 == dg y 8))))))))) = decide (x = y) := by
  rw [Bool.eq_iff_iff]
  simp only [Bool.and_eq_true, beq_iff_eq, decide_eq_true_eq]
  constructor
  · rintro ⟨h0, h1, h2, h3, h4, h5, h6, h7, h8⟩
    have e1 := valC_mod (#[.int .u64 (dg (x) 0), .int .u64 (dg (x) 1), .int .u64 (dg (x) 2), .int .u64 (dg (x) 3), .int .u64 (dg (x) 4), .int .u64 (dg (x) 5), .int .u64 (dg (x) 6), .int .u64 (dg (x) 7), .int .u64 (dg (x) 8)]) x K (fun i hi => by
      obtain rfl | rfl | rfl | rfl | rfl | rfl | rfl | rfl | rfl : i = 0 ∨ i = 1 ∨ i = 2 ∨ i = 3 ∨ i = 4 ∨ i = 5 ∨ i = 6 ∨ i = 7 ∨ i = 8 := by omega
      all_goals rfl)
    have e2 := valC_mod (#[.int .u64 (dg (x) 0), .int .u64 (dg (x) 1), .int .u64 (dg (x) 2), .int .u64 (dg (x) 3), .int .u64 (dg (x) 4), .int .u64 (dg (x) 5), .int .u64 (dg (x) 6), .int .u64 (dg (x) 7), .int .u64 (dg (x) 8)]) y K (fun i hi => by
      obtain rfl | rfl | rfl | rfl | rfl | rfl | rfl | rfl | rfl : i = 0 ∨ i = 1 ∨ i = 2 ∨ i = 3 ∨ i = 4 ∨ i = 5 ∨ i = 6 ∨ i = 7 ∨ i = 8 := by omega
      all_goals first | rw [← h0] | rw [← h1] | rw [← h2] | rw [← h3] | rw [← h4] | rw [← h5] | rw [← h6] | rw [← h7] | rw [← h8]
      all_goals rfl)
    rw [Nat.mod_eq_of_lt hx] at e1
    rw [Nat.mod_eq_of_lt hy] at e2
    exact e1.symm.trans e2
  · rintro rfl
    exact ⟨rfl, rfl, rfl, rfl, rfl, rfl, rfl, rfl, rfl⟩
theorem nine_eq {x y : Nat} (hx : x < 2 ^ (64 * 9)) (hy : y < 2 ^ (64 * 9)) : (dg x 0 == dg y 0 && (dg x 1 == dg y 1 && (dg x 2 == dg y 2 && (dg x 3 == dg y 3 && (dg x 4 == dg y 4 && (dg x 5 == dg y 5 && (dg x 6 == dg y 6 && (dg x 7 == dg y 7 && (dg x 8 == dg y 8))))))))) = decide (x = y) := nine_eqK rfl hx hy
/-- How far the search for what divides both has come. -/
structure GW (a b x y : Nat) : Prop where
  ox : ∃ m, x = 2 * m + 1
  oy : ∃ m, y = 2 * m + 1
  lx : x < 2 ^ (64 * 9)
  ly : y < 2 ^ (64 * 9)
  g : Nat.gcd x y = Nat.gcd (od a) (od b)
theorem od_ltK {n K e : Nat} (he : e = 64 * K) (h : n < 2 ^ e) : od n < 2 ^ (64 * K) := he ▸ Nat.lt_of_le_of_lt (od_le n) h
theorem GW.start {a b : Nat} (ha0 : 0 < a) (hb0 : 0 < b) (ha : a < 2 ^ (64 * 9)) (hb : b < 2 ^ (64 * 9)) : GW a b (od a) (od b) :=
  ⟨(od_spec (64 * 9) rfl ha0 ha).1, (od_spec (64 * 9) rfl hb0 hb).1, od_ltK (K := 9) rfl ha, od_ltK (K := 9) rfl hb, rfl⟩
theorem GW.left {a b x y : Nat} (h : GW a b x y) (hlt : y < x) : GW a b (od (x - y)) y ∧ od (x - y) < x := by
  obtain ⟨h1, ⟨m, h2⟩, h3, h4, h5⟩ := h
  have hs : x - y < 2 ^ (64 * 9) := Nat.lt_of_le_of_lt (Nat.sub_le _ _) h3
  exact ⟨⟨(od_spec (64 * 9) rfl (Nat.sub_pos_of_lt hlt) hs).1, ⟨m, h2⟩, od_ltK (K := 9) rfl hs, h4, (gcd_step h2 (64 * 9) rfl hlt h3).trans h5⟩, by have := od_le (x - y); clear h3 h4 hs; omega⟩
theorem GW.swap {a b x y : Nat} (h : GW a b x y) : GW b a y x := ⟨h.oy, h.ox, h.ly, h.lx, by rw [Nat.gcd_comm, h.g, Nat.gcd_comm]⟩
theorem GW.right {a b x y : Nat} (h : GW a b x y) (hlt : x < y) : GW a b x (od (y - x)) ∧ od (y - x) < y :=
  ⟨(h.swap.left hlt).1.swap, (h.swap.left hlt).2⟩
theorem GW.done {a b x : Nat} (h : GW a b x x) (ha0 : 0 < a) (hb0 : 0 < b) (ha : a < 2 ^ (64 * 9)) (hb : b < 2 ^ (64 * 9)) : x * 2 ^ (min (tz a) (tz b)) = Nat.gcd a b := by
  rw [← gcd_twos (64 * 9) rfl ha0 hb0 ha hb, ← h.g, Nat.gcd_self]
theorem dbl (x k : Nat) : x * 2 ^ k + x * 2 ^ k = x * 2 ^ (k + 1) := by rw [Nat.pow_succ, ← Nat.mul_assoc]; omega
theorem wsum_v (a b : Nat) (h : a + a = b) (w : World) :
    Calls Tryz.prog 127 #[.agg #[.int .u64 (dg (a) 0), .int .u64 (dg (a) 1), .int .u64 (dg (a) 2), .int .u64 (dg (a) 3), .int .u64 (dg (a) 4), .int .u64 (dg (a) 5), .int .u64 (dg (a) 6), .int .u64 (dg (a) 7), .int .u64 (dg (a) 8)], .agg #[.int .u64 (dg (a) 0), .int .u64 (dg (a) 1), .int .u64 (dg (a) 2), .int .u64 (dg (a) 3), .int .u64 (dg (a) 4), .int .u64 (dg (a) 5), .int .u64 (dg (a) 6), .int .u64 (dg (a) 7), .int .u64 (dg (a) 8)]] w fun e w' => e = .returned (.agg #[.int .u64 (dg (b) 0), .int .u64 (dg (b) 1), .int .u64 (dg (b) 2), .int .u64 (dg (b) 3), .int .u64 (dg (b) 4), .int .u64 (dg (b) 5), .int .u64 (dg (b) 6), .int .u64 (dg (b) 7), .int .u64 (dg (b) 8)]) ∧ Below w.heap.size w w' := by
  rw [← h]
  exact wsum_any a a w
set_option maxRecDepth 20000 in
set_option maxHeartbeats 2000000 in
theorem wgcd_left (a b : Nat) (ha : a < 2 ^ (64 * 9)) (hb : b < 2 ^ (64 * 9)) (h0 : a = 0) (w : World) :
    Calls Tryz.prog 154 #[.agg #[.int .u64 (dg (a) 0), .int .u64 (dg (a) 1), .int .u64 (dg (a) 2), .int .u64 (dg (a) 3), .int .u64 (dg (a) 4), .int .u64 (dg (a) 5), .int .u64 (dg (a) 6), .int .u64 (dg (a) 7), .int .u64 (dg (a) 8)], .agg #[.int .u64 (dg (b) 0), .int .u64 (dg (b) 1), .int .u64 (dg (b) 2), .int .u64 (dg (b) 3), .int .u64 (dg (b) 4), .int .u64 (dg (b) 5), .int .u64 (dg (b) 6), .int .u64 (dg (b) 7), .int .u64 (dg (b) 8)]] w fun e w' => e = .returned (.agg #[.int .u64 (dg (b) 0), .int .u64 (dg (b) 1), .int .u64 (dg (b) 2), .int .u64 (dg (b) 3), .int .u64 (dg (b) 4), .int .u64 (dg (b) 5), .int .u64 (dg (b) 6), .int .u64 (dg (b) 7), .int .u64 (dg (b) 8)]) ∧ Below w.heap.size w w' := by
  have hza := nine_zero ha
  have hzb := nine_zero hb
  rw [decide_eq_true h0] at hza
  clear ha hb h0
  go_enter Tryz.func154, Tryz.ntmps154
  go_upto_region 2 with (fail)
  clear hza hzb
  refine abs_wp (fun W => W.heap[w.heap.size]? = some (.cells #[.int .u64 (dg (a) 0), .int .u64 (dg (a) 1), .int .u64 (dg (a) 2), .int .u64 (dg (a) 3), .int .u64 (dg (a) 4), .int .u64 (dg (a) 5), .int .u64 (dg (a) 6), .int .u64 (dg (a) 7), .int .u64 (dg (a) 8)] 160 (0, 0)) ∧ W.heap[w.heap.size + 1]? = some (.cells #[.int .u64 (dg (b) 0), .int .u64 (dg (b) 1), .int .u64 (dg (b) 2), .int .u64 (dg (b) 3), .int .u64 (dg (b) 4), .int .u64 (dg (b) 5), .int .u64 (dg (b) 6), .int .u64 (dg (b) 7), .int .u64 (dg (b) 8)] 160 (0, 0)) ∧ W.heap[w.heap.size + 1 + 1]? = some (.cells #[.int .u64 (dg (0) 0), .int .u64 (dg (0) 1), .int .u64 (dg (0) 2), .int .u64 (dg (0) 3), .int .u64 (dg (0) 4), .int .u64 (dg (0) 5), .int .u64 (dg (0) 6), .int .u64 (dg (0) 7), .int .u64 (dg (0) 8)] 160 (0, 0)) ∧ Below w.heap.size w W) ⟨heap_old (heap_old (heap_new _ _) _) _, heap_old (heap_at (by simp) _) _, by simp only [dg_zero]; exact heap_at (by simp) _, by focus (repeat (first | (with_reducible exact Below.refl _ _) | (with_reducible assumption) | ((with_reducible refine Below.setCell ?_ ?_ _); rotate_left; (focus (first | omega | (simp; done) | (simp; omega)))) | ((with_reducible refine Below.alloc ?_ ?_ _); rotate_left; (focus (first | omega | (simp; done) | (simp; omega)))) | (with_reducible refine Below.drew ?_) | (refine below_on ?_ (by assumption))))⟩ fun W ⟨z0, z1, z2, hB⟩ => ?_
  have c0 := cell_at z0
  have c1 := cell_at z1
  have c2 := cell_at z2
  have f2 := frozen_at z2
  go_wp2
  obtain ⟨l1, l2, l3⟩ := laid_9 (w.heap.size + 1 + 1) W (.int .u64 (dg (b) 0)) (.int .u64 (dg (b) 1)) (.int .u64 (dg (b) 2)) (.int .u64 (dg (b) 3)) (.int .u64 (dg (b) 4)) (.int .u64 (dg (b) 5)) (.int .u64 (dg (b) 6)) (.int .u64 (dg (b) 7)) (.int .u64 (dg (b) 8))
  have c3 := cell_at (l1 z2 rfl)
  refine bodyPost_ret (by simp [results, Tryz.results154, go_sem, c3] <;> rfl) rfl ⟨rfl, hB.trans (l3 _ (by omega))⟩
set_option maxRecDepth 20000 in
set_option maxHeartbeats 2000000 in
theorem wgcd_right (a b : Nat) (ha : a < 2 ^ (64 * 9)) (hb : b < 2 ^ (64 * 9)) (h0 : 0 < a ∧ b = 0) (w : World) :
    Calls Tryz.prog 154 #[.agg #[.int .u64 (dg (a) 0), .int .u64 (dg (a) 1), .int .u64 (dg (a) 2), .int .u64 (dg (a) 3), .int .u64 (dg (a) 4), .int .u64 (dg (a) 5), .int .u64 (dg (a) 6), .int .u64 (dg (a) 7), .int .u64 (dg (a) 8)], .agg #[.int .u64 (dg (b) 0), .int .u64 (dg (b) 1), .int .u64 (dg (b) 2), .int .u64 (dg (b) 3), .int .u64 (dg (b) 4), .int .u64 (dg (b) 5), .int .u64 (dg (b) 6), .int .u64 (dg (b) 7), .int .u64 (dg (b) 8)]] w fun e w' => e = .returned (.agg #[.int .u64 (dg (a) 0), .int .u64 (dg (a) 1), .int .u64 (dg (a) 2), .int .u64 (dg (a) 3), .int .u64 (dg (a) 4), .int .u64 (dg (a) 5), .int .u64 (dg (a) 6), .int .u64 (dg (a) 7), .int .u64 (dg (a) 8)]) ∧ Below w.heap.size w w' := by
  have hza := nine_zero ha
  have hzb := nine_zero hb
  rw [decide_eq_false (Nat.ne_of_gt h0.1)] at hza
  rw [decide_eq_true h0.2] at hzb
  clear ha hb h0
  go_enter Tryz.func154, Tryz.ntmps154
  go_upto_region 4 with (fail)
  clear hza hzb
  refine abs_wp (fun W => W.heap[w.heap.size]? = some (.cells #[.int .u64 (dg (a) 0), .int .u64 (dg (a) 1), .int .u64 (dg (a) 2), .int .u64 (dg (a) 3), .int .u64 (dg (a) 4), .int .u64 (dg (a) 5), .int .u64 (dg (a) 6), .int .u64 (dg (a) 7), .int .u64 (dg (a) 8)] 160 (0, 0)) ∧ W.heap[w.heap.size + 1]? = some (.cells #[.int .u64 (dg (b) 0), .int .u64 (dg (b) 1), .int .u64 (dg (b) 2), .int .u64 (dg (b) 3), .int .u64 (dg (b) 4), .int .u64 (dg (b) 5), .int .u64 (dg (b) 6), .int .u64 (dg (b) 7), .int .u64 (dg (b) 8)] 160 (0, 0)) ∧ W.heap[w.heap.size + 1 + 1]? = some (.cells #[.int .u64 (dg (0) 0), .int .u64 (dg (0) 1), .int .u64 (dg (0) 2), .int .u64 (dg (0) 3), .int .u64 (dg (0) 4), .int .u64 (dg (0) 5), .int .u64 (dg (0) 6), .int .u64 (dg (0) 7), .int .u64 (dg (0) 8)] 160 (0, 0)) ∧ Below w.heap.size w W) ⟨heap_old (heap_old (heap_new _ _) _) _, heap_old (heap_at (by simp) _) _, by simp only [dg_zero]; exact heap_at (by simp) _, by focus (repeat (first | (with_reducible exact Below.refl _ _) | (with_reducible assumption) | ((with_reducible refine Below.setCell ?_ ?_ _); rotate_left; (focus (first | omega | (simp; done) | (simp; omega)))) | ((with_reducible refine Below.alloc ?_ ?_ _); rotate_left; (focus (first | omega | (simp; done) | (simp; omega)))) | (with_reducible refine Below.drew ?_) | (refine below_on ?_ (by assumption))))⟩ fun W ⟨z0, z1, z2, hB⟩ => ?_
  have c0 := cell_at z0
  have c1 := cell_at z1
  have c2 := cell_at z2
  have f2 := frozen_at z2
  go_wp2
  obtain ⟨l1, l2, l3⟩ := laid_9 (w.heap.size + 1 + 1) W (.int .u64 (dg (a) 0)) (.int .u64 (dg (a) 1)) (.int .u64 (dg (a) 2)) (.int .u64 (dg (a) 3)) (.int .u64 (dg (a) 4)) (.int .u64 (dg (a) 5)) (.int .u64 (dg (a) 6)) (.int .u64 (dg (a) 7)) (.int .u64 (dg (a) 8))
  have c3 := cell_at (l1 z2 rfl)
  refine bodyPost_ret (by simp [results, Tryz.results154, go_sem, c3] <;> rfl) rfl ⟨rfl, hB.trans (l3 _ (by omega))⟩
end Go.Proofs.YtbhfnfokihdjjaaGreatDoor

namespace Go.Proofs.YtbhfnfokihdjjaaGreatDoor
open Go.RowKit Go.BigFrame

set_option maxRecDepth 20000 in
set_option maxHeartbeats 4000000 in
theorem wgcd_main (a b : Nat) (ha : a < 2 ^ (64 * 9)) (hb : b < 2 ^ (64 * 9)) (ha0 : 0 < a) (hb0 : 0 < b) (w : World) (hV : Vars w) :
    Calls Tryz.prog 154 #[.agg #[.int .u64 (dg (a) 0), .int .u64 (dg (a) 1), .int .u64 (dg (a) 2), .int .u64 (dg (a) 3), .int .u64 (dg (a) 4), .int .u64 (dg (a) 5), .int .u64 (dg (a) 6), .int .u64 (dg (a) 7), .int .u64 (dg (a) 8)], .agg #[.int .u64 (dg (b) 0), .int .u64 (dg (b) 1), .int .u64 (dg (b) 2), .int .u64 (dg (b) 3), .int .u64 (dg (b) 4), .int .u64 (dg (b) 5), .int .u64 (dg (b) 6), .int .u64 (dg (b) 7), .int .u64 (dg (b) 8)]] w fun e w' => e = .returned (.agg #[.int .u64 (dg (Nat.gcd a b) 0), .int .u64 (dg (Nat.gcd a b) 1), .int .u64 (dg (Nat.gcd a b) 2), .int .u64 (dg (Nat.gcd a b) 3), .int .u64 (dg (Nat.gcd a b) 4), .int .u64 (dg (Nat.gcd a b) 5), .int .u64 (dg (Nat.gcd a b) 6), .int .u64 (dg (Nat.gcd a b) 7), .int .u64 (dg (Nat.gcd a b) 8)]) ∧ Below w.heap.size w w' := by
  have hza := nine_zero ha
  have hzb := nine_zero hb
  rw [decide_eq_false (Nat.ne_of_gt ha0)] at hza
  rw [decide_eq_false (Nat.ne_of_gt hb0)] at hzb
  have HV := Hd.mk hV
  have HZ : Hd (∀ x, (x = a ∨ x = b) → ∀ W, Vars W → Calls Tryz.prog 172 #[.agg #[.int .u64 (dg (x) 0), .int .u64 (dg (x) 1), .int .u64 (dg (x) 2), .int .u64 (dg (x) 3), .int .u64 (dg (x) 4), .int .u64 (dg (x) 5), .int .u64 (dg (x) 6), .int .u64 (dg (x) 7), .int .u64 (dg (x) 8)]] W fun e w' => e = .returned (.int .i64 (tz x)) ∧ Below W.heap.size W w') := ⟨by
    rintro x (rfl | rfl) W hW
    · exact wzeros_any _ ha0 ha W hW
    · exact wzeros_any _ hb0 hb W hW⟩
  have HO : Hd (∀ x, (x = a ∨ x = b) → ∀ W, Vars W → Calls Tryz.prog 173 #[.agg #[.int .u64 (dg (x) 0), .int .u64 (dg (x) 1), .int .u64 (dg (x) 2), .int .u64 (dg (x) 3), .int .u64 (dg (x) 4), .int .u64 (dg (x) 5), .int .u64 (dg (x) 6), .int .u64 (dg (x) 7), .int .u64 (dg (x) 8)]] W fun e w' => e = .returned (.agg #[.int .u64 (dg (od x) 0), .int .u64 (dg (od x) 1), .int .u64 (dg (od x) 2), .int .u64 (dg (od x) 3), .int .u64 (dg (od x) 4), .int .u64 (dg (od x) 5), .int .u64 (dg (od x) 6), .int .u64 (dg (od x) 7), .int .u64 (dg (od x) 8)]) ∧ Below W.heap.size W w') := ⟨by
    rintro x (rfl | rfl) W hW
    · exact wodd_any _ ha W hW
    · exact wodd_any _ hb W hW⟩
  have HG := Hd.mk (GW.start ha0 hb0 ha hb)
  obtain ⟨T, hT⟩ : ∃ T, T = min (tz a) (tz b) := ⟨_, rfl⟩
  have HT : Hd (T < 9223372036854775807) := ⟨by rw [hT]; exact Nat.lt_of_le_of_lt (Nat.min_le_left _ _) (Nat.lt_of_lt_of_le (od_spec (64 * 9) rfl ha0 ha).2.2 (by decide))⟩
  have HT2 : Hd (min ((tz a : Nat) : Int) ((tz b : Nat) : Int) = (T : Int)) := ⟨by rw [hT]; omega⟩
  have HD : Hd (∀ x, GW a b x x → x * 2 ^ T = Nat.gcd a b) := ⟨fun x h => by rw [hT]; exact h.done ha0 hb0 ha hb⟩
  clear ha hb ha0 hb0 hV hT
  go_enter Tryz.func154, Tryz.ntmps154
  go_upto_region 5 with (fail)
  clear hza hzb
  refine abs_wp (fun W => W.heap[w.heap.size]? = some (.cells #[.int .u64 (dg (a) 0), .int .u64 (dg (a) 1), .int .u64 (dg (a) 2), .int .u64 (dg (a) 3), .int .u64 (dg (a) 4), .int .u64 (dg (a) 5), .int .u64 (dg (a) 6), .int .u64 (dg (a) 7), .int .u64 (dg (a) 8)] 160 (0, 0)) ∧ W.heap[w.heap.size + 1]? = some (.cells #[.int .u64 (dg (b) 0), .int .u64 (dg (b) 1), .int .u64 (dg (b) 2), .int .u64 (dg (b) 3), .int .u64 (dg (b) 4), .int .u64 (dg (b) 5), .int .u64 (dg (b) 6), .int .u64 (dg (b) 7), .int .u64 (dg (b) 8)] 160 (0, 0)) ∧ W.heap[w.heap.size + 1 + 1]? = some (.cells #[.int .u64 (dg (0) 0), .int .u64 (dg (0) 1), .int .u64 (dg (0) 2), .int .u64 (dg (0) 3), .int .u64 (dg (0) 4), .int .u64 (dg (0) 5), .int .u64 (dg (0) 6), .int .u64 (dg (0) 7), .int .u64 (dg (0) 8)] 160 (0, 0)) ∧ Below w.heap.size w W) ⟨heap_old (heap_old (heap_new _ _) _) _, heap_old (heap_at (by simp) _) _, by simp only [dg_zero]; exact heap_at (by simp) _, by focus (repeat (first | (with_reducible exact Below.refl _ _) | (with_reducible assumption) | ((with_reducible refine Below.setCell ?_ ?_ _); rotate_left; (focus (first | omega | (simp; done) | (simp; omega)))) | ((with_reducible refine Below.alloc ?_ ?_ _); rotate_left; (focus (first | omega | (simp; done) | (simp; omega)))) | (with_reducible refine Below.drew ?_) | (refine below_on ?_ (by assumption))))⟩ fun W ⟨z0, z1, z2, hB⟩ => ?_
  have HVW := Hd.mk (HV.out.below hB)
  refine region_qt 5 (by kernel_rfl) (by kernel_rfl) fun X _ mk hmk hcl => ?_
  have c0 := mk_cell hmk z0
  have c1 := mk_cell hmk z1
  simp only [List.take_succ_cons, List.take_zero, List.drop_succ_cons, List.drop_zero]
  repeat (go_big_quiet_step ((go_at_call 172; exact (HZ.out _ (by first | (with_reducible exact Or.inl rfl) | (with_reducible exact Or.inr rfl)) _ (HVW.out.below (hmk _))).mono fun e w' ⟨he, hw⟩ => ⟨he, hcl _ _ hw⟩)))
  refine wpQuiet_nil ?_
  rintro _ ⟨x, rfl⟩
  clear c0 c1
  have hx := hmk x
  clear hcl hmk
  generalize mk x = W1 at hx
  have y0 := heap_below hx z0
  have y1 := heap_below hx z1
  have y2 := heap_below hx z2
  have hB1 := below_on hB hx
  have HVX := Hd.mk (HVW.out.below hx)
  clear z0 z1 z2 hB hx HVW HZ
  go_upto_region 6 with (fail)
  rw [HT2.out]
  refine region_qt 4 (by kernel_rfl) (by kernel_rfl) fun X _ mk hmk hcl => ?_
  have c0 := mk_cell hmk y0
  have c1 := mk_cell hmk y1
  simp only [List.take_succ_cons, List.take_zero, List.drop_succ_cons, List.drop_zero]
  repeat (go_big_quiet_step ((go_at_call 173; exact (HO.out _ (by first | (with_reducible exact Or.inl rfl) | (with_reducible exact Or.inr rfl)) _ (HVX.out.below (hmk _))).mono fun e w' ⟨he, hw⟩ => ⟨he, hcl _ _ hw⟩)))
  refine wpQuiet_nil ?_
  rintro _ ⟨x, rfl⟩
  clear c0 c1
  have hx := hmk x
  clear hcl hmk
  generalize mk x = W2 at hx
  have z0 := heap_below hx y0
  have z1 := heap_below hx y1
  have z2 := heap_below hx y2
  have hB2 := below_on hB1 hx
  have HVY := Hd.mk (HVX.out.below hx)
  have c0 := cell_at z0
  have f0 := frozen_at z0
  have c1 := cell_at z1
  have f1 := frozen_at z1
  clear y0 y1 y2 hB1 hx HVX HO
  go_wp2
  refine abs_wp (fun W => W.heap[w.heap.size]? = some (.cells #[.int .u64 (dg (od a) 0), .int .u64 (dg (od a) 1), .int .u64 (dg (od a) 2), .int .u64 (dg (od a) 3), .int .u64 (dg (od a) 4), .int .u64 (dg (od a) 5), .int .u64 (dg (od a) 6), .int .u64 (dg (od a) 7), .int .u64 (dg (od a) 8)] 160 (0, 0)) ∧ W.heap[w.heap.size + 1]? = some (.cells #[.int .u64 (dg (od b) 0), .int .u64 (dg (od b) 1), .int .u64 (dg (od b) 2), .int .u64 (dg (od b) 3), .int .u64 (dg (od b) 4), .int .u64 (dg (od b) 5), .int .u64 (dg (od b) 6), .int .u64 (dg (od b) 7), .int .u64 (dg (od b) 8)] 160 (0, 0)) ∧ W.heap[w.heap.size + 1 + 1]? = some (.cells #[.int .u64 (dg (0) 0), .int .u64 (dg (0) 1), .int .u64 (dg (0) 2), .int .u64 (dg (0) 3), .int .u64 (dg (0) 4), .int .u64 (dg (0) 5), .int .u64 (dg (0) 6), .int .u64 (dg (0) 7), .int .u64 (dg (0) 8)] 160 (0, 0)) ∧ Vars W ∧ Below w.heap.size w W) ?_ fun W ⟨v0, v1, v2, hVs, hB⟩ => ?_
  · obtain ⟨l1, l2, l3⟩ := laid_9 (w.heap.size) W2 (.int .u64 (dg (od a) 0)) (.int .u64 (dg (od a) 1)) (.int .u64 (dg (od a) 2)) (.int .u64 (dg (od a) 3)) (.int .u64 (dg (od a) 4)) (.int .u64 (dg (od a) 5)) (.int .u64 (dg (od a) 6)) (.int .u64 (dg (od a) 7)) (.int .u64 (dg (od a) 8))
    obtain ⟨m1, m2, m3⟩ := laid_9 (w.heap.size + 1) _ (.int .u64 (dg (od b) 0)) (.int .u64 (dg (od b) 1)) (.int .u64 (dg (od b) 2)) (.int .u64 (dg (od b) 3)) (.int .u64 (dg (od b) 4)) (.int .u64 (dg (od b) 5)) (.int .u64 (dg (od b) 6)) (.int .u64 (dg (od b) 7)) (.int .u64 (dg (od b) 8))
    have hx := hB2.trans ((l3 _ (Nat.le_refl _)).trans (m3 _ (by omega)))
    exact ⟨m2 _ _ (by omega) (l1 z0 rfl), m1 (l2 _ _ (by omega) z1) rfl, m2 _ _ (by omega) (l2 _ _ (by omega) z2), HV.out.below hx, hx⟩
  clear z0 z1 z2 c0 c1 f0 f1 hB2 HVY
  have HVs := Hd.mk hVs
  clear hVs
  go_loopw [] (fun wr => ∃ x y : Nat, Hd (GW a b x y) ∧ wr.heap[w.heap.size]? = some (.cells #[.int .u64 (dg (x) 0), .int .u64 (dg (x) 1), .int .u64 (dg (x) 2), .int .u64 (dg (x) 3), .int .u64 (dg (x) 4), .int .u64 (dg (x) 5), .int .u64 (dg (x) 6), .int .u64 (dg (x) 7), .int .u64 (dg (x) 8)] 160 (0, 0)) ∧ wr.heap[w.heap.size + 1]? = some (.cells #[.int .u64 (dg (y) 0), .int .u64 (dg (y) 1), .int .u64 (dg (y) 2), .int .u64 (dg (y) 3), .int .u64 (dg (y) 4), .int .u64 (dg (y) 5), .int .u64 (dg (y) 6), .int .u64 (dg (y) 7), .int .u64 (dg (y) 8)] 160 (0, 0)) ∧ wr.heap[w.heap.size + 1 + 1]? = some (.cells #[.int .u64 (dg (0) 0), .int .u64 (dg (0) 1), .int .u64 (dg (0) 2), .int .u64 (dg (0) 3), .int .u64 (dg (0) 4), .int .u64 (dg (0) 5), .int .u64 (dg (0) 6), .int .u64 (dg (0) 7), .int .u64 (dg (0) 8)] 160 (0, 0)) ∧ Vars wr ∧ Below w.heap.size w wr) (fun wr => wideOf w.heap.size wr + wideOf (w.heap.size + 1) wr)
  case atStart => exact ⟨_, _, HG, v0, v1, v2, HVs.out, hB⟩
  case round =>
    clear v0 v1 v2 hB HVs HG
    obtain ⟨x, y, HG, z0, z1, z2, hVs, hB⟩ := hrel
    have HVs := Hd.mk hVs
    have HM : Hd (wideOf w.heap.size wr + wideOf (w.heap.size + 1) wr = x + y) := ⟨by rw [wideOf_eq HG.out.lx z0, wideOf_eq HG.out.ly z1]⟩
    have hxy := nine_eq HG.out.lx HG.out.ly
    have c0 := cell_at z0
    have c1 := cell_at z1
    clear hVs
    by_cases he : x = y
    · rw [decide_eq_true he] at hxy
      subst he
      have HX := Hd.mk (HD.out x HG.out)
      go_wp2
      clear hxy
      have HVr := HVs
      go_loopw [51] (fun i wr => ∃ k : Nat, k ≤ T ∧ i = .int .i64 k ∧ wr.heap[w.heap.size]? = some (.cells #[.int .u64 (dg (x * 2 ^ k) 0), .int .u64 (dg (x * 2 ^ k) 1), .int .u64 (dg (x * 2 ^ k) 2), .int .u64 (dg (x * 2 ^ k) 3), .int .u64 (dg (x * 2 ^ k) 4), .int .u64 (dg (x * 2 ^ k) 5), .int .u64 (dg (x * 2 ^ k) 6), .int .u64 (dg (x * 2 ^ k) 7), .int .u64 (dg (x * 2 ^ k) 8)] 160 (0, 0)) ∧ wr.heap[w.heap.size + 1]? = some (.cells #[.int .u64 (dg (x) 0), .int .u64 (dg (x) 1), .int .u64 (dg (x) 2), .int .u64 (dg (x) 3), .int .u64 (dg (x) 4), .int .u64 (dg (x) 5), .int .u64 (dg (x) 6), .int .u64 (dg (x) 7), .int .u64 (dg (x) 8)] 160 (0, 0)) ∧ wr.heap[w.heap.size + 1 + 1]? = some (.cells #[.int .u64 (dg (0) 0), .int .u64 (dg (0) 1), .int .u64 (dg (0) 2), .int .u64 (dg (0) 3), .int .u64 (dg (0) 4), .int .u64 (dg (0) 5), .int .u64 (dg (0) 6), .int .u64 (dg (0) 7), .int .u64 (dg (0) 8)] 160 (0, 0)) ∧ Below w.heap.size w wr) (fun i _ => T - (intOf i).toNat)
      case atStart => exact ⟨0, Nat.zero_le _, rfl, by rw [Nat.pow_zero, Nat.mul_one]; exact z0, z1, z2, hB⟩
      case round =>
        clear z0 z1 z2 hB c0 c1
        obtain ⟨k, hk, rfl, z0, z1, z2, hB⟩ := hrel
        have ht := HT.out
        by_cases hlt : k < T
        · have hd : decide (k < T) = true := by simp [hlt]
          have c0 := cell_at z0
          go_wp2_with fail
          refine (wsum_v (x * 2 ^ k) (x * 2 ^ (k + 1)) (dbl x k) _).mono ?_
          rintro e wa ⟨rfl, hb⟩
          have y0 := heap_below hb z0
          have y1 := heap_below hb z1
          have y2 := heap_below hb z2
          have hB2 := below_on hB hb
          have p0 := cell_at y0
          have f0 := frozen_at y0
          clear hb z0 z1 z2 c0 hB
          go_wp2
          go_roundw
          case rel =>
            obtain ⟨l1, l2, l3⟩ := laid_9 (w.heap.size) wa (.int .u64 (dg (x * 2 ^ (k + 1)) 0)) (.int .u64 (dg (x * 2 ^ (k + 1)) 1)) (.int .u64 (dg (x * 2 ^ (k + 1)) 2)) (.int .u64 (dg (x * 2 ^ (k + 1)) 3)) (.int .u64 (dg (x * 2 ^ (k + 1)) 4)) (.int .u64 (dg (x * 2 ^ (k + 1)) 5)) (.int .u64 (dg (x * 2 ^ (k + 1)) 6)) (.int .u64 (dg (x * 2 ^ (k + 1)) 7)) (.int .u64 (dg (x * 2 ^ (k + 1)) 8))
            exact ⟨k + 1, by omega, by go_num, l1 y0 rfl, l2 _ _ (by omega) y1, l2 _ _ (by omega) y2, hB2.trans (l3 _ (Nat.le_refl _))⟩
          case measure => simp [intOf]; omega
        · obtain rfl : k = T := by omega
          have hd : decide (k < k) = false := by simp
          rw [HX.out] at z0
          have c0 := cell_at z0
          have c2 := cell_at z2
          have f2 := frozen_at z2
          have hs := lt_of_block z2
          go_wp2
          obtain ⟨l1, l2, l3⟩ := laid_9 (w.heap.size + 1 + 1) wr (.int .u64 (dg (Nat.gcd a b) 0)) (.int .u64 (dg (Nat.gcd a b) 1)) (.int .u64 (dg (Nat.gcd a b) 2)) (.int .u64 (dg (Nat.gcd a b) 3)) (.int .u64 (dg (Nat.gcd a b) 4)) (.int .u64 (dg (Nat.gcd a b) 5)) (.int .u64 (dg (Nat.gcd a b) 6)) (.int .u64 (dg (Nat.gcd a b) 7)) (.int .u64 (dg (Nat.gcd a b) 8))
          have c3 := cell_at (l1 z2 rfl)
          refine bodyPost_ret (by simp [results, Tryz.results154, go_sem, c3] <;> rfl) rfl ⟨rfl, hB.trans (l3 _ (by omega))⟩
    · rw [decide_eq_false he] at hxy
      have hs2 := lt_of_block z2
      have hsz := hB.size
      by_cases hlt : y < x
      · have HN := Hd.mk (HG.out.left hlt)
        have HLT := Hd.mk hlt
        have HL : Hd (x - y < 2 ^ (64 * 9)) := ⟨Nat.lt_of_le_of_lt (Nat.sub_le _ _) HG.out.lx⟩
        clear he hlt
        go_wp2_with fail
        refine (wless_ge x y HG.out.lx (Nat.le_of_lt HLT.out) _).mono ?_
        rintro e wa ⟨rfl, hb⟩
        have y0 := heap_below hb z0
        have y1 := heap_below hb z1
        have y2 := heap_below hb z2
        have hB2 := below_on hB hb
        have hV2 := HVs.out.below hb
        have s2 := lt_of_block y2
        clear hb z0 z1 z2 c0 c1 hB hxy
        go_wp2_with fail
        refine (wodd_any (x - y) HL.out _ (hV2.low (by have := hV2.size; omega) (Below.alloc (Below.refl _ _) (Nat.le_refl _) _))).mono ?_
        rintro e wb ⟨rfl, hb⟩
        have v0 := heap_below hb (heap_old y0 _)
        have v1 := heap_below hb (heap_old y1 _)
        have v2 := heap_below hb (heap_old y2 _)
        have hB3 := below_on (Below.alloc hB2 (by omega) _) hb
        have q0 := cell_at v0
        have g0 := frozen_at v0
        clear hb y0 y1 y2 hB2 hV2
        go_wp2
        go_roundw
        case rel =>
          obtain ⟨l1, l2, l3⟩ := laid_9 (w.heap.size) wb (.int .u64 (dg (od (x - y)) 0)) (.int .u64 (dg (od (x - y)) 1)) (.int .u64 (dg (od (x - y)) 2)) (.int .u64 (dg (od (x - y)) 3)) (.int .u64 (dg (od (x - y)) 4)) (.int .u64 (dg (od (x - y)) 5)) (.int .u64 (dg (od (x - y)) 6)) (.int .u64 (dg (od (x - y)) 7)) (.int .u64 (dg (od (x - y)) 8))
          have hB4 := hB3.trans (l3 _ (Nat.le_refl _))
          exact ⟨od (x - y), y, ⟨HN.out.1⟩, l1 v0 rfl, l2 _ _ (by omega) v1, l2 _ _ (by omega) v2, HV.out.below hB4, hB4⟩
        case measure =>
          obtain ⟨l1, l2, l3⟩ := laid_9 (w.heap.size) wb (.int .u64 (dg (od (x - y)) 0)) (.int .u64 (dg (od (x - y)) 1)) (.int .u64 (dg (od (x - y)) 2)) (.int .u64 (dg (od (x - y)) 3)) (.int .u64 (dg (od (x - y)) 4)) (.int .u64 (dg (od (x - y)) 5)) (.int .u64 (dg (od (x - y)) 6)) (.int .u64 (dg (od (x - y)) 7)) (.int .u64 (dg (od (x - y)) 8))
          have e1 := wideOf_eq HN.out.1.lx (l1 v0 rfl)
          have e2 := wideOf_eq HN.out.1.ly (l2 _ _ (by omega) v1)
          have e3 := HN.out.2
          refine Nat.lt_of_le_of_lt (Nat.le_of_eq (congr (congrArg HAdd.hAdd e1) e2)) (Nat.lt_of_lt_of_eq ?_ HM.out.symm)
          omega
      · have hlt : x < y := by omega
        have HN := Hd.mk (HG.out.right hlt)
        have HLT := Hd.mk hlt
        have HL : Hd (y - x < 2 ^ (64 * 9)) := ⟨Nat.lt_of_le_of_lt (Nat.sub_le _ _) HG.out.ly⟩
        clear he hlt
        go_wp2_with fail
        refine (wless_lt x y HG.out.ly HLT.out _).mono ?_
        rintro e wa ⟨R, rfl, hb⟩
        have y0 := heap_below hb z0
        have y1 := heap_below hb z1
        have y2 := heap_below hb z2
        have hB2 := below_on hB hb
        have hV2 := HVs.out.below hb
        have s2 := lt_of_block y2
        clear hb z0 z1 z2 c0 c1 hB hxy
        have c0 := cell_at (heap_old y0 (.cells #[.int .u64 (dg (R) 0), .int .u64 (dg (R) 1), .int .u64 (dg (R) 2), .int .u64 (dg (R) 3), .int .u64 (dg (R) 4), .int .u64 (dg (R) 5), .int .u64 (dg (R) 6), .int .u64 (dg (R) 7), .int .u64 (dg (R) 8)] 160))
        have c1 := cell_at (heap_old y1 (.cells #[.int .u64 (dg (R) 0), .int .u64 (dg (R) 1), .int .u64 (dg (R) 2), .int .u64 (dg (R) 3), .int .u64 (dg (R) 4), .int .u64 (dg (R) 5), .int .u64 (dg (R) 6), .int .u64 (dg (R) 7), .int .u64 (dg (R) 8)] 160))
        go_wp2_with fail
        refine (wless_ge y x HG.out.ly (Nat.le_of_lt HLT.out) _).mono ?_
        rintro e wd ⟨rfl, hb⟩
        have x0 := heap_below hb (heap_old y0 _)
        have x1 := heap_below hb (heap_old y1 _)
        have x2 := heap_below hb (heap_old y2 _)
        have hB5 := below_on (Below.alloc hB2 (by omega) _) hb
        have s5 := lt_of_block x2
        have hV5 := HV.out.below hB5
        clear hb y0 y1 y2 hB2 hV2 c0 c1 s2
        go_wp2_with fail
        refine (wodd_any (y - x) HL.out _ (hV5.low (by have := hV5.size; omega) (Below.alloc (Below.refl _ _) (Nat.le_refl _) _))).mono ?_
        rintro e wb ⟨rfl, hb⟩
        have v0 := heap_below hb (heap_old x0 _)
        have v1 := heap_below hb (heap_old x1 _)
        have v2 := heap_below hb (heap_old x2 _)
        have hB3 := below_on (Below.alloc hB5 (by omega) _) hb
        have q0 := cell_at v1
        have g0 := frozen_at v1
        clear hb x0 x1 x2 hB5 hV5
        go_wp2
        go_roundw
        case rel =>
          obtain ⟨l1, l2, l3⟩ := laid_9 (w.heap.size + 1) wb (.int .u64 (dg (od (y - x)) 0)) (.int .u64 (dg (od (y - x)) 1)) (.int .u64 (dg (od (y - x)) 2)) (.int .u64 (dg (od (y - x)) 3)) (.int .u64 (dg (od (y - x)) 4)) (.int .u64 (dg (od (y - x)) 5)) (.int .u64 (dg (od (y - x)) 6)) (.int .u64 (dg (od (y - x)) 7)) (.int .u64 (dg (od (y - x)) 8))
          have hB4 := hB3.trans (l3 _ (by omega))
          exact ⟨x, od (y - x), ⟨HN.out.1⟩, l2 _ _ (by omega) v0, l1 v1 rfl, l2 _ _ (by omega) v2, HV.out.below hB4, hB4⟩
        case measure =>
          obtain ⟨l1, l2, l3⟩ := laid_9 (w.heap.size + 1) wb (.int .u64 (dg (od (y - x)) 0)) (.int .u64 (dg (od (y - x)) 1)) (.int .u64 (dg (od (y - x)) 2)) (.int .u64 (dg (od (y - x)) 3)) (.int .u64 (dg (od (y - x)) 4)) (.int .u64 (dg (od (y - x)) 5)) (.int .u64 (dg (od (y - x)) 6)) (.int .u64 (dg (od (y - x)) 7)) (.int .u64 (dg (od (y - x)) 8))
          have e1 := wideOf_eq HN.out.1.lx (l2 _ _ (by omega) v0)
          have e2 := wideOf_eq HN.out.1.ly (l1 v1 rfl)
          have e3 := HN.out.2
          refine Nat.lt_of_le_of_lt (Nat.le_of_eq (congr (congrArg HAdd.hAdd e1) e2)) (Nat.lt_of_lt_of_eq ?_ HM.out.symm)
          omega
/-- The greatest that divides both (the other one, where one is nought). -/
theorem wgcd_any (a b : Nat) (ha : a < 2 ^ (64 * 9)) (hb : b < 2 ^ (64 * 9)) (w : World) (hV : Vars w) :
    Calls Tryz.prog 154 #[.agg #[.int .u64 (dg (a) 0), .int .u64 (dg (a) 1), .int .u64 (dg (a) 2), .int .u64 (dg (a) 3), .int .u64 (dg (a) 4), .int .u64 (dg (a) 5), .int .u64 (dg (a) 6), .int .u64 (dg (a) 7), .int .u64 (dg (a) 8)], .agg #[.int .u64 (dg (b) 0), .int .u64 (dg (b) 1), .int .u64 (dg (b) 2), .int .u64 (dg (b) 3), .int .u64 (dg (b) 4), .int .u64 (dg (b) 5), .int .u64 (dg (b) 6), .int .u64 (dg (b) 7), .int .u64 (dg (b) 8)]] w fun e w' => e = .returned (.agg #[.int .u64 (dg (Nat.gcd a b) 0), .int .u64 (dg (Nat.gcd a b) 1), .int .u64 (dg (Nat.gcd a b) 2), .int .u64 (dg (Nat.gcd a b) 3), .int .u64 (dg (Nat.gcd a b) 4), .int .u64 (dg (Nat.gcd a b) 5), .int .u64 (dg (Nat.gcd a b) 6), .int .u64 (dg (Nat.gcd a b) 7), .int .u64 (dg (Nat.gcd a b) 8)]) ∧ Below w.heap.size w w' := by
  by_cases h1 : a = 0
  · have h := wgcd_left a b ha hb h1 w
    rw [show Nat.gcd a b = b from by rw [h1, Nat.gcd_zero_left]]
    exact h
  · by_cases h2 : b = 0
    · have h := wgcd_right a b ha hb ⟨Nat.pos_of_ne_zero h1, h2⟩ w
      rw [show Nat.gcd a b = a from by rw [h2, Nat.gcd_zero_right]]
      exact h
    · exact wgcd_main a b ha hb (Nat.pos_of_ne_zero h1) (Nat.pos_of_ne_zero h2) w hV
end Go.Proofs.YtbhfnfokihdjjaaGreatDoor

namespace Go.Proofs.YtbhfnfokihdjjaaGreatDoor
open Go.RowKit Go.BigFrame

/-- The lowest digit with one bit more. -/
theorem low_or (R bit : Nat) (x : Int) (hbit : bit ≤ 1) (hx : x = bit) : bits .or .u64 (dg (R + R) 0) x = dg (R + R + bit) 0 := by
  subst hx
  rw [dg_add_bit R bit 0 hbit, if_pos rfl]
  have h1 := dg_lt (R + R) 0
  obtain ⟨y, hy⟩ := Int.eq_ofNat_of_zero_le (dg_nonneg (R + R) 0)
  rw [hy] at h1 ⊢
  rw [bits_or_u64_nat _ _ (by omega) (by omega), Int.toNat_natCast]
theorem high_or (R bit k : Nat) (hbit : bit ≤ 1) (hk : k ≠ 0) : dg (R + R) k = dg (R + R + bit) k := by rw [dg_add_bit R bit k hbit, if_neg hk]
theorem pow_or (Q q r : Nat) (x : Int) (hr : r < 64) (hx : x = ((2 ^ r : Nat) : Int)) : bits .or .u64 (dg (Q * 2 ^ (64 * q + r + 1)) q) x = dg (Q * 2 ^ (64 * q + r + 1) + 2 ^ (64 * q + r)) q := by
  subst hx
  rw [dg_add_pow Q q r q hr, if_pos rfl]
  have h1 := dg_lt (Q * 2 ^ (64 * q + r + 1)) q
  have h2 : 2 ^ r < 18446744073709551616 := Nat.pow_lt_pow_right (a := 2) (by decide) hr
  obtain ⟨y, hy⟩ := Int.eq_ofNat_of_zero_le (dg_nonneg (Q * 2 ^ (64 * q + r + 1)) q)
  rw [hy] at h1 ⊢
  rw [bits_or_u64_nat _ _ (by omega) (by omega), Int.toNat_natCast]
theorem pow_not (Q q r k : Nat) (hr : r < 64) (hk : k ≠ q) : dg (Q * 2 ^ (64 * q + r + 1)) k = dg (Q * 2 ^ (64 * q + r + 1) + 2 ^ (64 * q + r)) k := by rw [dg_add_pow Q q r k hr, if_neg hk]
/-- What a round does. -/
structure BY (a b j R bit : Nat) : Prop where
  bit1 : bit ≤ 1
  isbit : a / 2 ^ j % 2 = bit
  isR : a / 2 ^ (j + 1) % b = R
  ge : b ≤ R + R + bit → a / 2 ^ j / b * 2 ^ j = a / 2 ^ (j + 1) / b * 2 ^ (j + 1) + 2 ^ j ∧ a / 2 ^ j % b = R + R + bit - b
  lt : R + R + bit < b → a / 2 ^ j / b * 2 ^ j = a / 2 ^ (j + 1) / b * 2 ^ (j + 1) ∧ a / 2 ^ j % b = R + R + bit
  room : ∀ X, b + b ≤ X → R + R + bit < X
theorem two_same (Q j : Nat) : 2 * Q * 2 ^ j = Q * 2 ^ (j + 1) := by
  rw [Nat.pow_succ, Nat.mul_comm 2 Q, Nat.mul_assoc, Nat.mul_comm 2]
theorem two_more (Q j : Nat) : (2 * Q + 1) * 2 ^ j = Q * 2 ^ (j + 1) + 2 ^ j := by
  rw [Nat.add_mul, Nat.one_mul, two_same]
theorem by_of (a b j : Nat) (hb : 0 < b) : BY a b j (a / 2 ^ (j + 1) % b) (a / 2 ^ j % 2) := by
  have h1 := half_up a j
  have hbit : a / 2 ^ j % 2 ≤ 1 := by omega
  have h2 := div_up (A := a / 2 ^ (j + 1)) (bit := a / 2 ^ j % 2) hb hbit rfl
  have hlt := Nat.mod_lt (a / 2 ^ (j + 1)) hb
  rw [← h1] at h2
  refine ⟨hbit, rfl, rfl, fun h => ?_, fun h => ?_, fun X hX => by omega⟩
  · obtain ⟨e1, e2⟩ := h2.1 (by omega)
    rw [e1, e2]
    exact ⟨two_more _ j, by omega⟩
  · obtain ⟨e1, e2⟩ := h2.2 (by omega)
    rw [e1, e2]
    exact ⟨two_same _ j, by omega⟩
theorem wrap_pow (r : Nat) (hr : r < 64) : IntKind.u64.wrap (2 ^ r) = ((2 ^ r : Nat) : Int) := by
  have h2 : 2 ^ r < 18446744073709551616 := Nat.pow_lt_pow_right (a := 2) (by decide) hr
  have e : (2 : Int) ^ r = ((2 ^ r : Nat) : Int) := by rw [Int.natCast_pow]; rfl
  rw [IntKind.wrap_u64, e]
  generalize 2 ^ r = X at h2 ⊢
  omega
theorem start_zero {a X : Nat} (b : Nat) (h : a < X) : a / X / b * X = 0 ∧ a / X % b = 0 := by
  rw [Nat.div_eq_of_lt h, Nat.zero_div, Nat.zero_mul, Nat.zero_mod]
  exact ⟨rfl, rfl⟩
theorem and_bit (a j q : Nat) (h : j / 64 = q) : bits .and .u64 (dg a q / 2 ^ (j % 64)) 1 = ((a / 2 ^ j % 2 : Nat) : Int) := by
  rw [and_one, dg_bit _ _ _ (by omega), show 64 * q + j % 64 = j by omega]
theorem pow_orj (Q j q : Nat) (x : Int) (h : j / 64 = q) (hx : x = ((2 ^ (j % 64) : Nat) : Int)) : bits .or .u64 (dg (Q * 2 ^ (j + 1)) q) x = dg (Q * 2 ^ (j + 1) + 2 ^ j) q := by
  have := pow_or Q q (j % 64) x (by omega) hx
  rwa [show 64 * q + j % 64 = j by omega] at this
theorem pow_notj (Q j q k : Nat) (h : j / 64 = q) (hk : k ≠ q) : dg (Q * 2 ^ (j + 1)) k = dg (Q * 2 ^ (j + 1) + 2 ^ j) k := by
  have := pow_not Q q (j % 64) k (by omega) hk
  rwa [show 64 * q + j % 64 = j by omega] at this
set_option maxRecDepth 20000 in
set_option maxHeartbeats 8000000 in
theorem wby_any (a b : Nat) (hb0 : 0 < b) (hb : b + b ≤ 2 ^ (64 * 9)) (ha : a < 2 ^ (64 * 9)) (w : World) :
    Calls Tryz.prog 155 #[.agg #[.int .u64 (dg (a) 0), .int .u64 (dg (a) 1), .int .u64 (dg (a) 2), .int .u64 (dg (a) 3), .int .u64 (dg (a) 4), .int .u64 (dg (a) 5), .int .u64 (dg (a) 6), .int .u64 (dg (a) 7), .int .u64 (dg (a) 8)], .agg #[.int .u64 (dg (b) 0), .int .u64 (dg (b) 1), .int .u64 (dg (b) 2), .int .u64 (dg (b) 3), .int .u64 (dg (b) 4), .int .u64 (dg (b) 5), .int .u64 (dg (b) 6), .int .u64 (dg (b) 7), .int .u64 (dg (b) 8)]] w fun e w' => e = .returned (.agg #[.int .u64 (dg (a / b) 0), .int .u64 (dg (a / b) 1), .int .u64 (dg (a / b) 2), .int .u64 (dg (a / b) 3), .int .u64 (dg (a / b) 4), .int .u64 (dg (a / b) 5), .int .u64 (dg (a / b) 6), .int .u64 (dg (a / b) 7), .int .u64 (dg (a / b) 8)]) ∧ Below w.heap.size w w' := by
  have HB := Hd.mk hb
  have HBY : Hd (∀ j, BY a b j (a / 2 ^ (j + 1) % b) (a / 2 ^ j % 2)) := ⟨fun j => by_of a b j hb0⟩
  have HS := Hd.mk (start_zero b ha)
  have HBL : Hd (b < 2 ^ (64 * 9)) := ⟨Nat.lt_of_lt_of_le (Nat.lt_add_of_pos_left hb0) hb⟩
  clear ha hb hb0
  go_enter Tryz.func155, Tryz.ntmps155
  go_wp2
  go_loopw [6] (fun i wr => ∃ k : Nat, k ≤ 576 ∧ i = .int .i64 ((k : Int) - 1) ∧ wr.heap[w.heap.size]? = some (.cells #[.int .u64 (dg (a) 0), .int .u64 (dg (a) 1), .int .u64 (dg (a) 2), .int .u64 (dg (a) 3), .int .u64 (dg (a) 4), .int .u64 (dg (a) 5), .int .u64 (dg (a) 6), .int .u64 (dg (a) 7), .int .u64 (dg (a) 8)] 160 (0, 0)) ∧ wr.heap[w.heap.size + 1]? = some (.cells #[.int .u64 (dg (b) 0), .int .u64 (dg (b) 1), .int .u64 (dg (b) 2), .int .u64 (dg (b) 3), .int .u64 (dg (b) 4), .int .u64 (dg (b) 5), .int .u64 (dg (b) 6), .int .u64 (dg (b) 7), .int .u64 (dg (b) 8)] 160 (0, 0)) ∧ wr.heap[w.heap.size + 1 + 1]? = some (.cells #[.int .u64 (dg (a / 2 ^ k / b * 2 ^ k) 0), .int .u64 (dg (a / 2 ^ k / b * 2 ^ k) 1), .int .u64 (dg (a / 2 ^ k / b * 2 ^ k) 2), .int .u64 (dg (a / 2 ^ k / b * 2 ^ k) 3), .int .u64 (dg (a / 2 ^ k / b * 2 ^ k) 4), .int .u64 (dg (a / 2 ^ k / b * 2 ^ k) 5), .int .u64 (dg (a / 2 ^ k / b * 2 ^ k) 6), .int .u64 (dg (a / 2 ^ k / b * 2 ^ k) 7), .int .u64 (dg (a / 2 ^ k / b * 2 ^ k) 8)] 160 (0, 0)) ∧ wr.heap[w.heap.size + 1 + 1 + 1]? = some (.cells #[.int .u64 (dg (a / 2 ^ k % b) 0), .int .u64 (dg (a / 2 ^ k % b) 1), .int .u64 (dg (a / 2 ^ k % b) 2), .int .u64 (dg (a / 2 ^ k % b) 3), .int .u64 (dg (a / 2 ^ k % b) 4), .int .u64 (dg (a / 2 ^ k % b) 5), .int .u64 (dg (a / 2 ^ k % b) 6), .int .u64 (dg (a / 2 ^ k % b) 7), .int .u64 (dg (a / 2 ^ k % b) 8)] 160 (0, 0)) ∧ Below w.heap.size w wr) (fun i _ => (intOf i + 1).toNat)
  case atStart =>
    refine ⟨64 * 9, Nat.le_refl _, rfl, ?_⟩
    rw [HS.out.1, HS.out.2]
    simp only [dg_zero]
    exact ⟨heap_old (heap_old (heap_old (heap_new _ _) _) _) _, heap_old (heap_old (heap_at (by simp) _) _) _, heap_old (heap_at (by simp) _) _, heap_at (by simp) _, by focus (repeat (first | (with_reducible exact Below.refl _ _) | (with_reducible assumption) | ((with_reducible refine Below.setCell ?_ ?_ _); rotate_left; (focus (first | omega | (simp; done) | (simp; omega)))) | ((with_reducible refine Below.alloc ?_ ?_ _); rotate_left; (focus (first | omega | (simp; done) | (simp; omega)))) | (with_reducible refine Below.drew ?_) | (refine below_on ?_ (by assumption))))⟩
  case round =>
    clear HS
    obtain ⟨k, hk, rfl, z0, z1, z2, z3, hB⟩ := hrel
    match k, hk, z2, z3 with
    | 0, hk, z2, z3 =>
      rw [Nat.pow_zero, Nat.mul_one, Nat.div_one] at z2
      have c2 := cell_at z2
      have f2 := frozen_at z2
      have hs := lt_of_block z2
      have hge : decide ((((0 : Nat) : Int) - 1) ≥ 0) = false := rfl
      go_wp2
      obtain ⟨l1, l2, l3⟩ := laid_9 (w.heap.size + 1 + 1) wr (.int .u64 (dg (a / b) 0)) (.int .u64 (dg (a / b) 1)) (.int .u64 (dg (a / b) 2)) (.int .u64 (dg (a / b) 3)) (.int .u64 (dg (a / b) 4)) (.int .u64 (dg (a / b) 5)) (.int .u64 (dg (a / b) 6)) (.int .u64 (dg (a / b) 7)) (.int .u64 (dg (a / b) 8))
      have c3 := cell_at (l1 z2 rfl)
      refine bodyPost_ret (by simp [results, Tryz.results155, go_sem, c3] <;> rfl) rfl ⟨rfl, hB.trans (l3 _ (by omega))⟩
    | j + 1, hk, z2, z3 =>
      rw [show ((j + 1 : Nat) : Int) - 1 = (j : Int) from by omega]
      have HJ := Hd.mk (HBY.out j)
      have HAND : Hd (∀ q, j / 64 = q → bits .and .u64 (dg a q / 2 ^ (j % 64)) 1 = ((a / 2 ^ j % 2 : Nat) : Int)) := ⟨fun q h => and_bit a j q h⟩
      obtain ⟨R, hR⟩ : ∃ R, a / 2 ^ (j + 1) % b = R := ⟨_, rfl⟩
      obtain ⟨bit, hbit⟩ : ∃ bit, a / 2 ^ j % 2 = bit := ⟨_, rfl⟩
      rw [hR, hbit] at HJ
      rw [hR] at z3
      rw [hbit] at HAND
      obtain ⟨Q, hQ⟩ : ∃ Q, a / 2 ^ (j + 1) / b = Q := ⟨_, rfl⟩
      rw [hQ] at z2
      have HQ := Hd.mk hQ
      clear hR hbit hQ
      have hge : decide ((j : Int) ≥ 0) = true := by simp
      have c3 := cell_at z3
      go_wp2_with fail
      refine (wsum_v R (R + R) rfl _).mono ?_
      rintro e wa ⟨rfl, hb⟩
      have y0 := heap_below hb z0
      have y1 := heap_below hb z1
      have y2 := heap_below hb z2
      have y3 := heap_below hb z3
      have hB1 := below_on hB hb
      have c3 := cell_at y3
      have f3 := frozen_at y3
      clear hb z0 z1 z2 z3 hB
      go_upto_region 6 with (fail)
      refine abs_wp (fun W => W.heap[w.heap.size]? = some (.cells #[.int .u64 (dg (a) 0), .int .u64 (dg (a) 1), .int .u64 (dg (a) 2), .int .u64 (dg (a) 3), .int .u64 (dg (a) 4), .int .u64 (dg (a) 5), .int .u64 (dg (a) 6), .int .u64 (dg (a) 7), .int .u64 (dg (a) 8)] 160 (0, 0)) ∧ W.heap[w.heap.size + 1]? = some (.cells #[.int .u64 (dg (b) 0), .int .u64 (dg (b) 1), .int .u64 (dg (b) 2), .int .u64 (dg (b) 3), .int .u64 (dg (b) 4), .int .u64 (dg (b) 5), .int .u64 (dg (b) 6), .int .u64 (dg (b) 7), .int .u64 (dg (b) 8)] 160 (0, 0)) ∧ W.heap[w.heap.size + 1 + 1]? = some (.cells #[.int .u64 (dg (Q * 2 ^ (j + 1)) 0), .int .u64 (dg (Q * 2 ^ (j + 1)) 1), .int .u64 (dg (Q * 2 ^ (j + 1)) 2), .int .u64 (dg (Q * 2 ^ (j + 1)) 3), .int .u64 (dg (Q * 2 ^ (j + 1)) 4), .int .u64 (dg (Q * 2 ^ (j + 1)) 5), .int .u64 (dg (Q * 2 ^ (j + 1)) 6), .int .u64 (dg (Q * 2 ^ (j + 1)) 7), .int .u64 (dg (Q * 2 ^ (j + 1)) 8)] 160 (0, 0)) ∧ W.heap[w.heap.size + 1 + 1 + 1]? = some (.cells #[.int .u64 (dg (R + R) 0), .int .u64 (dg (R + R) 1), .int .u64 (dg (R + R) 2), .int .u64 (dg (R + R) 3), .int .u64 (dg (R + R) 4), .int .u64 (dg (R + R) 5), .int .u64 (dg (R + R) 6), .int .u64 (dg (R + R) 7), .int .u64 (dg (R + R) 8)] 160 (0, 0)) ∧ Below w.heap.size w W) ?_ fun W ⟨z0, z1, z2, z3, hB⟩ => ?_
      · obtain ⟨l1, l2, l3⟩ := laid_9 (w.heap.size + 1 + 1 + 1) wa (.int .u64 (dg (R + R) 0)) (.int .u64 (dg (R + R) 1)) (.int .u64 (dg (R + R) 2)) (.int .u64 (dg (R + R) 3)) (.int .u64 (dg (R + R) 4)) (.int .u64 (dg (R + R) 5)) (.int .u64 (dg (R + R) 6)) (.int .u64 (dg (R + R) 7)) (.int .u64 (dg (R + R) 8))
        exact ⟨l2 _ _ (by omega) y0, l2 _ _ (by omega) y1, l2 _ _ (by omega) y2, l1 y3 rfl, hB1.trans (l3 _ (by omega))⟩
      clear y0 y1 y2 y3 c3 f3 hB1
      have h0 : (0 : Int) ≤ j := by omega
      have h1 : (j : Int) < 576 := by omega
      have hm0 : (0 : Int) ≤ (j : Int) % 64 := by omega
      have hm1 : (j : Int) % 64 < 64 := by omega
      obtain hq | hq | hq | hq | hq | hq | hq | hq | hq : (j : Int) / 64 = 0 ∨ (j : Int) / 64 = 1 ∨ (j : Int) / 64 = 2 ∨ (j : Int) / 64 = 3 ∨ (j : Int) / 64 = 4 ∨ (j : Int) / 64 = 5 ∨ (j : Int) / 64 = 6 ∨ (j : Int) / 64 = 7 ∨ (j : Int) / 64 = 8 := by omega
      · have hqn : j / 64 = 0 := by omega
        have HA2 := Hd.mk (HAND.out 0 hqn)
        clear hge
        refine region_qt 12 (by kernel_rfl) (by kernel_rfl) fun X _ mk hmk hcl => ?_
        have c0 := mk_cell hmk z0
        have c3 := mk_cell hmk z3
        simp only [List.take_succ_cons, List.take_zero, List.drop_succ_cons, List.drop_zero]
        repeat (go_big_quiet_step (skip))
        refine wpQuiet_nil ?_
        rintro _ ⟨x, rfl⟩
        clear c0 c3
        have hx := hmk x
        clear hcl hmk
        generalize mk x = W1 at hx
        have y0 := heap_below hx z0
        have y1 := heap_below hx z1
        have y2 := heap_below hx z2
        have y3 := heap_below hx z3
        have hB1 := below_on hB hx
        have f3 := frozen_at y3
        have c3 := cell_at y3
        clear hx z0 z1 z2 z3 hB
        go_upto_region 7 with (fail)
        refine abs_wp (fun W => W.heap[w.heap.size]? = some (.cells #[.int .u64 (dg (a) 0), .int .u64 (dg (a) 1), .int .u64 (dg (a) 2), .int .u64 (dg (a) 3), .int .u64 (dg (a) 4), .int .u64 (dg (a) 5), .int .u64 (dg (a) 6), .int .u64 (dg (a) 7), .int .u64 (dg (a) 8)] 160 (0, 0)) ∧ W.heap[w.heap.size + 1]? = some (.cells #[.int .u64 (dg (b) 0), .int .u64 (dg (b) 1), .int .u64 (dg (b) 2), .int .u64 (dg (b) 3), .int .u64 (dg (b) 4), .int .u64 (dg (b) 5), .int .u64 (dg (b) 6), .int .u64 (dg (b) 7), .int .u64 (dg (b) 8)] 160 (0, 0)) ∧ W.heap[w.heap.size + 1 + 1]? = some (.cells #[.int .u64 (dg (Q * 2 ^ (j + 1)) 0), .int .u64 (dg (Q * 2 ^ (j + 1)) 1), .int .u64 (dg (Q * 2 ^ (j + 1)) 2), .int .u64 (dg (Q * 2 ^ (j + 1)) 3), .int .u64 (dg (Q * 2 ^ (j + 1)) 4), .int .u64 (dg (Q * 2 ^ (j + 1)) 5), .int .u64 (dg (Q * 2 ^ (j + 1)) 6), .int .u64 (dg (Q * 2 ^ (j + 1)) 7), .int .u64 (dg (Q * 2 ^ (j + 1)) 8)] 160 (0, 0)) ∧ W.heap[w.heap.size + 1 + 1 + 1]? = some (.cells #[.int .u64 (dg (R + R + bit) 0), .int .u64 (dg (R + R + bit) 1), .int .u64 (dg (R + R + bit) 2), .int .u64 (dg (R + R + bit) 3), .int .u64 (dg (R + R + bit) 4), .int .u64 (dg (R + R + bit) 5), .int .u64 (dg (R + R + bit) 6), .int .u64 (dg (R + R + bit) 7), .int .u64 (dg (R + R + bit) 8)] 160 (0, 0)) ∧ Below w.heap.size w W) ?_ fun W ⟨z0, z1, z2, z3, hB⟩ => ?_
        · refine ⟨heap_set_other y0 (by first | (simp; done) | (simp; omega)) _, heap_set_other y1 (by first | (simp; done) | (simp; omega)) _, heap_set_other y2 (by first | (simp; done) | (simp; omega)) _, ?_, by focus (repeat (first | (with_reducible exact Below.refl _ _) | (with_reducible assumption) | ((with_reducible refine Below.setCell ?_ ?_ _); rotate_left; (focus (first | omega | (simp; done) | (simp; omega)))) | ((with_reducible refine Below.alloc ?_ ?_ _); rotate_left; (focus (first | omega | (simp; done) | (simp; omega)))) | (with_reducible refine Below.drew ?_) | (refine below_on ?_ (by assumption))))⟩
          refine (heap_set y3 _ _).trans ?_
          rw [low_or R bit _ HJ.out.bit1 HA2.out]
          simp only [high_or R bit 1 HJ.out.bit1 (by decide), high_or R bit 2 HJ.out.bit1 (by decide), high_or R bit 3 HJ.out.bit1 (by decide), high_or R bit 4 HJ.out.bit1 (by decide), high_or R bit 5 HJ.out.bit1 (by decide), high_or R bit 6 HJ.out.bit1 (by decide), high_or R bit 7 HJ.out.bit1 (by decide), high_or R bit 8 HJ.out.bit1 (by decide)]
          rfl
        clear y0 y1 y2 y3 c3 f3 hB1 HA2
        have c1 := cell_at z1
        have c3 := cell_at z3
        by_cases hle : b ≤ R + R + bit
        · have HLE := Hd.mk hle
          have HN := Hd.mk (HJ.out.ge hle)
          have HVL := Hd.mk (HJ.out.room _ HB.out)
          obtain ⟨V, hV⟩ : ∃ V, V = R + R + bit := ⟨_, rfl⟩
          rw [← hV] at HLE HN HVL z3 c3
          rw [HQ.out] at HN
          clear hle hV
          go_wp2_with fail
          refine (wless_ge V b HVL.out HLE.out _).mono ?_
          rintro e wa ⟨rfl, hb⟩
          have y0 := heap_below hb z0
          have y1 := heap_below hb z1
          have y2 := heap_below hb z2
          have y3 := heap_below hb z3
          have hB1 := below_on hB hb
          have s3 := lt_of_block y3
          clear hb z0 z1 z2 z3 c1 c3 hB
          have c3 := cell_at y3
          have f3 := frozen_at y3
          go_upto_region 10 with (fail)
          refine abs_wp (fun W => W.heap[w.heap.size]? = some (.cells #[.int .u64 (dg (a) 0), .int .u64 (dg (a) 1), .int .u64 (dg (a) 2), .int .u64 (dg (a) 3), .int .u64 (dg (a) 4), .int .u64 (dg (a) 5), .int .u64 (dg (a) 6), .int .u64 (dg (a) 7), .int .u64 (dg (a) 8)] 160 (0, 0)) ∧ W.heap[w.heap.size + 1]? = some (.cells #[.int .u64 (dg (b) 0), .int .u64 (dg (b) 1), .int .u64 (dg (b) 2), .int .u64 (dg (b) 3), .int .u64 (dg (b) 4), .int .u64 (dg (b) 5), .int .u64 (dg (b) 6), .int .u64 (dg (b) 7), .int .u64 (dg (b) 8)] 160 (0, 0)) ∧ W.heap[w.heap.size + 1 + 1]? = some (.cells #[.int .u64 (dg (Q * 2 ^ (j + 1)) 0), .int .u64 (dg (Q * 2 ^ (j + 1)) 1), .int .u64 (dg (Q * 2 ^ (j + 1)) 2), .int .u64 (dg (Q * 2 ^ (j + 1)) 3), .int .u64 (dg (Q * 2 ^ (j + 1)) 4), .int .u64 (dg (Q * 2 ^ (j + 1)) 5), .int .u64 (dg (Q * 2 ^ (j + 1)) 6), .int .u64 (dg (Q * 2 ^ (j + 1)) 7), .int .u64 (dg (Q * 2 ^ (j + 1)) 8)] 160 (0, 0)) ∧ W.heap[w.heap.size + 1 + 1 + 1]? = some (.cells #[.int .u64 (dg (V - b) 0), .int .u64 (dg (V - b) 1), .int .u64 (dg (V - b) 2), .int .u64 (dg (V - b) 3), .int .u64 (dg (V - b) 4), .int .u64 (dg (V - b) 5), .int .u64 (dg (V - b) 6), .int .u64 (dg (V - b) 7), .int .u64 (dg (V - b) 8)] 160 (0, 0)) ∧ Below w.heap.size w W) ?_ fun W ⟨z0, z1, z2, z3, hB⟩ => ?_
          · obtain ⟨l1, l2, l3⟩ := laid_9 (w.heap.size + 1 + 1 + 1) wa (.int .u64 (dg (V - b) 0)) (.int .u64 (dg (V - b) 1)) (.int .u64 (dg (V - b) 2)) (.int .u64 (dg (V - b) 3)) (.int .u64 (dg (V - b) 4)) (.int .u64 (dg (V - b) 5)) (.int .u64 (dg (V - b) 6)) (.int .u64 (dg (V - b) 7)) (.int .u64 (dg (V - b) 8))
            have hB2 := hB1.trans (l3 _ (by omega))
            exact ⟨heap_old (l2 _ _ (by omega) y0) _, heap_old (l2 _ _ (by omega) y1) _, heap_old (l2 _ _ (by omega) y2) _, heap_old (l1 y3 rfl) _, Below.alloc hB2 hB2.size _⟩
          clear y0 y1 y2 y3 c3 f3 hB1 s3
          refine region_qt 9 (by kernel_rfl) (by kernel_rfl) fun X _ mk hmk hcl => ?_
          have c2 := mk_cell hmk z2
          simp only [List.take_succ_cons, List.take_zero, List.drop_succ_cons, List.drop_zero]
          repeat (go_big_quiet_step (skip))
          refine wpQuiet_nil ?_
          rintro _ ⟨x, rfl⟩
          clear c2
          have hx := hmk x
          clear hcl hmk
          generalize mk x = W1 at hx
          have y0 := heap_below hx z0
          have y1 := heap_below hx z1
          have y2 := heap_below hx z2
          have y3 := heap_below hx z3
          have hB1 := below_on hB hx
          have f2 := frozen_at y2
          have c2 := cell_at y2
          clear hx z0 z1 z2 z3 hB
          go_wp2
          go_roundw
          case rel =>
            refine ⟨j, by omega, by go_num, heap_set_other y0 (by first | (simp; done) | (simp; omega)) _, heap_set_other y1 (by first | (simp; done) | (simp; omega)) _, ?_, by rw [HN.out.2]; exact heap_set_other y3 (by first | (simp; done) | (simp; omega)) _, by focus (repeat (first | (with_reducible exact Below.refl _ _) | (with_reducible assumption) | ((with_reducible refine Below.setCell ?_ ?_ _); rotate_left; (focus (first | omega | (simp; done) | (simp; omega)))) | ((with_reducible refine Below.alloc ?_ ?_ _); rotate_left; (focus (first | omega | (simp; done) | (simp; omega)))) | (with_reducible refine Below.drew ?_) | (refine below_on ?_ (by assumption))))⟩
            rw [HN.out.1]
            refine (heap_set y2 _ _).trans ?_
            rw [pow_orj Q j 0 _ hqn (wrap_pow _ (Nat.mod_lt _ (by decide)))]
            simp only [pow_notj Q j 0 1 hqn (by decide), pow_notj Q j 0 2 hqn (by decide), pow_notj Q j 0 3 hqn (by decide), pow_notj Q j 0 4 hqn (by decide), pow_notj Q j 0 5 hqn (by decide), pow_notj Q j 0 6 hqn (by decide), pow_notj Q j 0 7 hqn (by decide), pow_notj Q j 0 8 hqn (by decide)]
            rfl
          case measure => simp [intOf]; try omega
        · have HLE : Hd (R + R + bit < b) := ⟨by omega⟩
          have HN := Hd.mk (HJ.out.lt HLE.out)
          obtain ⟨V, hV⟩ : ∃ V, V = R + R + bit := ⟨_, rfl⟩
          rw [← hV] at HLE HN z3 c3
          rw [HQ.out] at HN
          clear hle hV
          go_wp2_with fail
          refine (wless_lt V b HBL.out HLE.out _).mono ?_
          rintro e wa ⟨R', rfl, hb⟩
          have y0 := heap_below hb z0
          have y1 := heap_below hb z1
          have y2 := heap_below hb z2
          have y3 := heap_below hb z3
          have hB1 := below_on hB hb
          have s3 := lt_of_block y3
          clear hb z0 z1 z2 z3 c1 c3 hB
          go_wp2
          go_roundw
          case rel =>
            refine ⟨j, by omega, by go_num, heap_old y0 _, heap_old y1 _, ?_, by rw [HN.out.2]; exact heap_old y3 _, by focus (repeat (first | (with_reducible exact Below.refl _ _) | (with_reducible assumption) | ((with_reducible refine Below.setCell ?_ ?_ _); rotate_left; (focus (first | omega | (simp; done) | (simp; omega)))) | ((with_reducible refine Below.alloc ?_ ?_ _); rotate_left; (focus (first | omega | (simp; done) | (simp; omega)))) | (with_reducible refine Below.drew ?_) | (refine below_on ?_ (by assumption))))⟩
            rw [HN.out.1]
            exact heap_old y2 _
          case measure => simp [intOf]; try omega

      · have hqn : j / 64 = 1 := by omega
        have HA2 := Hd.mk (HAND.out 1 hqn)
        clear hge
        refine region_qt 12 (by kernel_rfl) (by kernel_rfl) fun X _ mk hmk hcl => ?_
        have c0 := mk_cell hmk z0
        have c3 := mk_cell hmk z3
        simp only [List.take_succ_cons, List.take_zero, List.drop_succ_cons, List.drop_zero]
        repeat (go_big_quiet_step (skip))
        refine wpQuiet_nil ?_
        rintro _ ⟨x, rfl⟩
        clear c0 c3
        have hx := hmk x
        clear hcl hmk
        generalize mk x = W1 at hx
        have y0 := heap_below hx z0
        have y1 := heap_below hx z1
        have y2 := heap_below hx z2
        have y3 := heap_below hx z3
        have hB1 := below_on hB hx
        have f3 := frozen_at y3
        have c3 := cell_at y3
        clear hx z0 z1 z2 z3 hB
        go_upto_region 7 with (fail)
        refine abs_wp (fun W => W.heap[w.heap.size]? = some (.cells #[.int .u64 (dg (a) 0), .int .u64 (dg (a) 1), .int .u64 (dg (a) 2), .int .u64 (dg (a) 3), .int .u64 (dg (a) 4), .int .u64 (dg (a) 5), .int .u64 (dg (a) 6), .int .u64 (dg (a) 7), .int .u64 (dg (a) 8)] 160 (0, 0)) ∧ W.heap[w.heap.size + 1]? = some (.cells #[.int .u64 (dg (b) 0), .int .u64 (dg (b) 1), .int .u64 (dg (b) 2), .int .u64 (dg (b) 3), .int .u64 (dg (b) 4), .int .u64 (dg (b) 5), .int .u64 (dg (b) 6), .int .u64 (dg (b) 7), .int .u64 (dg (b) 8)] 160 (0, 0)) ∧ W.heap[w.heap.size + 1 + 1]? = some (.cells #[.int .u64 (dg (Q * 2 ^ (j + 1)) 0), .int .u64 (dg (Q * 2 ^ (j + 1)) 1), .int .u64 (dg (Q * 2 ^ (j + 1)) 2), .int .u64 (dg (Q * 2 ^ (j + 1)) 3), .int .u64 (dg (Q * 2 ^ (j + 1)) 4), .int .u64 (dg (Q * 2 ^ (j + 1)) 5), .int .u64 (dg (Q * 2 ^ (j + 1)) 6), .int .u64 (dg (Q * 2 ^ (j + 1)) 7), .int .u64 (dg (Q * 2 ^ (j + 1)) 8)] 160 (0, 0)) ∧ W.heap[w.heap.size + 1 + 1 + 1]? = some (.cells #[.int .u64 (dg (R + R + bit) 0), .int .u64 (dg (R + R + bit) 1), .int .u64 (dg (R + R + bit) 2), .int .u64 (dg (R + R + bit) 3), .int .u64 (dg (R + R + bit) 4), .int .u64 (dg (R + R + bit) 5), .int .u64 (dg (R + R + bit) 6), .int .u64 (dg (R + R + bit) 7), .int .u64 (dg (R + R + bit) 8)] 160 (0, 0)) ∧ Below w.heap.size w W) ?_ fun W ⟨z0, z1, z2, z3, hB⟩ => ?_
        · refine ⟨heap_set_other y0 (by first | (simp; done) | (simp; omega)) _, heap_set_other y1 (by first | (simp; done) | (simp; omega)) _, heap_set_other y2 (by first | (simp; done) | (simp; omega)) _, ?_, by focus (repeat (first | (with_reducible exact Below.refl _ _) | (with_reducible assumption) | ((with_reducible refine Below.setCell ?_ ?_ _); rotate_left; (focus (first | omega | (simp; done) | (simp; omega)))) | ((with_reducible refine Below.alloc ?_ ?_ _); rotate_left; (focus (first | omega | (simp; done) | (simp; omega)))) | (with_reducible refine Below.drew ?_) | (refine below_on ?_ (by assumption))))⟩
          refine (heap_set y3 _ _).trans ?_
          rw [low_or R bit _ HJ.out.bit1 HA2.out]
          simp only [high_or R bit 1 HJ.out.bit1 (by decide), high_or R bit 2 HJ.out.bit1 (by decide), high_or R bit 3 HJ.out.bit1 (by decide), high_or R bit 4 HJ.out.bit1 (by decide), high_or R bit 5 HJ.out.bit1 (by decide), high_or R bit 6 HJ.out.bit1 (by decide), high_or R bit 7 HJ.out.bit1 (by decide), high_or R bit 8 HJ.out.bit1 (by decide)]
          rfl
        clear y0 y1 y2 y3 c3 f3 hB1 HA2
        have c1 := cell_at z1
        have c3 := cell_at z3
        by_cases hle : b ≤ R + R + bit
        · have HLE := Hd.mk hle
          have HN := Hd.mk (HJ.out.ge hle)
          have HVL := Hd.mk (HJ.out.room _ HB.out)
          obtain ⟨V, hV⟩ : ∃ V, V = R + R + bit := ⟨_, rfl⟩
          rw [← hV] at HLE HN HVL z3 c3
          rw [HQ.out] at HN
          clear hle hV
          go_wp2_with fail
          refine (wless_ge V b HVL.out HLE.out _).mono ?_
          rintro e wa ⟨rfl, hb⟩
          have y0 := heap_below hb z0
          have y1 := heap_below hb z1
          have y2 := heap_below hb z2
          have y3 := heap_below hb z3
          have hB1 := below_on hB hb
          have s3 := lt_of_block y3
          clear hb z0 z1 z2 z3 c1 c3 hB
          have c3 := cell_at y3
          have f3 := frozen_at y3
          go_upto_region 10 with (fail)
          refine abs_wp (fun W => W.heap[w.heap.size]? = some (.cells #[.int .u64 (dg (a) 0), .int .u64 (dg (a) 1), .int .u64 (dg (a) 2), .int .u64 (dg (a) 3), .int .u64 (dg (a) 4), .int .u64 (dg (a) 5), .int .u64 (dg (a) 6), .int .u64 (dg (a) 7), .int .u64 (dg (a) 8)] 160 (0, 0)) ∧ W.heap[w.heap.size + 1]? = some (.cells #[.int .u64 (dg (b) 0), .int .u64 (dg (b) 1), .int .u64 (dg (b) 2), .int .u64 (dg (b) 3), .int .u64 (dg (b) 4), .int .u64 (dg (b) 5), .int .u64 (dg (b) 6), .int .u64 (dg (b) 7), .int .u64 (dg (b) 8)] 160 (0, 0)) ∧ W.heap[w.heap.size + 1 + 1]? = some (.cells #[.int .u64 (dg (Q * 2 ^ (j + 1)) 0), .int .u64 (dg (Q * 2 ^ (j + 1)) 1), .int .u64 (dg (Q * 2 ^ (j + 1)) 2), .int .u64 (dg (Q * 2 ^ (j + 1)) 3), .int .u64 (dg (Q * 2 ^ (j + 1)) 4), .int .u64 (dg (Q * 2 ^ (j + 1)) 5), .int .u64 (dg (Q * 2 ^ (j + 1)) 6), .int .u64 (dg (Q * 2 ^ (j + 1)) 7), .int .u64 (dg (Q * 2 ^ (j + 1)) 8)] 160 (0, 0)) ∧ W.heap[w.heap.size + 1 + 1 + 1]? = some (.cells #[.int .u64 (dg (V - b) 0), .int .u64 (dg (V - b) 1), .int .u64 (dg (V - b) 2), .int .u64 (dg (V - b) 3), .int .u64 (dg (V - b) 4), .int .u64 (dg (V - b) 5), .int .u64 (dg (V - b) 6), .int .u64 (dg (V - b) 7), .int .u64 (dg (V - b) 8)] 160 (0, 0)) ∧ Below w.heap.size w W) ?_ fun W ⟨z0, z1, z2, z3, hB⟩ => ?_
          · obtain ⟨l1, l2, l3⟩ := laid_9 (w.heap.size + 1 + 1 + 1) wa (.int .u64 (dg (V - b) 0)) (.int .u64 (dg (V - b) 1)) (.int .u64 (dg (V - b) 2)) (.int .u64 (dg (V - b) 3)) (.int .u64 (dg (V - b) 4)) (.int .u64 (dg (V - b) 5)) (.int .u64 (dg (V - b) 6)) (.int .u64 (dg (V - b) 7)) (.int .u64 (dg (V - b) 8))
            have hB2 := hB1.trans (l3 _ (by omega))
            exact ⟨heap_old (l2 _ _ (by omega) y0) _, heap_old (l2 _ _ (by omega) y1) _, heap_old (l2 _ _ (by omega) y2) _, heap_old (l1 y3 rfl) _, Below.alloc hB2 hB2.size _⟩
          clear y0 y1 y2 y3 c3 f3 hB1 s3
          refine region_qt 9 (by kernel_rfl) (by kernel_rfl) fun X _ mk hmk hcl => ?_
          have c2 := mk_cell hmk z2
          simp only [List.take_succ_cons, List.take_zero, List.drop_succ_cons, List.drop_zero]
          repeat (go_big_quiet_step (skip))
          refine wpQuiet_nil ?_
          rintro _ ⟨x, rfl⟩
          clear c2
          have hx := hmk x
          clear hcl hmk
          generalize mk x = W1 at hx
          have y0 := heap_below hx z0
          have y1 := heap_below hx z1
          have y2 := heap_below hx z2
          have y3 := heap_below hx z3
          have hB1 := below_on hB hx
          have f2 := frozen_at y2
          have c2 := cell_at y2
          clear hx z0 z1 z2 z3 hB
          go_wp2
          go_roundw
          case rel =>
            refine ⟨j, by omega, by go_num, heap_set_other y0 (by first | (simp; done) | (simp; omega)) _, heap_set_other y1 (by first | (simp; done) | (simp; omega)) _, ?_, by rw [HN.out.2]; exact heap_set_other y3 (by first | (simp; done) | (simp; omega)) _, by focus (repeat (first | (with_reducible exact Below.refl _ _) | (with_reducible assumption) | ((with_reducible refine Below.setCell ?_ ?_ _); rotate_left; (focus (first | omega | (simp; done) | (simp; omega)))) | ((with_reducible refine Below.alloc ?_ ?_ _); rotate_left; (focus (first | omega | (simp; done) | (simp; omega)))) | (with_reducible refine Below.drew ?_) | (refine below_on ?_ (by assumption))))⟩
            rw [HN.out.1]
            refine (heap_set y2 _ _).trans ?_
            rw [pow_orj Q j 1 _ hqn (wrap_pow _ (Nat.mod_lt _ (by decide)))]
            simp only [pow_notj Q j 1 0 hqn (by decide), pow_notj Q j 1 2 hqn (by decide), pow_notj Q j 1 3 hqn (by decide), pow_notj Q j 1 4 hqn (by decide), pow_notj Q j 1 5 hqn (by decide), pow_notj Q j 1 6 hqn (by decide), pow_notj Q j 1 7 hqn (by decide), pow_notj Q j 1 8 hqn (by decide)]
            rfl
          case measure => simp [intOf]; try omega
        · have HLE : Hd (R + R + bit < b) := ⟨by omega⟩
          have HN := Hd.mk (HJ.out.lt HLE.out)
          obtain ⟨V, hV⟩ : ∃ V, V = R + R + bit := ⟨_, rfl⟩
          rw [← hV] at HLE HN z3 c3
          rw [HQ.out] at HN
          clear hle hV
          go_wp2_with fail
          refine (wless_lt V b HBL.out HLE.out _).mono ?_
          rintro e wa ⟨R', rfl, hb⟩
          have y0 := heap_below hb z0
          have y1 := heap_below hb z1
          have y2 := heap_below hb z2
          have y3 := heap_below hb z3
          have hB1 := below_on hB hb
          have s3 := lt_of_block y3
          clear hb z0 z1 z2 z3 c1 c3 hB
          go_wp2
          go_roundw
          case rel =>
            refine ⟨j, by omega, by go_num, heap_old y0 _, heap_old y1 _, ?_, by rw [HN.out.2]; exact heap_old y3 _, by focus (repeat (first | (with_reducible exact Below.refl _ _) | (with_reducible assumption) | ((with_reducible refine Below.setCell ?_ ?_ _); rotate_left; (focus (first | omega | (simp; done) | (simp; omega)))) | ((with_reducible refine Below.alloc ?_ ?_ _); rotate_left; (focus (first | omega | (simp; done) | (simp; omega)))) | (with_reducible refine Below.drew ?_) | (refine below_on ?_ (by assumption))))⟩
            rw [HN.out.1]
            exact heap_old y2 _
          case measure => simp [intOf]; try omega

      · have hqn : j / 64 = 2 := by omega
        have HA2 := Hd.mk (HAND.out 2 hqn)
        clear hge
        refine region_qt 12 (by kernel_rfl) (by kernel_rfl) fun X _ mk hmk hcl => ?_
        have c0 := mk_cell hmk z0
        have c3 := mk_cell hmk z3
        simp only [List.take_succ_cons, List.take_zero, List.drop_succ_cons, List.drop_zero]
        repeat (go_big_quiet_step (skip))
        refine wpQuiet_nil ?_
        rintro _ ⟨x, rfl⟩
        clear c0 c3
        have hx := hmk x
        clear hcl hmk
        generalize mk x = W1 at hx
        have y0 := heap_below hx z0
        have y1 := heap_below hx z1
        have y2 := heap_below hx z2
        have y3 := heap_below hx z3
        have hB1 := below_on hB hx
        have f3 := frozen_at y3
        have c3 := cell_at y3
        clear hx z0 z1 z2 z3 hB
        go_upto_region 7 with (fail)
        refine abs_wp (fun W => W.heap[w.heap.size]? = some (.cells #[.int .u64 (dg (a) 0), .int .u64 (dg (a) 1), .int .u64 (dg (a) 2), .int .u64 (dg (a) 3), .int .u64 (dg (a) 4), .int .u64 (dg (a) 5), .int .u64 (dg (a) 6), .int .u64 (dg (a) 7), .int .u64 (dg (a) 8)] 160 (0, 0)) ∧ W.heap[w.heap.size + 1]? = some (.cells #[.int .u64 (dg (b) 0), .int .u64 (dg (b) 1), .int .u64 (dg (b) 2), .int .u64 (dg (b) 3), .int .u64 (dg (b) 4), .int .u64 (dg (b) 5), .int .u64 (dg (b) 6), .int .u64 (dg (b) 7), .int .u64 (dg (b) 8)] 160 (0, 0)) ∧ W.heap[w.heap.size + 1 + 1]? = some (.cells #[.int .u64 (dg (Q * 2 ^ (j + 1)) 0), .int .u64 (dg (Q * 2 ^ (j + 1)) 1), .int .u64 (dg (Q * 2 ^ (j + 1)) 2), .int .u64 (dg (Q * 2 ^ (j + 1)) 3), .int .u64 (dg (Q * 2 ^ (j + 1)) 4), .int .u64 (dg (Q * 2 ^ (j + 1)) 5), .int .u64 (dg (Q * 2 ^ (j + 1)) 6), .int .u64 (dg (Q * 2 ^ (j + 1)) 7), .int .u64 (dg (Q * 2 ^ (j + 1)) 8)] 160 (0, 0)) ∧ W.heap[w.heap.size + 1 + 1 + 1]? = some (.cells #[.int .u64 (dg (R + R + bit) 0), .int .u64 (dg (R + R + bit) 1), .int .u64 (dg (R + R + bit) 2), .int .u64 (dg (R + R + bit) 3), .int .u64 (dg (R + R + bit) 4), .int .u64 (dg (R + R + bit) 5), .int .u64 (dg (R + R + bit) 6), .int .u64 (dg (R + R + bit) 7), .int .u64 (dg (R + R + bit) 8)] 160 (0, 0)) ∧ Below w.heap.size w W) ?_ fun W ⟨z0, z1, z2, z3, hB⟩ => ?_
        · refine ⟨heap_set_other y0 (by first | (simp; done) | (simp; omega)) _, heap_set_other y1 (by first | (simp; done) | (simp; omega)) _, heap_set_other y2 (by first | (simp; done) | (simp; omega)) _, ?_, by focus (repeat (first | (with_reducible exact Below.refl _ _) | (with_reducible assumption) | ((with_reducible refine Below.setCell ?_ ?_ _); rotate_left; (focus (first | omega | (simp; done) | (simp; omega)))) | ((with_reducible refine Below.alloc ?_ ?_ _); rotate_left; (focus (first | omega | (simp; done) | (simp; omega)))) | (with_reducible refine Below.drew ?_) | (refine below_on ?_ (by assumption))))⟩
          refine (heap_set y3 _ _).trans ?_
          rw [low_or R bit _ HJ.out.bit1 HA2.out]
          simp only [high_or R bit 1 HJ.out.bit1 (by decide), high_or R bit 2 HJ.out.bit1 (by decide), high_or R bit 3 HJ.out.bit1 (by decide), high_or R bit 4 HJ.out.bit1 (by decide), high_or R bit 5 HJ.out.bit1 (by decide), high_or R bit 6 HJ.out.bit1 (by decide), high_or R bit 7 HJ.out.bit1 (by decide), high_or R bit 8 HJ.out.bit1 (by decide)]
          rfl
        clear y0 y1 y2 y3 c3 f3 hB1 HA2
        have c1 := cell_at z1
        have c3 := cell_at z3
        by_cases hle : b ≤ R + R + bit
        · have HLE := Hd.mk hle
          have HN := Hd.mk (HJ.out.ge hle)
          have HVL := Hd.mk (HJ.out.room _ HB.out)
          obtain ⟨V, hV⟩ : ∃ V, V = R + R + bit := ⟨_, rfl⟩
          rw [← hV] at HLE HN HVL z3 c3
          rw [HQ.out] at HN
          clear hle hV
          go_wp2_with fail
          refine (wless_ge V b HVL.out HLE.out _).mono ?_
          rintro e wa ⟨rfl, hb⟩
          have y0 := heap_below hb z0
          have y1 := heap_below hb z1
          have y2 := heap_below hb z2
          have y3 := heap_below hb z3
          have hB1 := below_on hB hb
          have s3 := lt_of_block y3
          clear hb z0 z1 z2 z3 c1 c3 hB
          have c3 := cell_at y3
          have f3 := frozen_at y3
          go_upto_region 10 with (fail)
          refine abs_wp (fun W => W.heap[w.heap.size]? = some (.cells #[.int .u64 (dg (a) 0), .int .u64 (dg (a) 1), .int .u64 (dg (a) 2), .int .u64 (dg (a) 3), .int .u64 (dg (a) 4), .int .u64 (dg (a) 5), .int .u64 (dg (a) 6), .int .u64 (dg (a) 7), .int .u64 (dg (a) 8)] 160 (0, 0)) ∧ W.heap[w.heap.size + 1]? = some (.cells #[.int .u64 (dg (b) 0), .int .u64 (dg (b) 1), .int .u64 (dg (b) 2), .int .u64 (dg (b) 3), .int .u64 (dg (b) 4), .int .u64 (dg (b) 5), .int .u64 (dg (b) 6), .int .u64 (dg (b) 7), .int .u64 (dg (b) 8)] 160 (0, 0)) ∧ W.heap[w.heap.size + 1 + 1]? = some (.cells #[.int .u64 (dg (Q * 2 ^ (j + 1)) 0), .int .u64 (dg (Q * 2 ^ (j + 1)) 1), .int .u64 (dg (Q * 2 ^ (j + 1)) 2), .int .u64 (dg (Q * 2 ^ (j + 1)) 3), .int .u64 (dg (Q * 2 ^ (j + 1)) 4), .int .u64 (dg (Q * 2 ^ (j + 1)) 5), .int .u64 (dg (Q * 2 ^ (j + 1)) 6), .int .u64 (dg (Q * 2 ^ (j + 1)) 7), .int .u64 (dg (Q * 2 ^ (j + 1)) 8)] 160 (0, 0)) ∧ W.heap[w.heap.size + 1 + 1 + 1]? = some (.cells #[.int .u64 (dg (V - b) 0), .int .u64 (dg (V - b) 1), .int .u64 (dg (V - b) 2), .int .u64 (dg (V - b) 3), .int .u64 (dg (V - b) 4), .int .u64 (dg (V - b) 5), .int .u64 (dg (V - b) 6), .int .u64 (dg (V - b) 7), .int .u64 (dg (V - b) 8)] 160 (0, 0)) ∧ Below w.heap.size w W) ?_ fun W ⟨z0, z1, z2, z3, hB⟩ => ?_
          · obtain ⟨l1, l2, l3⟩ := laid_9 (w.heap.size + 1 + 1 + 1) wa (.int .u64 (dg (V - b) 0)) (.int .u64 (dg (V - b) 1)) (.int .u64 (dg (V - b) 2)) (.int .u64 (dg (V - b) 3)) (.int .u64 (dg (V - b) 4)) (.int .u64 (dg (V - b) 5)) (.int .u64 (dg (V - b) 6)) (.int .u64 (dg (V - b) 7)) (.int .u64 (dg (V - b) 8))
            have hB2 := hB1.trans (l3 _ (by omega))
            exact ⟨heap_old (l2 _ _ (by omega) y0) _, heap_old (l2 _ _ (by omega) y1) _, heap_old (l2 _ _ (by omega) y2) _, heap_old (l1 y3 rfl) _, Below.alloc hB2 hB2.size _⟩
          clear y0 y1 y2 y3 c3 f3 hB1 s3
          refine region_qt 9 (by kernel_rfl) (by kernel_rfl) fun X _ mk hmk hcl => ?_
          have c2 := mk_cell hmk z2
          simp only [List.take_succ_cons, List.take_zero, List.drop_succ_cons, List.drop_zero]
          repeat (go_big_quiet_step (skip))
          refine wpQuiet_nil ?_
          rintro _ ⟨x, rfl⟩
          clear c2
          have hx := hmk x
          clear hcl hmk
          generalize mk x = W1 at hx
          have y0 := heap_below hx z0
          have y1 := heap_below hx z1
          have y2 := heap_below hx z2
          have y3 := heap_below hx z3
          have hB1 := below_on hB hx
          have f2 := frozen_at y2
          have c2 := cell_at y2
          clear hx z0 z1 z2 z3 hB
          go_wp2
          go_roundw
          case rel =>
            refine ⟨j, by omega, by go_num, heap_set_other y0 (by first | (simp; done) | (simp; omega)) _, heap_set_other y1 (by first | (simp; done) | (simp; omega)) _, ?_, by rw [HN.out.2]; exact heap_set_other y3 (by first | (simp; done) | (simp; omega)) _, by focus (repeat (first | (with_reducible exact Below.refl _ _) | (with_reducible assumption) | ((with_reducible refine Below.setCell ?_ ?_ _); rotate_left; (focus (first | omega | (simp; done) | (simp; omega)))) | ((with_reducible refine Below.alloc ?_ ?_ _); rotate_left; (focus (first | omega | (simp; done) | (simp; omega)))) | (with_reducible refine Below.drew ?_) | (refine below_on ?_ (by assumption))))⟩
            rw [HN.out.1]
            refine (heap_set y2 _ _).trans ?_
            rw [pow_orj Q j 2 _ hqn (wrap_pow _ (Nat.mod_lt _ (by decide)))]
            simp only [pow_notj Q j 2 0 hqn (by decide), pow_notj Q j 2 1 hqn (by decide), pow_notj Q j 2 3 hqn (by decide), pow_notj Q j 2 4 hqn (by decide), pow_notj Q j 2 5 hqn (by decide), pow_notj Q j 2 6 hqn (by decide), pow_notj Q j 2 7 hqn (by decide), pow_notj Q j 2 8 hqn (by decide)]
            rfl
          case measure => simp [intOf]; try omega
        · have HLE : Hd (R + R + bit < b) := ⟨by omega⟩
          have HN := Hd.mk (HJ.out.lt HLE.out)
          obtain ⟨V, hV⟩ : ∃ V, V = R + R + bit := ⟨_, rfl⟩
          rw [← hV] at HLE HN z3 c3
          rw [HQ.out] at HN
          clear hle hV
          go_wp2_with fail
          refine (wless_lt V b HBL.out HLE.out _).mono ?_
          rintro e wa ⟨R', rfl, hb⟩
          have y0 := heap_below hb z0
          have y1 := heap_below hb z1
          have y2 := heap_below hb z2
          have y3 := heap_below hb z3
          have hB1 := below_on hB hb
          have s3 := lt_of_block y3
          clear hb z0 z1 z2 z3 c1 c3 hB
          go_wp2
          go_roundw
          case rel =>
            refine ⟨j, by omega, by go_num, heap_old y0 _, heap_old y1 _, ?_, by rw [HN.out.2]; exact heap_old y3 _, by focus (repeat (first | (with_reducible exact Below.refl _ _) | (with_reducible assumption) | ((with_reducible refine Below.setCell ?_ ?_ _); rotate_left; (focus (first | omega | (simp; done) | (simp; omega)))) | ((with_reducible refine Below.alloc ?_ ?_ _); rotate_left; (focus (first | omega | (simp; done) | (simp; omega)))) | (with_reducible refine Below.drew ?_) | (refine below_on ?_ (by assumption))))⟩
            rw [HN.out.1]
            exact heap_old y2 _
          case measure => simp [intOf]; try omega

      · have hqn : j / 64 = 3 := by omega
        have HA2 := Hd.mk (HAND.out 3 hqn)
        clear hge
        refine region_qt 12 (by kernel_rfl) (by kernel_rfl) fun X _ mk hmk hcl => ?_
        have c0 := mk_cell hmk z0
        have c3 := mk_cell hmk z3
        simp only [List.take_succ_cons, List.take_zero, List.drop_succ_cons, List.drop_zero]
        repeat (go_big_quiet_step (skip))
        refine wpQuiet_nil ?_
        rintro _ ⟨x, rfl⟩
        clear c0 c3
        have hx := hmk x
        clear hcl hmk
        generalize mk x = W1 at hx
        have y0 := heap_below hx z0
        have y1 := heap_below hx z1
        have y2 := heap_below hx z2
        have y3 := heap_below hx z3
        have hB1 := below_on hB hx
        have f3 := frozen_at y3
        have c3 := cell_at y3
        clear hx z0 z1 z2 z3 hB
        go_upto_region 7 with (fail)
        refine abs_wp (fun W => W.heap[w.heap.size]? = some (.cells #[.int .u64 (dg (a) 0), .int .u64 (dg (a) 1), .int .u64 (dg (a) 2), .int .u64 (dg (a) 3), .int .u64 (dg (a) 4), .int .u64 (dg (a) 5), .int .u64 (dg (a) 6), .int .u64 (dg (a) 7), .int .u64 (dg (a) 8)] 160 (0, 0)) ∧ W.heap[w.heap.size + 1]? = some (.cells #[.int .u64 (dg (b) 0), .int .u64 (dg (b) 1), .int .u64 (dg (b) 2), .int .u64 (dg (b) 3), .int .u64 (dg (b) 4), .int .u64 (dg (b) 5), .int .u64 (dg (b) 6), .int .u64 (dg (b) 7), .int .u64 (dg (b) 8)] 160 (0, 0)) ∧ W.heap[w.heap.size + 1 + 1]? = some (.cells #[.int .u64 (dg (Q * 2 ^ (j + 1)) 0), .int .u64 (dg (Q * 2 ^ (j + 1)) 1), .int .u64 (dg (Q * 2 ^ (j + 1)) 2), .int .u64 (dg (Q * 2 ^ (j + 1)) 3), .int .u64 (dg (Q * 2 ^ (j + 1)) 4), .int .u64 (dg (Q * 2 ^ (j + 1)) 5), .int .u64 (dg (Q * 2 ^ (j + 1)) 6), .int .u64 (dg (Q * 2 ^ (j + 1)) 7), .int .u64 (dg (Q * 2 ^ (j + 1)) 8)] 160 (0, 0)) ∧ W.heap[w.heap.size + 1 + 1 + 1]? = some (.cells #[.int .u64 (dg (R + R + bit) 0), .int .u64 (dg (R + R + bit) 1), .int .u64 (dg (R + R + bit) 2), .int .u64 (dg (R + R + bit) 3), .int .u64 (dg (R + R + bit) 4), .int .u64 (dg (R + R + bit) 5), .int .u64 (dg (R + R + bit) 6), .int .u64 (dg (R + R + bit) 7), .int .u64 (dg (R + R + bit) 8)] 160 (0, 0)) ∧ Below w.heap.size w W) ?_ fun W ⟨z0, z1, z2, z3, hB⟩ => ?_
        · refine ⟨heap_set_other y0 (by first | (simp; done) | (simp; omega)) _, heap_set_other y1 (by first | (simp; done) | (simp; omega)) _, heap_set_other y2 (by first | (simp; done) | (simp; omega)) _, ?_, by focus (repeat (first | (with_reducible exact Below.refl _ _) | (with_reducible assumption) | ((with_reducible refine Below.setCell ?_ ?_ _); rotate_left; (focus (first | omega | (simp; done) | (simp; omega)))) | ((with_reducible refine Below.alloc ?_ ?_ _); rotate_left; (focus (first | omega | (simp; done) | (simp; omega)))) | (with_reducible refine Below.drew ?_) | (refine below_on ?_ (by assumption))))⟩
          refine (heap_set y3 _ _).trans ?_
          rw [low_or R bit _ HJ.out.bit1 HA2.out]
          simp only [high_or R bit 1 HJ.out.bit1 (by decide), high_or R bit 2 HJ.out.bit1 (by decide), high_or R bit 3 HJ.out.bit1 (by decide), high_or R bit 4 HJ.out.bit1 (by decide), high_or R bit 5 HJ.out.bit1 (by decide), high_or R bit 6 HJ.out.bit1 (by decide), high_or R bit 7 HJ.out.bit1 (by decide), high_or R bit 8 HJ.out.bit1 (by decide)]
          rfl
        clear y0 y1 y2 y3 c3 f3 hB1 HA2
        have c1 := cell_at z1
        have c3 := cell_at z3
        by_cases hle : b ≤ R + R + bit
        · have HLE := Hd.mk hle
          have HN := Hd.mk (HJ.out.ge hle)
          have HVL := Hd.mk (HJ.out.room _ HB.out)
          obtain ⟨V, hV⟩ : ∃ V, V = R + R + bit := ⟨_, rfl⟩
          rw [← hV] at HLE HN HVL z3 c3
          rw [HQ.out] at HN
          clear hle hV
          go_wp2_with fail
          refine (wless_ge V b HVL.out HLE.out _).mono ?_
          rintro e wa ⟨rfl, hb⟩
          have y0 := heap_below hb z0
          have y1 := heap_below hb z1
          have y2 := heap_below hb z2
          have y3 := heap_below hb z3
          have hB1 := below_on hB hb
          have s3 := lt_of_block y3
          clear hb z0 z1 z2 z3 c1 c3 hB
          have c3 := cell_at y3
          have f3 := frozen_at y3
          go_upto_region 10 with (fail)
          refine abs_wp (fun W => W.heap[w.heap.size]? = some (.cells #[.int .u64 (dg (a) 0), .int .u64 (dg (a) 1), .int .u64 (dg (a) 2), .int .u64 (dg (a) 3), .int .u64 (dg (a) 4), .int .u64 (dg (a) 5), .int .u64 (dg (a) 6), .int .u64 (dg (a) 7), .int .u64 (dg (a) 8)] 160 (0, 0)) ∧ W.heap[w.heap.size + 1]? = some (.cells #[.int .u64 (dg (b) 0), .int .u64 (dg (b) 1), .int .u64 (dg (b) 2), .int .u64 (dg (b) 3), .int .u64 (dg (b) 4), .int .u64 (dg (b) 5), .int .u64 (dg (b) 6), .int .u64 (dg (b) 7), .int .u64 (dg (b) 8)] 160 (0, 0)) ∧ W.heap[w.heap.size + 1 + 1]? = some (.cells #[.int .u64 (dg (Q * 2 ^ (j + 1)) 0), .int .u64 (dg (Q * 2 ^ (j + 1)) 1), .int .u64 (dg (Q * 2 ^ (j + 1)) 2), .int .u64 (dg (Q * 2 ^ (j + 1)) 3), .int .u64 (dg (Q * 2 ^ (j + 1)) 4), .int .u64 (dg (Q * 2 ^ (j + 1)) 5), .int .u64 (dg (Q * 2 ^ (j + 1)) 6), .int .u64 (dg (Q * 2 ^ (j + 1)) 7), .int .u64 (dg (Q * 2 ^ (j + 1)) 8)] 160 (0, 0)) ∧ W.heap[w.heap.size + 1 + 1 + 1]? = some (.cells #[.int .u64 (dg (V - b) 0), .int .u64 (dg (V - b) 1), .int .u64 (dg (V - b) 2), .int .u64 (dg (V - b) 3), .int .u64 (dg (V - b) 4), .int .u64 (dg (V - b) 5), .int .u64 (dg (V - b) 6), .int .u64 (dg (V - b) 7), .int .u64 (dg (V - b) 8)] 160 (0, 0)) ∧ Below w.heap.size w W) ?_ fun W ⟨z0, z1, z2, z3, hB⟩ => ?_
          · obtain ⟨l1, l2, l3⟩ := laid_9 (w.heap.size + 1 + 1 + 1) wa (.int .u64 (dg (V - b) 0)) (.int .u64 (dg (V - b) 1)) (.int .u64 (dg (V - b) 2)) (.int .u64 (dg (V - b) 3)) (.int .u64 (dg (V - b) 4)) (.int .u64 (dg (V - b) 5)) (.int .u64 (dg (V - b) 6)) (.int .u64 (dg (V - b) 7)) (.int .u64 (dg (V - b) 8))
            have hB2 := hB1.trans (l3 _ (by omega))
            exact ⟨heap_old (l2 _ _ (by omega) y0) _, heap_old (l2 _ _ (by omega) y1) _, heap_old (l2 _ _ (by omega) y2) _, heap_old (l1 y3 rfl) _, Below.alloc hB2 hB2.size _⟩
          clear y0 y1 y2 y3 c3 f3 hB1 s3
          refine region_qt 9 (by kernel_rfl) (by kernel_rfl) fun X _ mk hmk hcl => ?_
          have c2 := mk_cell hmk z2
          simp only [List.take_succ_cons, List.take_zero, List.drop_succ_cons, List.drop_zero]
          repeat (go_big_quiet_step (skip))
          refine wpQuiet_nil ?_
          rintro _ ⟨x, rfl⟩
          clear c2
          have hx := hmk x
          clear hcl hmk
          generalize mk x = W1 at hx
          have y0 := heap_below hx z0
          have y1 := heap_below hx z1
          have y2 := heap_below hx z2
          have y3 := heap_below hx z3
          have hB1 := below_on hB hx
          have f2 := frozen_at y2
          have c2 := cell_at y2
          clear hx z0 z1 z2 z3 hB
          go_wp2
          go_roundw
          case rel =>
            refine ⟨j, by omega, by go_num, heap_set_other y0 (by first | (simp; done) | (simp; omega)) _, heap_set_other y1 (by first | (simp; done) | (simp; omega)) _, ?_, by rw [HN.out.2]; exact heap_set_other y3 (by first | (simp; done) | (simp; omega)) _, by focus (repeat (first | (with_reducible exact Below.refl _ _) | (with_reducible assumption) | ((with_reducible refine Below.setCell ?_ ?_ _); rotate_left; (focus (first | omega | (simp; done) | (simp; omega)))) | ((with_reducible refine Below.alloc ?_ ?_ _); rotate_left; (focus (first | omega | (simp; done) | (simp; omega)))) | (with_reducible refine Below.drew ?_) | (refine below_on ?_ (by assumption))))⟩
            rw [HN.out.1]
            refine (heap_set y2 _ _).trans ?_
            rw [pow_orj Q j 3 _ hqn (wrap_pow _ (Nat.mod_lt _ (by decide)))]
            simp only [pow_notj Q j 3 0 hqn (by decide), pow_notj Q j 3 1 hqn (by decide), pow_notj Q j 3 2 hqn (by decide), pow_notj Q j 3 4 hqn (by decide), pow_notj Q j 3 5 hqn (by decide), pow_notj Q j 3 6 hqn (by decide), pow_notj Q j 3 7 hqn (by decide), pow_notj Q j 3 8 hqn (by decide)]
            rfl
          case measure => simp [intOf]; try omega
        · have HLE : Hd (R + R + bit < b) := ⟨by omega⟩
          have HN := Hd.mk (HJ.out.lt HLE.out)
          obtain ⟨V, hV⟩ : ∃ V, V = R + R + bit := ⟨_, rfl⟩
          rw [← hV] at HLE HN z3 c3
          rw [HQ.out] at HN
          clear hle hV
          go_wp2_with fail
          refine (wless_lt V b HBL.out HLE.out _).mono ?_
          rintro e wa ⟨R', rfl, hb⟩
          have y0 := heap_below hb z0
          have y1 := heap_below hb z1
          have y2 := heap_below hb z2
          have y3 := heap_below hb z3
          have hB1 := below_on hB hb
          have s3 := lt_of_block y3
          clear hb z0 z1 z2 z3 c1 c3 hB
          go_wp2
          go_roundw
          case rel =>
            refine ⟨j, by omega, by go_num, heap_old y0 _, heap_old y1 _, ?_, by rw [HN.out.2]; exact heap_old y3 _, by focus (repeat (first | (with_reducible exact Below.refl _ _) | (with_reducible assumption) | ((with_reducible refine Below.setCell ?_ ?_ _); rotate_left; (focus (first | omega | (simp; done) | (simp; omega)))) | ((with_reducible refine Below.alloc ?_ ?_ _); rotate_left; (focus (first | omega | (simp; done) | (simp; omega)))) | (with_reducible refine Below.drew ?_) | (refine below_on ?_ (by assumption))))⟩
            rw [HN.out.1]
            exact heap_old y2 _
          case measure => simp [intOf]; try omega

      · have hqn : j / 64 = 4 := by omega
        have HA2 := Hd.mk (HAND.out 4 hqn)
        clear hge
        refine region_qt 12 (by kernel_rfl) (by kernel_rfl) fun X _ mk hmk hcl => ?_
        have c0 := mk_cell hmk z0
        have c3 := mk_cell hmk z3
        simp only [List.take_succ_cons, List.take_zero, List.drop_succ_cons, List.drop_zero]
        repeat (go_big_quiet_step (skip))
        refine wpQuiet_nil ?_
        rintro _ ⟨x, rfl⟩
        clear c0 c3
        have hx := hmk x
        clear hcl hmk
        generalize mk x = W1 at hx
        have y0 := heap_below hx z0
        have y1 := heap_below hx z1
        have y2 := heap_below hx z2
        have y3 := heap_below hx z3
        have hB1 := below_on hB hx
        have f3 := frozen_at y3
        have c3 := cell_at y3
        clear hx z0 z1 z2 z3 hB
        go_upto_region 7 with (fail)
        refine abs_wp (fun W => W.heap[w.heap.size]? = some (.cells #[.int .u64 (dg (a) 0), .int .u64 (dg (a) 1), .int .u64 (dg (a) 2), .int .u64 (dg (a) 3), .int .u64 (dg (a) 4), .int .u64 (dg (a) 5), .int .u64 (dg (a) 6), .int .u64 (dg (a) 7), .int .u64 (dg (a) 8)] 160 (0, 0)) ∧ W.heap[w.heap.size + 1]? = some (.cells #[.int .u64 (dg (b) 0), .int .u64 (dg (b) 1), .int .u64 (dg (b) 2), .int .u64 (dg (b) 3), .int .u64 (dg (b) 4), .int .u64 (dg (b) 5), .int .u64 (dg (b) 6), .int .u64 (dg (b) 7), .int .u64 (dg (b) 8)] 160 (0, 0)) ∧ W.heap[w.heap.size + 1 + 1]? = some (.cells #[.int .u64 (dg (Q * 2 ^ (j + 1)) 0), .int .u64 (dg (Q * 2 ^ (j + 1)) 1), .int .u64 (dg (Q * 2 ^ (j + 1)) 2), .int .u64 (dg (Q * 2 ^ (j + 1)) 3), .int .u64 (dg (Q * 2 ^ (j + 1)) 4), .int .u64 (dg (Q * 2 ^ (j + 1)) 5), .int .u64 (dg (Q * 2 ^ (j + 1)) 6), .int .u64 (dg (Q * 2 ^ (j + 1)) 7), .int .u64 (dg (Q * 2 ^ (j + 1)) 8)] 160 (0, 0)) ∧ W.heap[w.heap.size + 1 + 1 + 1]? = some (.cells #[.int .u64 (dg (R + R + bit) 0), .int .u64 (dg (R + R + bit) 1), .int .u64 (dg (R + R + bit) 2), .int .u64 (dg (R + R + bit) 3), .int .u64 (dg (R + R + bit) 4), .int .u64 (dg (R + R + bit) 5), .int .u64 (dg (R + R + bit) 6), .int .u64 (dg (R + R + bit) 7), .int .u64 (dg (R + R + bit) 8)] 160 (0, 0)) ∧ Below w.heap.size w W) ?_ fun W ⟨z0, z1, z2, z3, hB⟩ => ?_
        · refine ⟨heap_set_other y0 (by first | (simp; done) | (simp; omega)) _, heap_set_other y1 (by first | (simp; done) | (simp; omega)) _, heap_set_other y2 (by first | (simp; done) | (simp; omega)) _, ?_, by focus (repeat (first | (with_reducible exact Below.refl _ _) | (with_reducible assumption) | ((with_reducible refine Below.setCell ?_ ?_ _); rotate_left; (focus (first | omega | (simp; done) | (simp; omega)))) | ((with_reducible refine Below.alloc ?_ ?_ _); rotate_left; (focus (first | omega | (simp; done) | (simp; omega)))) | (with_reducible refine Below.drew ?_) | (refine below_on ?_ (by assumption))))⟩
          refine (heap_set y3 _ _).trans ?_
          rw [low_or R bit _ HJ.out.bit1 HA2.out]
          simp only [high_or R bit 1 HJ.out.bit1 (by decide), high_or R bit 2 HJ.out.bit1 (by decide), high_or R bit 3 HJ.out.bit1 (by decide), high_or R bit 4 HJ.out.bit1 (by decide), high_or R bit 5 HJ.out.bit1 (by decide), high_or R bit 6 HJ.out.bit1 (by decide), high_or R bit 7 HJ.out.bit1 (by decide), high_or R bit 8 HJ.out.bit1 (by decide)]
          rfl
        clear y0 y1 y2 y3 c3 f3 hB1 HA2
        have c1 := cell_at z1
        have c3 := cell_at z3
        by_cases hle : b ≤ R + R + bit
        · have HLE := Hd.mk hle
          have HN := Hd.mk (HJ.out.ge hle)
          have HVL := Hd.mk (HJ.out.room _ HB.out)
          obtain ⟨V, hV⟩ : ∃ V, V = R + R + bit := ⟨_, rfl⟩
          rw [← hV] at HLE HN HVL z3 c3
          rw [HQ.out] at HN
          clear hle hV
          go_wp2_with fail
          refine (wless_ge V b HVL.out HLE.out _).mono ?_
          rintro e wa ⟨rfl, hb⟩
          have y0 := heap_below hb z0
          have y1 := heap_below hb z1
          have y2 := heap_below hb z2
          have y3 := heap_below hb z3
          have hB1 := below_on hB hb
          have s3 := lt_of_block y3
          clear hb z0 z1 z2 z3 c1 c3 hB
          have c3 := cell_at y3
          have f3 := frozen_at y3
          go_upto_region 10 with (fail)
          refine abs_wp (fun W => W.heap[w.heap.size]? = some (.cells #[.int .u64 (dg (a) 0), .int .u64 (dg (a) 1), .int .u64 (dg (a) 2), .int .u64 (dg (a) 3), .int .u64 (dg (a) 4), .int .u64 (dg (a) 5), .int .u64 (dg (a) 6), .int .u64 (dg (a) 7), .int .u64 (dg (a) 8)] 160 (0, 0)) ∧ W.heap[w.heap.size + 1]? = some (.cells #[.int .u64 (dg (b) 0), .int .u64 (dg (b) 1), .int .u64 (dg (b) 2), .int .u64 (dg (b) 3), .int .u64 (dg (b) 4), .int .u64 (dg (b) 5), .int .u64 (dg (b) 6), .int .u64 (dg (b) 7), .int .u64 (dg (b) 8)] 160 (0, 0)) ∧ W.heap[w.heap.size + 1 + 1]? = some (.cells #[.int .u64 (dg (Q * 2 ^ (j + 1)) 0), .int .u64 (dg (Q * 2 ^ (j + 1)) 1), .int .u64 (dg (Q * 2 ^ (j + 1)) 2), .int .u64 (dg (Q * 2 ^ (j + 1)) 3), .int .u64 (dg (Q * 2 ^ (j + 1)) 4), .int .u64 (dg (Q * 2 ^ (j + 1)) 5), .int .u64 (dg (Q * 2 ^ (j + 1)) 6), .int .u64 (dg (Q * 2 ^ (j + 1)) 7), .int .u64 (dg (Q * 2 ^ (j + 1)) 8)] 160 (0, 0)) ∧ W.heap[w.heap.size + 1 + 1 + 1]? = some (.cells #[.int .u64 (dg (V - b) 0), .int .u64 (dg (V - b) 1), .int .u64 (dg (V - b) 2), .int .u64 (dg (V - b) 3), .int .u64 (dg (V - b) 4), .int .u64 (dg (V - b) 5), .int .u64 (dg (V - b) 6), .int .u64 (dg (V - b) 7), .int .u64 (dg (V - b) 8)] 160 (0, 0)) ∧ Below w.heap.size w W) ?_ fun W ⟨z0, z1, z2, z3, hB⟩ => ?_
          · obtain ⟨l1, l2, l3⟩ := laid_9 (w.heap.size + 1 + 1 + 1) wa (.int .u64 (dg (V - b) 0)) (.int .u64 (dg (V - b) 1)) (.int .u64 (dg (V - b) 2)) (.int .u64 (dg (V - b) 3)) (.int .u64 (dg (V - b) 4)) (.int .u64 (dg (V - b) 5)) (.int .u64 (dg (V - b) 6)) (.int .u64 (dg (V - b) 7)) (.int .u64 (dg (V - b) 8))
            have hB2 := hB1.trans (l3 _ (by omega))
            exact ⟨heap_old (l2 _ _ (by omega) y0) _, heap_old (l2 _ _ (by omega) y1) _, heap_old (l2 _ _ (by omega) y2) _, heap_old (l1 y3 rfl) _, Below.alloc hB2 hB2.size _⟩
          clear y0 y1 y2 y3 c3 f3 hB1 s3
          refine region_qt 9 (by kernel_rfl) (by kernel_rfl) fun X _ mk hmk hcl => ?_
          have c2 := mk_cell hmk z2
          simp only [List.take_succ_cons, List.take_zero, List.drop_succ_cons, List.drop_zero]
          repeat (go_big_quiet_step (skip))
          refine wpQuiet_nil ?_
          rintro _ ⟨x, rfl⟩
          clear c2
          have hx := hmk x
          clear hcl hmk
          generalize mk x = W1 at hx
          have y0 := heap_below hx z0
          have y1 := heap_below hx z1
          have y2 := heap_below hx z2
          have y3 := heap_below hx z3
          have hB1 := below_on hB hx
          have f2 := frozen_at y2
          have c2 := cell_at y2
          clear hx z0 z1 z2 z3 hB
          go_wp2
          go_roundw
          case rel =>
            refine ⟨j, by omega, by go_num, heap_set_other y0 (by first | (simp; done) | (simp; omega)) _, heap_set_other y1 (by first | (simp; done) | (simp; omega)) _, ?_, by rw [HN.out.2]; exact heap_set_other y3 (by first | (simp; done) | (simp; omega)) _, by focus (repeat (first | (with_reducible exact Below.refl _ _) | (with_reducible assumption) | ((with_reducible refine Below.setCell ?_ ?_ _); rotate_left; (focus (first | omega | (simp; done) | (simp; omega)))) | ((with_reducible refine Below.alloc ?_ ?_ _); rotate_left; (focus (first | omega | (simp; done) | (simp; omega)))) | (with_reducible refine Below.drew ?_) | (refine below_on ?_ (by assumption))))⟩
            rw [HN.out.1]
            refine (heap_set y2 _ _).trans ?_
            rw [pow_orj Q j 4 _ hqn (wrap_pow _ (Nat.mod_lt _ (by decide)))]
            simp only [pow_notj Q j 4 0 hqn (by decide), pow_notj Q j 4 1 hqn (by decide), pow_notj Q j 4 2 hqn (by decide), pow_notj Q j 4 3 hqn (by decide), pow_notj Q j 4 5 hqn (by decide), pow_notj Q j 4 6 hqn (by decide), pow_notj Q j 4 7 hqn (by decide), pow_notj Q j 4 8 hqn (by decide)]
            rfl
          case measure => simp [intOf]; try omega
        · have HLE : Hd (R + R + bit < b) := ⟨by omega⟩
          have HN := Hd.mk (HJ.out.lt HLE.out)
          obtain ⟨V, hV⟩ : ∃ V, V = R + R + bit := ⟨_, rfl⟩
          rw [← hV] at HLE HN z3 c3
          rw [HQ.out] at HN
          clear hle hV
          go_wp2_with fail
          refine (wless_lt V b HBL.out HLE.out _).mono ?_
          rintro e wa ⟨R', rfl, hb⟩
          have y0 := heap_below hb z0
          have y1 := heap_below hb z1
          have y2 := heap_below hb z2
          have y3 := heap_below hb z3
          have hB1 := below_on hB hb
          have s3 := lt_of_block y3
          clear hb z0 z1 z2 z3 c1 c3 hB
          go_wp2
          go_roundw
          case rel =>
            refine ⟨j, by omega, by go_num, heap_old y0 _, heap_old y1 _, ?_, by rw [HN.out.2]; exact heap_old y3 _, by focus (repeat (first | (with_reducible exact Below.refl _ _) | (with_reducible assumption) | ((with_reducible refine Below.setCell ?_ ?_ _); rotate_left; (focus (first | omega | (simp; done) | (simp; omega)))) | ((with_reducible refine Below.alloc ?_ ?_ _); rotate_left; (focus (first | omega | (simp; done) | (simp; omega)))) | (with_reducible refine Below.drew ?_) | (refine below_on ?_ (by assumption))))⟩
            rw [HN.out.1]
            exact heap_old y2 _
          case measure => simp [intOf]; try omega

      · have hqn : j / 64 = 5 := by omega
        have HA2 := Hd.mk (HAND.out 5 hqn)
        clear hge
        refine region_qt 12 (by kernel_rfl) (by kernel_rfl) fun X _ mk hmk hcl => ?_
        have c0 := mk_cell hmk z0
        have c3 := mk_cell hmk z3
        simp only [List.take_succ_cons, List.take_zero, List.drop_succ_cons, List.drop_zero]
        repeat (go_big_quiet_step (skip))
        refine wpQuiet_nil ?_
        rintro _ ⟨x, rfl⟩
        clear c0 c3
        have hx := hmk x
        clear hcl hmk
        generalize mk x = W1 at hx
        have y0 := heap_below hx z0
        have y1 := heap_below hx z1
        have y2 := heap_below hx z2
        have y3 := heap_below hx z3
        have hB1 := below_on hB hx
        have f3 := frozen_at y3
        have c3 := cell_at y3
        clear hx z0 z1 z2 z3 hB
        go_upto_region 7 with (fail)
        refine abs_wp (fun W => W.heap[w.heap.size]? = some (.cells #[.int .u64 (dg (a) 0), .int .u64 (dg (a) 1), .int .u64 (dg (a) 2), .int .u64 (dg (a) 3), .int .u64 (dg (a) 4), .int .u64 (dg (a) 5), .int .u64 (dg (a) 6), .int .u64 (dg (a) 7), .int .u64 (dg (a) 8)] 160 (0, 0)) ∧ W.heap[w.heap.size + 1]? = some (.cells #[.int .u64 (dg (b) 0), .int .u64 (dg (b) 1), .int .u64 (dg (b) 2), .int .u64 (dg (b) 3), .int .u64 (dg (b) 4), .int .u64 (dg (b) 5), .int .u64 (dg (b) 6), .int .u64 (dg (b) 7), .int .u64 (dg (b) 8)] 160 (0, 0)) ∧ W.heap[w.heap.size + 1 + 1]? = some (.cells #[.int .u64 (dg (Q * 2 ^ (j + 1)) 0), .int .u64 (dg (Q * 2 ^ (j + 1)) 1), .int .u64 (dg (Q * 2 ^ (j + 1)) 2), .int .u64 (dg (Q * 2 ^ (j + 1)) 3), .int .u64 (dg (Q * 2 ^ (j + 1)) 4), .int .u64 (dg (Q * 2 ^ (j + 1)) 5), .int .u64 (dg (Q * 2 ^ (j + 1)) 6), .int .u64 (dg (Q * 2 ^ (j + 1)) 7), .int .u64 (dg (Q * 2 ^ (j + 1)) 8)] 160 (0, 0)) ∧ W.heap[w.heap.size + 1 + 1 + 1]? = some (.cells #[.int .u64 (dg (R + R + bit) 0), .int .u64 (dg (R + R + bit) 1), .int .u64 (dg (R + R + bit) 2), .int .u64 (dg (R + R + bit) 3), .int .u64 (dg (R + R + bit) 4), .int .u64 (dg (R + R + bit) 5), .int .u64 (dg (R + R + bit) 6), .int .u64 (dg (R + R + bit) 7), .int .u64 (dg (R + R + bit) 8)] 160 (0, 0)) ∧ Below w.heap.size w W) ?_ fun W ⟨z0, z1, z2, z3, hB⟩ => ?_
        · refine ⟨heap_set_other y0 (by first | (simp; done) | (simp; omega)) _, heap_set_other y1 (by first | (simp; done) | (simp; omega)) _, heap_set_other y2 (by first | (simp; done) | (simp; omega)) _, ?_, by focus (repeat (first | (with_reducible exact Below.refl _ _) | (with_reducible assumption) | ((with_reducible refine Below.setCell ?_ ?_ _); rotate_left; (focus (first | omega | (simp; done) | (simp; omega)))) | ((with_reducible refine Below.alloc ?_ ?_ _); rotate_left; (focus (first | omega | (simp; done) | (simp; omega)))) | (with_reducible refine Below.drew ?_) | (refine below_on ?_ (by assumption))))⟩
          refine (heap_set y3 _ _).trans ?_
          rw [low_or R bit _ HJ.out.bit1 HA2.out]
          simp only [high_or R bit 1 HJ.out.bit1 (by decide), high_or R bit 2 HJ.out.bit1 (by decide), high_or R bit 3 HJ.out.bit1 (by decide), high_or R bit 4 HJ.out.bit1 (by decide), high_or R bit 5 HJ.out.bit1 (by decide), high_or R bit 6 HJ.out.bit1 (by decide), high_or R bit 7 HJ.out.bit1 (by decide), high_or R bit 8 HJ.out.bit1 (by decide)]
          rfl
        clear y0 y1 y2 y3 c3 f3 hB1 HA2
        have c1 := cell_at z1
        have c3 := cell_at z3
        by_cases hle : b ≤ R + R + bit
        · have HLE := Hd.mk hle
          have HN := Hd.mk (HJ.out.ge hle)
          have HVL := Hd.mk (HJ.out.room _ HB.out)
          obtain ⟨V, hV⟩ : ∃ V, V = R + R + bit := ⟨_, rfl⟩
          rw [← hV] at HLE HN HVL z3 c3
          rw [HQ.out] at HN
          clear hle hV
          go_wp2_with fail
          refine (wless_ge V b HVL.out HLE.out _).mono ?_
          rintro e wa ⟨rfl, hb⟩
          have y0 := heap_below hb z0
          have y1 := heap_below hb z1
          have y2 := heap_below hb z2
          have y3 := heap_below hb z3
          have hB1 := below_on hB hb
          have s3 := lt_of_block y3
          clear hb z0 z1 z2 z3 c1 c3 hB
          have c3 := cell_at y3
          have f3 := frozen_at y3
          go_upto_region 10 with (fail)
          refine abs_wp (fun W => W.heap[w.heap.size]? = some (.cells #[.int .u64 (dg (a) 0), .int .u64 (dg (a) 1), .int .u64 (dg (a) 2), .int .u64 (dg (a) 3), .int .u64 (dg (a) 4), .int .u64 (dg (a) 5), .int .u64 (dg (a) 6), .int .u64 (dg (a) 7), .int .u64 (dg (a) 8)] 160 (0, 0)) ∧ W.heap[w.heap.size + 1]? = some (.cells #[.int .u64 (dg (b) 0), .int .u64 (dg (b) 1), .int .u64 (dg (b) 2), .int .u64 (dg (b) 3), .int .u64 (dg (b) 4), .int .u64 (dg (b) 5), .int .u64 (dg (b) 6), .int .u64 (dg (b) 7), .int .u64 (dg (b) 8)] 160 (0, 0)) ∧ W.heap[w.heap.size + 1 + 1]? = some (.cells #[.int .u64 (dg (Q * 2 ^ (j + 1)) 0), .int .u64 (dg (Q * 2 ^ (j + 1)) 1), .int .u64 (dg (Q * 2 ^ (j + 1)) 2), .int .u64 (dg (Q * 2 ^ (j + 1)) 3), .int .u64 (dg (Q * 2 ^ (j + 1)) 4), .int .u64 (dg (Q * 2 ^ (j + 1)) 5), .int .u64 (dg (Q * 2 ^ (j + 1)) 6), .int .u64 (dg (Q * 2 ^ (j + 1)) 7), .int .u64 (dg (Q * 2 ^ (j + 1)) 8)] 160 (0, 0)) ∧ W.heap[w.heap.size + 1 + 1 + 1]? = some (.cells #[.int .u64 (dg (V - b) 0), .int .u64 (dg (V - b) 1), .int .u64 (dg (V - b) 2), .int .u64 (dg (V - b) 3), .int .u64 (dg (V - b) 4), .int .u64 (dg (V - b) 5), .int .u64 (dg (V - b) 6), .int .u64 (dg (V - b) 7), .int .u64 (dg (V - b) 8)] 160 (0, 0)) ∧ Below w.heap.size w W) ?_ fun W ⟨z0, z1, z2, z3, hB⟩ => ?_
          · obtain ⟨l1, l2, l3⟩ := laid_9 (w.heap.size + 1 + 1 + 1) wa (.int .u64 (dg (V - b) 0)) (.int .u64 (dg (V - b) 1)) (.int .u64 (dg (V - b) 2)) (.int .u64 (dg (V - b) 3)) (.int .u64 (dg (V - b) 4)) (.int .u64 (dg (V - b) 5)) (.int .u64 (dg (V - b) 6)) (.int .u64 (dg (V - b) 7)) (.int .u64 (dg (V - b) 8))
            have hB2 := hB1.trans (l3 _ (by omega))
            exact ⟨heap_old (l2 _ _ (by omega) y0) _, heap_old (l2 _ _ (by omega) y1) _, heap_old (l2 _ _ (by omega) y2) _, heap_old (l1 y3 rfl) _, Below.alloc hB2 hB2.size _⟩
          clear y0 y1 y2 y3 c3 f3 hB1 s3
          refine region_qt 9 (by kernel_rfl) (by kernel_rfl) fun X _ mk hmk hcl => ?_
          have c2 := mk_cell hmk z2
          simp only [List.take_succ_cons, List.take_zero, List.drop_succ_cons, List.drop_zero]
          repeat (go_big_quiet_step (skip))
          refine wpQuiet_nil ?_
          rintro _ ⟨x, rfl⟩
          clear c2
          have hx := hmk x
          clear hcl hmk
          generalize mk x = W1 at hx
          have y0 := heap_below hx z0
          have y1 := heap_below hx z1
          have y2 := heap_below hx z2
          have y3 := heap_below hx z3
          have hB1 := below_on hB hx
          have f2 := frozen_at y2
          have c2 := cell_at y2
          clear hx z0 z1 z2 z3 hB
          go_wp2
          go_roundw
          case rel =>
            refine ⟨j, by omega, by go_num, heap_set_other y0 (by first | (simp; done) | (simp; omega)) _, heap_set_other y1 (by first | (simp; done) | (simp; omega)) _, ?_, by rw [HN.out.2]; exact heap_set_other y3 (by first | (simp; done) | (simp; omega)) _, by focus (repeat (first | (with_reducible exact Below.refl _ _) | (with_reducible assumption) | ((with_reducible refine Below.setCell ?_ ?_ _); rotate_left; (focus (first | omega | (simp; done) | (simp; omega)))) | ((with_reducible refine Below.alloc ?_ ?_ _); rotate_left; (focus (first | omega | (simp; done) | (simp; omega)))) | (with_reducible refine Below.drew ?_) | (refine below_on ?_ (by assumption))))⟩
            rw [HN.out.1]
            refine (heap_set y2 _ _).trans ?_
            rw [pow_orj Q j 5 _ hqn (wrap_pow _ (Nat.mod_lt _ (by decide)))]
            simp only [pow_notj Q j 5 0 hqn (by decide), pow_notj Q j 5 1 hqn (by decide), pow_notj Q j 5 2 hqn (by decide), pow_notj Q j 5 3 hqn (by decide), pow_notj Q j 5 4 hqn (by decide), pow_notj Q j 5 6 hqn (by decide), pow_notj Q j 5 7 hqn (by decide), pow_notj Q j 5 8 hqn (by decide)]
            rfl
          case measure => simp [intOf]; try omega
        · have HLE : Hd (R + R + bit < b) := ⟨by omega⟩
          have HN := Hd.mk (HJ.out.lt HLE.out)
          obtain ⟨V, hV⟩ : ∃ V, V = R + R + bit := ⟨_, rfl⟩
          rw [← hV] at HLE HN z3 c3
          rw [HQ.out] at HN
          clear hle hV
          go_wp2_with fail
          refine (wless_lt V b HBL.out HLE.out _).mono ?_
          rintro e wa ⟨R', rfl, hb⟩
          have y0 := heap_below hb z0
          have y1 := heap_below hb z1
          have y2 := heap_below hb z2
          have y3 := heap_below hb z3
          have hB1 := below_on hB hb
          have s3 := lt_of_block y3
          clear hb z0 z1 z2 z3 c1 c3 hB
          go_wp2
          go_roundw
          case rel =>
            refine ⟨j, by omega, by go_num, heap_old y0 _, heap_old y1 _, ?_, by rw [HN.out.2]; exact heap_old y3 _, by focus (repeat (first | (with_reducible exact Below.refl _ _) | (with_reducible assumption) | ((with_reducible refine Below.setCell ?_ ?_ _); rotate_left; (focus (first | omega | (simp; done) | (simp; omega)))) | ((with_reducible refine Below.alloc ?_ ?_ _); rotate_left; (focus (first | omega | (simp; done) | (simp; omega)))) | (with_reducible refine Below.drew ?_) | (refine below_on ?_ (by assumption))))⟩
            rw [HN.out.1]
            exact heap_old y2 _
          case measure => simp [intOf]; try omega

      · have hqn : j / 64 = 6 := by omega
        have HA2 := Hd.mk (HAND.out 6 hqn)
        clear hge
        refine region_qt 12 (by kernel_rfl) (by kernel_rfl) fun X _ mk hmk hcl => ?_
        have c0 := mk_cell hmk z0
        have c3 := mk_cell hmk z3
        simp only [List.take_succ_cons, List.take_zero, List.drop_succ_cons, List.drop_zero]
        repeat (go_big_quiet_step (skip))
        refine wpQuiet_nil ?_
        rintro _ ⟨x, rfl⟩
        clear c0 c3
        have hx := hmk x
        clear hcl hmk
        generalize mk x = W1 at hx
        have y0 := heap_below hx z0
        have y1 := heap_below hx z1
        have y2 := heap_below hx z2
        have y3 := heap_below hx z3
        have hB1 := below_on hB hx
        have f3 := frozen_at y3
        have c3 := cell_at y3
        clear hx z0 z1 z2 z3 hB
        go_upto_region 7 with (fail)
        refine abs_wp (fun W => W.heap[w.heap.size]? = some (.cells #[.int .u64 (dg (a) 0), .int .u64 (dg (a) 1), .int .u64 (dg (a) 2), .int .u64 (dg (a) 3), .int .u64 (dg (a) 4), .int .u64 (dg (a) 5), .int .u64 (dg (a) 6), .int .u64 (dg (a) 7), .int .u64 (dg (a) 8)] 160 (0, 0)) ∧ W.heap[w.heap.size + 1]? = some (.cells #[.int .u64 (dg (b) 0), .int .u64 (dg (b) 1), .int .u64 (dg (b) 2), .int .u64 (dg (b) 3), .int .u64 (dg (b) 4), .int .u64 (dg (b) 5), .int .u64 (dg (b) 6), .int .u64 (dg (b) 7), .int .u64 (dg (b) 8)] 160 (0, 0)) ∧ W.heap[w.heap.size + 1 + 1]? = some (.cells #[.int .u64 (dg (Q * 2 ^ (j + 1)) 0), .int .u64 (dg (Q * 2 ^ (j + 1)) 1), .int .u64 (dg (Q * 2 ^ (j + 1)) 2), .int .u64 (dg (Q * 2 ^ (j + 1)) 3), .int .u64 (dg (Q * 2 ^ (j + 1)) 4), .int .u64 (dg (Q * 2 ^ (j + 1)) 5), .int .u64 (dg (Q * 2 ^ (j + 1)) 6), .int .u64 (dg (Q * 2 ^ (j + 1)) 7), .int .u64 (dg (Q * 2 ^ (j + 1)) 8)] 160 (0, 0)) ∧ W.heap[w.heap.size + 1 + 1 + 1]? = some (.cells #[.int .u64 (dg (R + R + bit) 0), .int .u64 (dg (R + R + bit) 1), .int .u64 (dg (R + R + bit) 2), .int .u64 (dg (R + R + bit) 3), .int .u64 (dg (R + R + bit) 4), .int .u64 (dg (R + R + bit) 5), .int .u64 (dg (R + R + bit) 6), .int .u64 (dg (R + R + bit) 7), .int .u64 (dg (R + R + bit) 8)] 160 (0, 0)) ∧ Below w.heap.size w W) ?_ fun W ⟨z0, z1, z2, z3, hB⟩ => ?_
        · refine ⟨heap_set_other y0 (by first | (simp; done) | (simp; omega)) _, heap_set_other y1 (by first | (simp; done) | (simp; omega)) _, heap_set_other y2 (by first | (simp; done) | (simp; omega)) _, ?_, by focus (repeat (first | (with_reducible exact Below.refl _ _) | (with_reducible assumption) | ((with_reducible refine Below.setCell ?_ ?_ _); rotate_left; (focus (first | omega | (simp; done) | (simp; omega)))) | ((with_reducible refine Below.alloc ?_ ?_ _); rotate_left; (focus (first | omega | (simp; done) | (simp; omega)))) | (with_reducible refine Below.drew ?_) | (refine below_on ?_ (by assumption))))⟩
          refine (heap_set y3 _ _).trans ?_
          rw [low_or R bit _ HJ.out.bit1 HA2.out]
          simp only [high_or R bit 1 HJ.out.bit1 (by decide), high_or R bit 2 HJ.out.bit1 (by decide), high_or R bit 3 HJ.out.bit1 (by decide), high_or R bit 4 HJ.out.bit1 (by decide), high_or R bit 5 HJ.out.bit1 (by decide), high_or R bit 6 HJ.out.bit1 (by decide), high_or R bit 7 HJ.out.bit1 (by decide), high_or R bit 8 HJ.out.bit1 (by decide)]
          rfl
        clear y0 y1 y2 y3 c3 f3 hB1 HA2
        have c1 := cell_at z1
        have c3 := cell_at z3
        by_cases hle : b ≤ R + R + bit
        · have HLE := Hd.mk hle
          have HN := Hd.mk (HJ.out.ge hle)
          have HVL := Hd.mk (HJ.out.room _ HB.out)
          obtain ⟨V, hV⟩ : ∃ V, V = R + R + bit := ⟨_, rfl⟩
          rw [← hV] at HLE HN HVL z3 c3
          rw [HQ.out] at HN
          clear hle hV
          go_wp2_with fail
          refine (wless_ge V b HVL.out HLE.out _).mono ?_
          rintro e wa ⟨rfl, hb⟩
          have y0 := heap_below hb z0
          have y1 := heap_below hb z1
          have y2 := heap_below hb z2
          have y3 := heap_below hb z3
          have hB1 := below_on hB hb
          have s3 := lt_of_block y3
          clear hb z0 z1 z2 z3 c1 c3 hB
          have c3 := cell_at y3
          have f3 := frozen_at y3
          go_upto_region 10 with (fail)
          refine abs_wp (fun W => W.heap[w.heap.size]? = some (.cells #[.int .u64 (dg (a) 0), .int .u64 (dg (a) 1), .int .u64 (dg (a) 2), .int .u64 (dg (a) 3), .int .u64 (dg (a) 4), .int .u64 (dg (a) 5), .int .u64 (dg (a) 6), .int .u64 (dg (a) 7), .int .u64 (dg (a) 8)] 160 (0, 0)) ∧ W.heap[w.heap.size + 1]? = some (.cells #[.int .u64 (dg (b) 0), .int .u64 (dg (b) 1), .int .u64 (dg (b) 2), .int .u64 (dg (b) 3), .int .u64 (dg (b) 4), .int .u64 (dg (b) 5), .int .u64 (dg (b) 6), .int .u64 (dg (b) 7), .int .u64 (dg (b) 8)] 160 (0, 0)) ∧ W.heap[w.heap.size + 1 + 1]? = some (.cells #[.int .u64 (dg (Q * 2 ^ (j + 1)) 0), .int .u64 (dg (Q * 2 ^ (j + 1)) 1), .int .u64 (dg (Q * 2 ^ (j + 1)) 2), .int .u64 (dg (Q * 2 ^ (j + 1)) 3), .int .u64 (dg (Q * 2 ^ (j + 1)) 4), .int .u64 (dg (Q * 2 ^ (j + 1)) 5), .int .u64 (dg (Q * 2 ^ (j + 1)) 6), .int .u64 (dg (Q * 2 ^ (j + 1)) 7), .int .u64 (dg (Q * 2 ^ (j + 1)) 8)] 160 (0, 0)) ∧ W.heap[w.heap.size + 1 + 1 + 1]? = some (.cells #[.int .u64 (dg (V - b) 0), .int .u64 (dg (V - b) 1), .int .u64 (dg (V - b) 2), .int .u64 (dg (V - b) 3), .int .u64 (dg (V - b) 4), .int .u64 (dg (V - b) 5), .int .u64 (dg (V - b) 6), .int .u64 (dg (V - b) 7), .int .u64 (dg (V - b) 8)] 160 (0, 0)) ∧ Below w.heap.size w W) ?_ fun W ⟨z0, z1, z2, z3, hB⟩ => ?_
          · obtain ⟨l1, l2, l3⟩ := laid_9 (w.heap.size + 1 + 1 + 1) wa (.int .u64 (dg (V - b) 0)) (.int .u64 (dg (V - b) 1)) (.int .u64 (dg (V - b) 2)) (.int .u64 (dg (V - b) 3)) (.int .u64 (dg (V - b) 4)) (.int .u64 (dg (V - b) 5)) (.int .u64 (dg (V - b) 6)) (.int .u64 (dg (V - b) 7)) (.int .u64 (dg (V - b) 8))
            have hB2 := hB1.trans (l3 _ (by omega))
            exact ⟨heap_old (l2 _ _ (by omega) y0) _, heap_old (l2 _ _ (by omega) y1) _, heap_old (l2 _ _ (by omega) y2) _, heap_old (l1 y3 rfl) _, Below.alloc hB2 hB2.size _⟩
          clear y0 y1 y2 y3 c3 f3 hB1 s3
          refine region_qt 9 (by kernel_rfl) (by kernel_rfl) fun X _ mk hmk hcl => ?_
          have c2 := mk_cell hmk z2
          simp only [List.take_succ_cons, List.take_zero, List.drop_succ_cons, List.drop_zero]
          repeat (go_big_quiet_step (skip))
          refine wpQuiet_nil ?_
          rintro _ ⟨x, rfl⟩
          clear c2
          have hx := hmk x
          clear hcl hmk
          generalize mk x = W1 at hx
          have y0 := heap_below hx z0
          have y1 := heap_below hx z1
          have y2 := heap_below hx z2
          have y3 := heap_below hx z3
          have hB1 := below_on hB hx
          have f2 := frozen_at y2
          have c2 := cell_at y2
          clear hx z0 z1 z2 z3 hB
          go_wp2
          go_roundw
          case rel =>
            refine ⟨j, by omega, by go_num, heap_set_other y0 (by first | (simp; done) | (simp; omega)) _, heap_set_other y1 (by first | (simp; done) | (simp; omega)) _, ?_, by rw [HN.out.2]; exact heap_set_other y3 (by first | (simp; done) | (simp; omega)) _, by focus (repeat (first | (with_reducible exact Below.refl _ _) | (with_reducible assumption) | ((with_reducible refine Below.setCell ?_ ?_ _); rotate_left; (focus (first | omega | (simp; done) | (simp; omega)))) | ((with_reducible refine Below.alloc ?_ ?_ _); rotate_left; (focus (first | omega | (simp; done) | (simp; omega)))) | (with_reducible refine Below.drew ?_) | (refine below_on ?_ (by assumption))))⟩
            rw [HN.out.1]
            refine (heap_set y2 _ _).trans ?_
            rw [pow_orj Q j 6 _ hqn (wrap_pow _ (Nat.mod_lt _ (by decide)))]
            simp only [pow_notj Q j 6 0 hqn (by decide), pow_notj Q j 6 1 hqn (by decide), pow_notj Q j 6 2 hqn (by decide), pow_notj Q j 6 3 hqn (by decide), pow_notj Q j 6 4 hqn (by decide), pow_notj Q j 6 5 hqn (by decide), pow_notj Q j 6 7 hqn (by decide), pow_notj Q j 6 8 hqn (by decide)]
            rfl
          case measure => simp [intOf]; try omega
        · have HLE : Hd (R + R + bit < b) := ⟨by omega⟩
          have HN := Hd.mk (HJ.out.lt HLE.out)
          obtain ⟨V, hV⟩ : ∃ V, V = R + R + bit := ⟨_, rfl⟩
          rw [← hV] at HLE HN z3 c3
          rw [HQ.out] at HN
          clear hle hV
          go_wp2_with fail
          refine (wless_lt V b HBL.out HLE.out _).mono ?_
          rintro e wa ⟨R', rfl, hb⟩
          have y0 := heap_below hb z0
          have y1 := heap_below hb z1
          have y2 := heap_below hb z2
          have y3 := heap_below hb z3
          have hB1 := below_on hB hb
          have s3 := lt_of_block y3
          clear hb z0 z1 z2 z3 c1 c3 hB
          go_wp2
          go_roundw
          case rel =>
            refine ⟨j, by omega, by go_num, heap_old y0 _, heap_old y1 _, ?_, by rw [HN.out.2]; exact heap_old y3 _, by focus (repeat (first | (with_reducible exact Below.refl _ _) | (with_reducible assumption) | ((with_reducible refine Below.setCell ?_ ?_ _); rotate_left; (focus (first | omega | (simp; done) | (simp; omega)))) | ((with_reducible refine Below.alloc ?_ ?_ _); rotate_left; (focus (first | omega | (simp; done) | (simp; omega)))) | (with_reducible refine Below.drew ?_) | (refine below_on ?_ (by assumption))))⟩
            rw [HN.out.1]
            exact heap_old y2 _
          case measure => simp [intOf]; try omega

      · have hqn : j / 64 = 7 := by omega
        have HA2 := Hd.mk (HAND.out 7 hqn)
        clear hge
        refine region_qt 12 (by kernel_rfl) (by kernel_rfl) fun X _ mk hmk hcl => ?_
        have c0 := mk_cell hmk z0
        have c3 := mk_cell hmk z3
        simp only [List.take_succ_cons, List.take_zero, List.drop_succ_cons, List.drop_zero]
        repeat (go_big_quiet_step (skip))
        refine wpQuiet_nil ?_
        rintro _ ⟨x, rfl⟩
        clear c0 c3
        have hx := hmk x
        clear hcl hmk
        generalize mk x = W1 at hx
        have y0 := heap_below hx z0
        have y1 := heap_below hx z1
        have y2 := heap_below hx z2
        have y3 := heap_below hx z3
        have hB1 := below_on hB hx
        have f3 := frozen_at y3
        have c3 := cell_at y3
        clear hx z0 z1 z2 z3 hB
        go_upto_region 7 with (fail)
        refine abs_wp (fun W => W.heap[w.heap.size]? = some (.cells #[.int .u64 (dg (a) 0), .int .u64 (dg (a) 1), .int .u64 (dg (a) 2), .int .u64 (dg (a) 3), .int .u64 (dg (a) 4), .int .u64 (dg (a) 5), .int .u64 (dg (a) 6), .int .u64 (dg (a) 7), .int .u64 (dg (a) 8)] 160 (0, 0)) ∧ W.heap[w.heap.size + 1]? = some (.cells #[.int .u64 (dg (b) 0), .int .u64 (dg (b) 1), .int .u64 (dg (b) 2), .int .u64 (dg (b) 3), .int .u64 (dg (b) 4), .int .u64 (dg (b) 5), .int .u64 (dg (b) 6), .int .u64 (dg (b) 7), .int .u64 (dg (b) 8)] 160 (0, 0)) ∧ W.heap[w.heap.size + 1 + 1]? = some (.cells #[.int .u64 (dg (Q * 2 ^ (j + 1)) 0), .int .u64 (dg (Q * 2 ^ (j + 1)) 1), .int .u64 (dg (Q * 2 ^ (j + 1)) 2), .int .u64 (dg (Q * 2 ^ (j + 1)) 3), .int .u64 (dg (Q * 2 ^ (j + 1)) 4), .int .u64 (dg (Q * 2 ^ (j + 1)) 5), .int .u64 (dg (Q * 2 ^ (j + 1)) 6), .int .u64 (dg (Q * 2 ^ (j + 1)) 7), .int .u64 (dg (Q * 2 ^ (j + 1)) 8)] 160 (0, 0)) ∧ W.heap[w.heap.size + 1 + 1 + 1]? = some (.cells #[.int .u64 (dg (R + R + bit) 0), .int .u64 (dg (R + R + bit) 1), .int .u64 (dg (R + R + bit) 2), .int .u64 (dg (R + R + bit) 3), .int .u64 (dg (R + R + bit) 4), .int .u64 (dg (R + R + bit) 5), .int .u64 (dg (R + R + bit) 6), .int .u64 (dg (R + R + bit) 7), .int .u64 (dg (R + R + bit) 8)] 160 (0, 0)) ∧ Below w.heap.size w W) ?_ fun W ⟨z0, z1, z2, z3, hB⟩ => ?_
        · refine ⟨heap_set_other y0 (by first | (simp; done) | (simp; omega)) _, heap_set_other y1 (by first | (simp; done) | (simp; omega)) _, heap_set_other y2 (by first | (simp; done) | (simp; omega)) _, ?_, by focus (repeat (first | (with_reducible exact Below.refl _ _) | (with_reducible assumption) | ((with_reducible refine Below.setCell ?_ ?_ _); rotate_left; (focus (first | omega | (simp; done) | (simp; omega)))) | ((with_reducible refine Below.alloc ?_ ?_ _); rotate_left; (focus (first | omega | (simp; done) | (simp; omega)))) | (with_reducible refine Below.drew ?_) | (refine below_on ?_ (by assumption))))⟩
          refine (heap_set y3 _ _).trans ?_
          rw [low_or R bit _ HJ.out.bit1 HA2.out]
          simp only [high_or R bit 1 HJ.out.bit1 (by decide), high_or R bit 2 HJ.out.bit1 (by decide), high_or R bit 3 HJ.out.bit1 (by decide), high_or R bit 4 HJ.out.bit1 (by decide), high_or R bit 5 HJ.out.bit1 (by decide), high_or R bit 6 HJ.out.bit1 (by decide), high_or R bit 7 HJ.out.bit1 (by decide), high_or R bit 8 HJ.out.bit1 (by decide)]
          rfl
        clear y0 y1 y2 y3 c3 f3 hB1 HA2
        have c1 := cell_at z1
        have c3 := cell_at z3
        by_cases hle : b ≤ R + R + bit
        · have HLE := Hd.mk hle
          have HN := Hd.mk (HJ.out.ge hle)
          have HVL := Hd.mk (HJ.out.room _ HB.out)
          obtain ⟨V, hV⟩ : ∃ V, V = R + R + bit := ⟨_, rfl⟩
          rw [← hV] at HLE HN HVL z3 c3
          rw [HQ.out] at HN
          clear hle hV
          go_wp2_with fail
          refine (wless_ge V b HVL.out HLE.out _).mono ?_
          rintro e wa ⟨rfl, hb⟩
          have y0 := heap_below hb z0
          have y1 := heap_below hb z1
          have y2 := heap_below hb z2
          have y3 := heap_below hb z3
          have hB1 := below_on hB hb
          have s3 := lt_of_block y3
          clear hb z0 z1 z2 z3 c1 c3 hB
          have c3 := cell_at y3
          have f3 := frozen_at y3
          go_upto_region 10 with (fail)
          refine abs_wp (fun W => W.heap[w.heap.size]? = some (.cells #[.int .u64 (dg (a) 0), .int .u64 (dg (a) 1), .int .u64 (dg (a) 2), .int .u64 (dg (a) 3), .int .u64 (dg (a) 4), .int .u64 (dg (a) 5), .int .u64 (dg (a) 6), .int .u64 (dg (a) 7), .int .u64 (dg (a) 8)] 160 (0, 0)) ∧ W.heap[w.heap.size + 1]? = some (.cells #[.int .u64 (dg (b) 0), .int .u64 (dg (b) 1), .int .u64 (dg (b) 2), .int .u64 (dg (b) 3), .int .u64 (dg (b) 4), .int .u64 (dg (b) 5), .int .u64 (dg (b) 6), .int .u64 (dg (b) 7), .int .u64 (dg (b) 8)] 160 (0, 0)) ∧ W.heap[w.heap.size + 1 + 1]? = some (.cells #[.int .u64 (dg (Q * 2 ^ (j + 1)) 0), .int .u64 (dg (Q * 2 ^ (j + 1)) 1), .int .u64 (dg (Q * 2 ^ (j + 1)) 2), .int .u64 (dg (Q * 2 ^ (j + 1)) 3), .int .u64 (dg (Q * 2 ^ (j + 1)) 4), .int .u64 (dg (Q * 2 ^ (j + 1)) 5), .int .u64 (dg (Q * 2 ^ (j + 1)) 6), .int .u64 (dg (Q * 2 ^ (j + 1)) 7), .int .u64 (dg (Q * 2 ^ (j + 1)) 8)] 160 (0, 0)) ∧ W.heap[w.heap.size + 1 + 1 + 1]? = some (.cells #[.int .u64 (dg (V - b) 0), .int .u64 (dg (V - b) 1), .int .u64 (dg (V - b) 2), .int .u64 (dg (V - b) 3), .int .u64 (dg (V - b) 4), .int .u64 (dg (V - b) 5), .int .u64 (dg (V - b) 6), .int .u64 (dg (V - b) 7), .int .u64 (dg (V - b) 8)] 160 (0, 0)) ∧ Below w.heap.size w W) ?_ fun W ⟨z0, z1, z2, z3, hB⟩ => ?_
          · obtain ⟨l1, l2, l3⟩ := laid_9 (w.heap.size + 1 + 1 + 1) wa (.int .u64 (dg (V - b) 0)) (.int .u64 (dg (V - b) 1)) (.int .u64 (dg (V - b) 2)) (.int .u64 (dg (V - b) 3)) (.int .u64 (dg (V - b) 4)) (.int .u64 (dg (V - b) 5)) (.int .u64 (dg (V - b) 6)) (.int .u64 (dg (V - b) 7)) (.int .u64 (dg (V - b) 8))
            have hB2 := hB1.trans (l3 _ (by omega))
            exact ⟨heap_old (l2 _ _ (by omega) y0) _, heap_old (l2 _ _ (by omega) y1) _, heap_old (l2 _ _ (by omega) y2) _, heap_old (l1 y3 rfl) _, Below.alloc hB2 hB2.size _⟩
          clear y0 y1 y2 y3 c3 f3 hB1 s3
          refine region_qt 9 (by kernel_rfl) (by kernel_rfl) fun X _ mk hmk hcl => ?_
          have c2 := mk_cell hmk z2
          simp only [List.take_succ_cons, List.take_zero, List.drop_succ_cons, List.drop_zero]
          repeat (go_big_quiet_step (skip))
          refine wpQuiet_nil ?_
          rintro _ ⟨x, rfl⟩
          clear c2
          have hx := hmk x
          clear hcl hmk
          generalize mk x = W1 at hx
          have y0 := heap_below hx z0
          have y1 := heap_below hx z1
          have y2 := heap_below hx z2
          have y3 := heap_below hx z3
          have hB1 := below_on hB hx
          have f2 := frozen_at y2
          have c2 := cell_at y2
          clear hx z0 z1 z2 z3 hB
          go_wp2
          go_roundw
          case rel =>
            refine ⟨j, by omega, by go_num, heap_set_other y0 (by first | (simp; done) | (simp; omega)) _, heap_set_other y1 (by first | (simp; done) | (simp; omega)) _, ?_, by rw [HN.out.2]; exact heap_set_other y3 (by first | (simp; done) | (simp; omega)) _, by focus (repeat (first | (with_reducible exact Below.refl _ _) | (with_reducible assumption) | ((with_reducible refine Below.setCell ?_ ?_ _); rotate_left; (focus (first | omega | (simp; done) | (simp; omega)))) | ((with_reducible refine Below.alloc ?_ ?_ _); rotate_left; (focus (first | omega | (simp; done) | (simp; omega)))) | (with_reducible refine Below.drew ?_) | (refine below_on ?_ (by assumption))))⟩
            rw [HN.out.1]
            refine (heap_set y2 _ _).trans ?_
            rw [pow_orj Q j 7 _ hqn (wrap_pow _ (Nat.mod_lt _ (by decide)))]
            simp only [pow_notj Q j 7 0 hqn (by decide), pow_notj Q j 7 1 hqn (by decide), pow_notj Q j 7 2 hqn (by decide), pow_notj Q j 7 3 hqn (by decide), pow_notj Q j 7 4 hqn (by decide), pow_notj Q j 7 5 hqn (by decide), pow_notj Q j 7 6 hqn (by decide), pow_notj Q j 7 8 hqn (by decide)]
            rfl
          case measure => simp [intOf]; try omega
        · have HLE : Hd (R + R + bit < b) := ⟨by omega⟩
          have HN := Hd.mk (HJ.out.lt HLE.out)
          obtain ⟨V, hV⟩ : ∃ V, V = R + R + bit := ⟨_, rfl⟩
          rw [← hV] at HLE HN z3 c3
          rw [HQ.out] at HN
          clear hle hV
          go_wp2_with fail
          refine (wless_lt V b HBL.out HLE.out _).mono ?_
          rintro e wa ⟨R', rfl, hb⟩
          have y0 := heap_below hb z0
          have y1 := heap_below hb z1
          have y2 := heap_below hb z2
          have y3 := heap_below hb z3
          have hB1 := below_on hB hb
          have s3 := lt_of_block y3
          clear hb z0 z1 z2 z3 c1 c3 hB
          go_wp2
          go_roundw
          case rel =>
            refine ⟨j, by omega, by go_num, heap_old y0 _, heap_old y1 _, ?_, by rw [HN.out.2]; exact heap_old y3 _, by focus (repeat (first | (with_reducible exact Below.refl _ _) | (with_reducible assumption) | ((with_reducible refine Below.setCell ?_ ?_ _); rotate_left; (focus (first | omega | (simp; done) | (simp; omega)))) | ((with_reducible refine Below.alloc ?_ ?_ _); rotate_left; (focus (first | omega | (simp; done) | (simp; omega)))) | (with_reducible refine Below.drew ?_) | (refine below_on ?_ (by assumption))))⟩
            rw [HN.out.1]
            exact heap_old y2 _
          case measure => simp [intOf]; try omega

      · have hqn : j / 64 = 8 := by omega
        have HA2 := Hd.mk (HAND.out 8 hqn)
        clear hge
        refine region_qt 12 (by kernel_rfl) (by kernel_rfl) fun X _ mk hmk hcl => ?_
        have c0 := mk_cell hmk z0
        have c3 := mk_cell hmk z3
        simp only [List.take_succ_cons, List.take_zero, List.drop_succ_cons, List.drop_zero]
        repeat (go_big_quiet_step (skip))
        refine wpQuiet_nil ?_
        rintro _ ⟨x, rfl⟩
        clear c0 c3
        have hx := hmk x
        clear hcl hmk
        generalize mk x = W1 at hx
        have y0 := heap_below hx z0
        have y1 := heap_below hx z1
        have y2 := heap_below hx z2
        have y3 := heap_below hx z3
        have hB1 := below_on hB hx
        have f3 := frozen_at y3
        have c3 := cell_at y3
        clear hx z0 z1 z2 z3 hB
        go_upto_region 7 with (fail)
        refine abs_wp (fun W => W.heap[w.heap.size]? = some (.cells #[.int .u64 (dg (a) 0), .int .u64 (dg (a) 1), .int .u64 (dg (a) 2), .int .u64 (dg (a) 3), .int .u64 (dg (a) 4), .int .u64 (dg (a) 5), .int .u64 (dg (a) 6), .int .u64 (dg (a) 7), .int .u64 (dg (a) 8)] 160 (0, 0)) ∧ W.heap[w.heap.size + 1]? = some (.cells #[.int .u64 (dg (b) 0), .int .u64 (dg (b) 1), .int .u64 (dg (b) 2), .int .u64 (dg (b) 3), .int .u64 (dg (b) 4), .int .u64 (dg (b) 5), .int .u64 (dg (b) 6), .int .u64 (dg (b) 7), .int .u64 (dg (b) 8)] 160 (0, 0)) ∧ W.heap[w.heap.size + 1 + 1]? = some (.cells #[.int .u64 (dg (Q * 2 ^ (j + 1)) 0), .int .u64 (dg (Q * 2 ^ (j + 1)) 1), .int .u64 (dg (Q * 2 ^ (j + 1)) 2), .int .u64 (dg (Q * 2 ^ (j + 1)) 3), .int .u64 (dg (Q * 2 ^ (j + 1)) 4), .int .u64 (dg (Q * 2 ^ (j + 1)) 5), .int .u64 (dg (Q * 2 ^ (j + 1)) 6), .int .u64 (dg (Q * 2 ^ (j + 1)) 7), .int .u64 (dg (Q * 2 ^ (j + 1)) 8)] 160 (0, 0)) ∧ W.heap[w.heap.size + 1 + 1 + 1]? = some (.cells #[.int .u64 (dg (R + R + bit) 0), .int .u64 (dg (R + R + bit) 1), .int .u64 (dg (R + R + bit) 2), .int .u64 (dg (R + R + bit) 3), .int .u64 (dg (R + R + bit) 4), .int .u64 (dg (R + R + bit) 5), .int .u64 (dg (R + R + bit) 6), .int .u64 (dg (R + R + bit) 7), .int .u64 (dg (R + R + bit) 8)] 160 (0, 0)) ∧ Below w.heap.size w W) ?_ fun W ⟨z0, z1, z2, z3, hB⟩ => ?_
        · refine ⟨heap_set_other y0 (by first | (simp; done) | (simp; omega)) _, heap_set_other y1 (by first | (simp; done) | (simp; omega)) _, heap_set_other y2 (by first | (simp; done) | (simp; omega)) _, ?_, by focus (repeat (first | (with_reducible exact Below.refl _ _) | (with_reducible assumption) | ((with_reducible refine Below.setCell ?_ ?_ _); rotate_left; (focus (first | omega | (simp; done) | (simp; omega)))) | ((with_reducible refine Below.alloc ?_ ?_ _); rotate_left; (focus (first | omega | (simp; done) | (simp; omega)))) | (with_reducible refine Below.drew ?_) | (refine below_on ?_ (by assumption))))⟩
          refine (heap_set y3 _ _).trans ?_
          rw [low_or R bit _ HJ.out.bit1 HA2.out]
          simp only [high_or R bit 1 HJ.out.bit1 (by decide), high_or R bit 2 HJ.out.bit1 (by decide), high_or R bit 3 HJ.out.bit1 (by decide), high_or R bit 4 HJ.out.bit1 (by decide), high_or R bit 5 HJ.out.bit1 (by decide), high_or R bit 6 HJ.out.bit1 (by decide), high_or R bit 7 HJ.out.bit1 (by decide), high_or R bit 8 HJ.out.bit1 (by decide)]
          rfl
        clear y0 y1 y2 y3 c3 f3 hB1 HA2
        have c1 := cell_at z1
        have c3 := cell_at z3
        by_cases hle : b ≤ R + R + bit
        · have HLE := Hd.mk hle
          have HN := Hd.mk (HJ.out.ge hle)
          have HVL := Hd.mk (HJ.out.room _ HB.out)
          obtain ⟨V, hV⟩ : ∃ V, V = R + R + bit := ⟨_, rfl⟩
          rw [← hV] at HLE HN HVL z3 c3
          rw [HQ.out] at HN
          clear hle hV
          go_wp2_with fail
          refine (wless_ge V b HVL.out HLE.out _).mono ?_
          rintro e wa ⟨rfl, hb⟩
          have y0 := heap_below hb z0
          have y1 := heap_below hb z1
          have y2 := heap_below hb z2
          have y3 := heap_below hb z3
          have hB1 := below_on hB hb
          have s3 := lt_of_block y3
          clear hb z0 z1 z2 z3 c1 c3 hB
          have c3 := cell_at y3
          have f3 := frozen_at y3
          go_upto_region 10 with (fail)
          refine abs_wp (fun W => W.heap[w.heap.size]? = some (.cells #[.int .u64 (dg (a) 0), .int .u64 (dg (a) 1), .int .u64 (dg (a) 2), .int .u64 (dg (a) 3), .int .u64 (dg (a) 4), .int .u64 (dg (a) 5), .int .u64 (dg (a) 6), .int .u64 (dg (a) 7), .int .u64 (dg (a) 8)] 160 (0, 0)) ∧ W.heap[w.heap.size + 1]? = some (.cells #[.int .u64 (dg (b) 0), .int .u64 (dg (b) 1), .int .u64 (dg (b) 2), .int .u64 (dg (b) 3), .int .u64 (dg (b) 4), .int .u64 (dg (b) 5), .int .u64 (dg (b) 6), .int .u64 (dg (b) 7), .int .u64 (dg (b) 8)] 160 (0, 0)) ∧ W.heap[w.heap.size + 1 + 1]? = some (.cells #[.int .u64 (dg (Q * 2 ^ (j + 1)) 0), .int .u64 (dg (Q * 2 ^ (j + 1)) 1), .int .u64 (dg (Q * 2 ^ (j + 1)) 2), .int .u64 (dg (Q * 2 ^ (j + 1)) 3), .int .u64 (dg (Q * 2 ^ (j + 1)) 4), .int .u64 (dg (Q * 2 ^ (j + 1)) 5), .int .u64 (dg (Q * 2 ^ (j + 1)) 6), .int .u64 (dg (Q * 2 ^ (j + 1)) 7), .int .u64 (dg (Q * 2 ^ (j + 1)) 8)] 160 (0, 0)) ∧ W.heap[w.heap.size + 1 + 1 + 1]? = some (.cells #[.int .u64 (dg (V - b) 0), .int .u64 (dg (V - b) 1), .int .u64 (dg (V - b) 2), .int .u64 (dg (V - b) 3), .int .u64 (dg (V - b) 4), .int .u64 (dg (V - b) 5), .int .u64 (dg (V - b) 6), .int .u64 (dg (V - b) 7), .int .u64 (dg (V - b) 8)] 160 (0, 0)) ∧ Below w.heap.size w W) ?_ fun W ⟨z0, z1, z2, z3, hB⟩ => ?_
          · obtain ⟨l1, l2, l3⟩ := laid_9 (w.heap.size + 1 + 1 + 1) wa (.int .u64 (dg (V - b) 0)) (.int .u64 (dg (V - b) 1)) (.int .u64 (dg (V - b) 2)) (.int .u64 (dg (V - b) 3)) (.int .u64 (dg (V - b) 4)) (.int .u64 (dg (V - b) 5)) (.int .u64 (dg (V - b) 6)) (.int .u64 (dg (V - b) 7)) (.int .u64 (dg (V - b) 8))
            have hB2 := hB1.trans (l3 _ (by omega))
            exact ⟨heap_old (l2 _ _ (by omega) y0) _, heap_old (l2 _ _ (by omega) y1) _, heap_old (l2 _ _ (by omega) y2) _, heap_old (l1 y3 rfl) _, Below.alloc hB2 hB2.size _⟩
          clear y0 y1 y2 y3 c3 f3 hB1 s3
          refine region_qt 9 (by kernel_rfl) (by kernel_rfl) fun X _ mk hmk hcl => ?_
          have c2 := mk_cell hmk z2
          simp only [List.take_succ_cons, List.take_zero, List.drop_succ_cons, List.drop_zero]
          repeat (go_big_quiet_step (skip))
          refine wpQuiet_nil ?_
          rintro _ ⟨x, rfl⟩
          clear c2
          have hx := hmk x
          clear hcl hmk
          generalize mk x = W1 at hx
          have y0 := heap_below hx z0
          have y1 := heap_below hx z1
          have y2 := heap_below hx z2
          have y3 := heap_below hx z3
          have hB1 := below_on hB hx
          have f2 := frozen_at y2
          have c2 := cell_at y2
          clear hx z0 z1 z2 z3 hB
          go_wp2
          go_roundw
          case rel =>
            refine ⟨j, by omega, by go_num, heap_set_other y0 (by first | (simp; done) | (simp; omega)) _, heap_set_other y1 (by first | (simp; done) | (simp; omega)) _, ?_, by rw [HN.out.2]; exact heap_set_other y3 (by first | (simp; done) | (simp; omega)) _, by focus (repeat (first | (with_reducible exact Below.refl _ _) | (with_reducible assumption) | ((with_reducible refine Below.setCell ?_ ?_ _); rotate_left; (focus (first | omega | (simp; done) | (simp; omega)))) | ((with_reducible refine Below.alloc ?_ ?_ _); rotate_left; (focus (first | omega | (simp; done) | (simp; omega)))) | (with_reducible refine Below.drew ?_) | (refine below_on ?_ (by assumption))))⟩
            rw [HN.out.1]
            refine (heap_set y2 _ _).trans ?_
            rw [pow_orj Q j 8 _ hqn (wrap_pow _ (Nat.mod_lt _ (by decide)))]
            simp only [pow_notj Q j 8 0 hqn (by decide), pow_notj Q j 8 1 hqn (by decide), pow_notj Q j 8 2 hqn (by decide), pow_notj Q j 8 3 hqn (by decide), pow_notj Q j 8 4 hqn (by decide), pow_notj Q j 8 5 hqn (by decide), pow_notj Q j 8 6 hqn (by decide), pow_notj Q j 8 7 hqn (by decide)]
            rfl
          case measure => simp [intOf]; try omega
        · have HLE : Hd (R + R + bit < b) := ⟨by omega⟩
          have HN := Hd.mk (HJ.out.lt HLE.out)
          obtain ⟨V, hV⟩ : ∃ V, V = R + R + bit := ⟨_, rfl⟩
          rw [← hV] at HLE HN z3 c3
          rw [HQ.out] at HN
          clear hle hV
          go_wp2_with fail
          refine (wless_lt V b HBL.out HLE.out _).mono ?_
          rintro e wa ⟨R', rfl, hb⟩
          have y0 := heap_below hb z0
          have y1 := heap_below hb z1
          have y2 := heap_below hb z2
          have y3 := heap_below hb z3
          have hB1 := below_on hB hb
          have s3 := lt_of_block y3
          clear hb z0 z1 z2 z3 c1 c3 hB
          go_wp2
          go_roundw
          case rel =>
            refine ⟨j, by omega, by go_num, heap_old y0 _, heap_old y1 _, ?_, by rw [HN.out.2]; exact heap_old y3 _, by focus (repeat (first | (with_reducible exact Below.refl _ _) | (with_reducible assumption) | ((with_reducible refine Below.setCell ?_ ?_ _); rotate_left; (focus (first | omega | (simp; done) | (simp; omega)))) | ((with_reducible refine Below.alloc ?_ ?_ _); rotate_left; (focus (first | omega | (simp; done) | (simp; omega)))) | (with_reducible refine Below.drew ?_) | (refine below_on ?_ (by assumption))))⟩
            rw [HN.out.1]
            exact heap_old y2 _
          case measure => simp [intOf]; try omega

end Go.Proofs.YtbhfnfokihdjjaaGreatDoor
