/-
  The quotient bit by bit: plain laws on numbers; then the walk of parts. Conditions stand in each theorem.
-/
import Derived.Test.YteibcklcegkbcaaLm6
import Derived.Deep.CutBlock
namespace Go.Proofs.Yteibcklcegkbcaa
open Go.RowKit Go.BigFrame

def quoS (a b s : Nat) : Nat := a / 2 ^ s / b * 2 ^ s
def remS (a b s : Nat) : Nat := a / 2 ^ s % b
theorem quoS_zero (a b : Nat) : quoS a b 0 = a / b := by simp [quoS]
theorem remS_zero (a b : Nat) : remS a b 0 = a % b := by simp [remS]
theorem quoS_top (a b : Nat) : quoS a b (topN a) = 0 := by simp [quoS, Nat.div_eq_of_lt (topN_lt a)]
theorem remS_top (a b : Nat) : remS a b (topN a) = 0 := by simp [remS, Nat.div_eq_of_lt (topN_lt a)]
theorem quoS_dvd (a b s : Nat) : 2 ^ s ∣ quoS a b s := ⟨a / 2 ^ s / b, Nat.mul_comm _ _⟩
theorem quoS_le (a b s : Nat) : quoS a b s ≤ a := by
  unfold quoS
  exact Nat.le_trans (Nat.mul_le_mul_right _ (Nat.div_le_self _ _)) (Nat.div_mul_le_self _ _)
theorem remS_lt {a b : Nat} (hb : 0 < b) (s : Nat) : remS a b s < b := Nat.mod_lt _ hb
theorem half (a j : Nat) : a / 2 ^ j = 2 * (a / 2 ^ (j + 1)) + bitN a j := by
  unfold bitN
  rw [Nat.pow_succ, ← Nat.div_div_eq_div_mul]
  omega
/-- One more bit. -/
theorem div_step {a b : Nat} (hb : 0 < b) (j : Nat) :
    (b ≤ 2 * remS a b (j + 1) + bitN a j → quoS a b j = quoS a b (j + 1) + 2 ^ j ∧ remS a b j = 2 * remS a b (j + 1) + bitN a j - b) ∧
    (2 * remS a b (j + 1) + bitN a j < b → quoS a b j = quoS a b (j + 1) ∧ remS a b j = 2 * remS a b (j + 1) + bitN a j) := by
  have hh := half a j
  have hr := remS_lt (a := a) hb (j + 1)
  have hbit := bitN_le a j
  unfold quoS remS at *
  rw [hh]
  generalize a / 2 ^ (j + 1) = x at *
  generalize bitN a j = c at *
  have hx := split_at x b
  have e : 2 * x + c = (2 * (x % b) + c) + b * (2 * (x / b)) := by rw [Nat.mul_left_comm]; omega
  have e2 : x / b * 2 ^ (j + 1) = 2 * (x / b) * 2 ^ j := by rw [Nat.pow_succ, ← Nat.mul_assoc, Nat.mul_comm _ 2, ← Nat.mul_assoc]
  rw [e, Nat.add_mul_div_left _ _ hb, Nat.add_mul_mod_self_left, e2]
  constructor
  · intro h
    have h1 : (2 * (x % b) + c) / b = 1 := by rw [Nat.div_eq_iff hb]; omega
    have h2 : (2 * (x % b) + c) % b = 2 * (x % b) + c - b := by
      have := Nat.div_add_mod (2 * (x % b) + c) b
      rw [h1] at this; omega
    rw [h1, h2, Nat.add_mul]
    omega
  · intro h
    rw [Nat.div_eq_of_lt h, Nat.mod_eq_of_lt h, Nat.zero_add]
    exact ⟨rfl, rfl⟩

/-- A bit laid into a number that has none from there down. -/
theorem dg_lay (q j i : Nat) (hd : 2 ^ (j + 1) ∣ q) : dg (q + 2 ^ j) i = if i = j / 64 then (((dg q i).toNat ||| 2 ^ (j % 64) : Nat) : Int) else dg q i := by
  obtain ⟨m, rfl⟩ := hd
  have hj : 2 ^ j = 2 ^ (64 * (j / 64)) * 2 ^ (j % 64) := by rw [← Nat.pow_add]; congr 1; omega
  split
  · rename_i h
    subst h
    have h1 : (2 ^ (j + 1) * m + 2 ^ j) / 2 ^ (64 * (j / 64)) = 2 ^ (j % 64 + 1) * m + 2 ^ (j % 64) := by
      have : 2 ^ (j + 1) * m + 2 ^ j = 2 ^ (64 * (j / 64)) * (2 ^ (j % 64 + 1) * m + 2 ^ (j % 64)) := by
        rw [Nat.mul_add, ← hj, ← Nat.mul_assoc, ← Nat.pow_add]; congr 3; omega
      rw [this, Nat.mul_div_cancel_left _ (Nat.two_pow_pos _)]
    have h2 : 2 ^ (j + 1) * m / 2 ^ (64 * (j / 64)) = 2 ^ (j % 64 + 1) * m := by
      have : 2 ^ (j + 1) * m = 2 ^ (64 * (j / 64)) * (2 ^ (j % 64 + 1) * m) := by
        rw [← Nat.mul_assoc, ← Nat.pow_add]; congr 2; omega
      rw [this, Nat.mul_div_cancel_left _ (Nat.two_pow_pos _)]
    rw [dg_toNat, h2]
    unfold dg
    rw [h1]
    congr 1
    have h64 : (18446744073709551616 : Nat) = 2 ^ (j % 64 + 1) * 2 ^ (63 - j % 64) := by
      rw [show (18446744073709551616 : Nat) = 2 ^ 64 from by decide, ← Nat.pow_add]; congr 1; omega
    have h3 : 2 ^ (j % 64 + 1) * m % 18446744073709551616 = 2 ^ (j % 64 + 1) * (m % 2 ^ (63 - j % 64)) := by
      rw [h64, Nat.mul_mod_mul_left]
    have hlt : 2 ^ (j % 64) < 2 ^ (j % 64 + 1) := Nat.pow_lt_pow_right (by decide) (by omega)
    have h4 := Nat.two_pow_add_eq_or_of_lt hlt (m % 2 ^ (63 - j % 64))
    rw [h3, ← h4]
    have h5 : 2 ^ (j % 64 + 1) * (m % 2 ^ (63 - j % 64)) + 2 ^ (j % 64) < 18446744073709551616 := by
      have h6 := Nat.mod_lt m (Nat.two_pow_pos (63 - j % 64))
      have h7 : 2 ^ (j % 64 + 1) * (m % 2 ^ (63 - j % 64)) + 2 ^ (j % 64 + 1) ≤ 2 ^ (j % 64 + 1) * 2 ^ (63 - j % 64) := by
        rw [← Nat.mul_succ]; exact Nat.mul_le_mul_left _ h6
      rw [← h64] at h7
      omega
    rw [← Nat.mod_eq_of_lt h5, Nat.add_mod, Nat.add_mod (2 ^ (j % 64 + 1) * (m % 2 ^ (63 - j % 64))), ← h3, Nat.mod_mod]
  · rename_i h
    unfold dg
    congr 1
    rcases Nat.lt_or_gt_of_ne h with h | h
    · -- a lower digit: both are 0 there
      have h64 : (2 : Nat) ^ j = 2 ^ (64 * i) * (18446744073709551616 * 2 ^ (j - 64 * (i + 1))) := by
        rw [show (18446744073709551616 : Nat) = 2 ^ 64 from by decide, ← Nat.pow_add, ← Nat.pow_add]; congr 1; omega
      have e1 : 2 ^ (j + 1) * m + 2 ^ j = 2 ^ (64 * i) * (18446744073709551616 * (2 ^ (j - 64 * (i + 1)) * (2 * m + 1))) := by
        rw [Nat.pow_succ, Nat.mul_assoc, ← Nat.mul_succ, h64]; simp only [Nat.mul_assoc]
      have e2 : 2 ^ (j + 1) * m = 2 ^ (64 * i) * (18446744073709551616 * (2 ^ (j - 64 * (i + 1)) * (2 * m))) := by
        rw [Nat.pow_succ, Nat.mul_assoc, h64]; simp only [Nat.mul_assoc]
      rw [e1, e2, Nat.mul_div_cancel_left _ (Nat.two_pow_pos _), Nat.mul_div_cancel_left _ (Nat.two_pow_pos _), Nat.mul_mod_right, Nat.mul_mod_right]
    · -- a higher digit: nothing is carried
      have hp : 2 ^ (j + 1) ∣ 2 ^ (64 * i) := Nat.pow_dvd_pow 2 (by omega)
      obtain ⟨c, hc⟩ := hp
      have hlt : 2 ^ j < 2 ^ (j + 1) := Nat.pow_lt_pow_right (by decide) (by omega)
      have e1 : (2 ^ (j + 1) * m + 2 ^ j) / 2 ^ (64 * i) = 2 ^ (j + 1) * m / 2 ^ (64 * i) := by
        rw [hc, ← Nat.div_div_eq_div_mul, ← Nat.div_div_eq_div_mul, Nat.mul_add_div (Nat.two_pow_pos _), Nat.div_eq_of_lt hlt, Nat.add_zero, Nat.mul_div_cancel_left _ (Nat.two_pow_pos _)]
      rw [e1]

/-- The digit that the bit is laid into, as the walk has it. -/
theorem lay_bits (q j : Nat) (hj : j < 256) : bits .or .u64 (dg q (j / 64)) (IntKind.u64.wrap (2 ^ (j % 64))) = (((dg q (j / 64)).toNat ||| 2 ^ (j % 64) : Nat) : Int) := by
  have h1 := dg_lt q (j / 64)
  obtain ⟨x, hx⟩ := Int.eq_ofNat_of_zero_le (dg_nonneg q (j / 64))
  rw [hx] at h1 ⊢
  have h2 : 2 ^ (j % 64) < 18446744073709551616 := by
    rw [show (18446744073709551616 : Nat) = 2 ^ 64 from by decide]
    exact Nat.pow_lt_pow_right (by decide) (by omega)
  have h4 : ((2 ^ (j % 64) : Nat) : Int) = (2 : Int) ^ (j % 64) := Int.natCast_pow 2 _
  rw [← h4]
  generalize 2 ^ (j % 64) = p at *
  have h3 : IntKind.u64.wrap (p : Int) = (p : Int) := by
    rw [IntKind.wrap_u64]
    omega
  rw [h3, bits_or_u64_nat _ _ (by omega) h2, Int.toNat_natCast]

theorem lay_cells (q j : Nat) (hj : j < 256) (hd : 2 ^ (j + 1) ∣ q) : (#[.int .u64 (dg (q) 0), .int .u64 (dg (q) 1), .int .u64 (dg (q) 2), .int .u64 (dg (q) 3)] : Array Value).setIfInBounds (j / 64) (.int .u64 (bits .or .u64 (dg q (j / 64)) (IntKind.u64.wrap (2 ^ (j % 64))))) = #[.int .u64 (dg (q + 2 ^ j) 0), .int .u64 (dg (q + 2 ^ j) 1), .int .u64 (dg (q + 2 ^ j) 2), .int .u64 (dg (q + 2 ^ j) 3)] := by
  rw [lay_bits q j hj]
  have h0 := dg_lay q j 0 hd
  have h1 := dg_lay q j 1 hd
  have h2 := dg_lay q j 2 hd
  have h3 := dg_lay q j 3 hd
  rw [h0, h1, h2, h3]
  obtain h | h | h | h : j / 64 = 0 ∨ j / 64 = 1 ∨ j / 64 = 2 ∨ j / 64 = 3 := by omega
  all_goals simp [h]

def PartsInv (a b : Nat) (w : World) (s : Nat) (wr : World) : Prop :=
  Below w.heap.size w wr ∧ wr.heap[w.heap.size]? = some (.cells #[.int .u64 (dg (a) 0), .int .u64 (dg (a) 1), .int .u64 (dg (a) 2), .int .u64 (dg (a) 3)] 82 (0, 0)) ∧ wr.heap[w.heap.size + 1]? = some (.cells #[.int .u64 (dg (b) 0), .int .u64 (dg (b) 1), .int .u64 (dg (b) 2), .int .u64 (dg (b) 3)] 82 (0, 0)) ∧
    wr.heap[w.heap.size + 2]? = some (.cells #[.int .u64 (dg (quoS a b s) 0), .int .u64 (dg (quoS a b s) 1), .int .u64 (dg (quoS a b s) 2), .int .u64 (dg (quoS a b s) 3)] 82 (0, 0)) ∧ wr.heap[w.heap.size + 3]? = some (.cells #[.int .u64 (dg (remS a b s) 0), .int .u64 (dg (remS a b s) 1), .int .u64 (dg (remS a b s) 2), .int .u64 (dg (remS a b s) 3)] 82 (0, 0))

set_option maxRecDepth 20000 in
set_option maxHeartbeats 1000000 in
theorem parts_any (a b : Nat) (ha : a < 2 ^ 256) (hb : b < 2 ^ 256) (h0 : 0 < b) (w : World) :
    Calls Try.prog 47 #[.agg #[.int .u64 (dg (a) 0), .int .u64 (dg (a) 1), .int .u64 (dg (a) 2), .int .u64 (dg (a) 3)], .agg #[.int .u64 (dg (b) 0), .int .u64 (dg (b) 1), .int .u64 (dg (b) 2), .int .u64 (dg (b) 3)]] w fun e w' => e = .returned (.tuple #[.agg #[.int .u64 (dg (a / b) 0), .int .u64 (dg (a / b) 1), .int .u64 (dg (a / b) 2), .int .u64 (dg (a / b) 3)], .agg #[.int .u64 (dg (a % b) 0), .int .u64 (dg (a % b) 1), .int .u64 (dg (a % b) 2), .int .u64 (dg (a % b) 3)]]) ∧ Below w.heap.size w w' := by
  have HA := Hd.mk ha
  have HB := Hd.mk hb
  have H0 := Hd.mk h0
  have HT := Hd.mk (topN_le ha)
  have hT : (topN a : Int) ≤ 256 := by have := topN_le ha; omega
  clear ha hb h0
  go_enter Try.func47, Try.ntmps47
  go_wp2_with (go_at_call 67; refine (top_any a HA.out _).mono ?_; rintro e w1 ⟨rfl, hb1⟩)
  go_loopw [6, 7] (fun i _ wr => ∃ s : Nat, s ≤ 256 ∧ i = .int .i64 ((s : Int) - 1) ∧ PartsInv a b w s wr)
    (fun i _ _ => (intOf i + 1).toNat)
  case atStart =>
    refine ⟨topN a, HT.out, rfl, ?_⟩
    have h3 : PartsInv a b w (topN a) ((((w.alloc (.cells #[.int .u64 (dg (a) 0), .int .u64 (dg (a) 1), .int .u64 (dg (a) 2), .int .u64 (dg (a) 3)] 82)).alloc (.cells #[.int .u64 (dg (b) 0), .int .u64 (dg (b) 1), .int .u64 (dg (b) 2), .int .u64 (dg (b) 3)] 82)).alloc (.cells #[.int .u64 (dg (0) 0), .int .u64 (dg (0) 1), .int .u64 (dg (0) 2), .int .u64 (dg (0) 3)] 82)).alloc (.cells #[.int .u64 (dg (0) 0), .int .u64 (dg (0) 1), .int .u64 (dg (0) 2), .int .u64 (dg (0) 3)] 82)) := by
      unfold PartsInv
      rw [quoS_top, remS_top]
      refine ⟨?_, ?_, ?_, ?_, ?_⟩
      focus (repeat (first | (with_reducible exact Below.refl _ _) | (with_reducible assumption) | ((with_reducible refine Below.setCell ?_ ?_ _); rotate_left; (focus (first | omega | (simp; done) | (simp; omega)))) | ((with_reducible refine Below.alloc ?_ ?_ _); rotate_left; (focus (first | omega | (simp; done) | (simp; omega)))) | (with_reducible refine Below.drew ?_) | (refine below_on ?_ (by assumption))))
      · exact heap_old (heap_old (heap_old (heap_new _ _) _) _) _
      · exact heap_old (heap_old (heap_at (by simp) _) _) _
      · exact heap_old (heap_at (by simp) _) _
      · exact heap_at (by simp) _
    simp only [dg_zero] at h3
    obtain ⟨k1, k2, k3, k4, k5⟩ := h3
    exact ⟨below_on k1 hb1, heap_below hb1 k2, heap_below hb1 k3, heap_below hb1 k4, heap_below hb1 k5⟩
  case round =>
    obtain ⟨s, hs, rfl, hBw, z0, z1, z2, z3⟩ := hrel
    by_cases hlt : 1 ≤ s
    · obtain ⟨j, rfl⟩ : ∃ j, s = j + 1 := ⟨s - 1, by omega⟩
      rw [show ((j + 1 : Nat) : Int) - 1 = (j : Int) from by omega]
      have hj : j < 256 := by omega
      have HJ := Hd.mk hj
      go_wp2
      refine region_mix 8 (by kernel_rfl) (by kernel_rfl) (fun _ _ _ _ h => h) fun X _ mk hmk hcl => ?_
      have c0 := mk_cell hmk z0
      have c3 := mk_cell hmk z3
      simp only [List.take_succ_cons, List.take_zero, List.drop_succ_cons, List.drop_zero]
      repeat (go_big_quiet_step ((first | (go_at_call 68; exact (bit_any a j HJ.out _).mono fun e w' ⟨he, hw⟩ => ⟨he, hcl _ _ hw⟩) | (go_at_call 74; exact (doubled_any _ _ (Nat.lt_trans (remS_lt H0.out _) HB.out) (bitN_le _ _) _).mono fun e w' ⟨he, hw⟩ => ⟨he, hcl _ _ hw⟩))))
      refine wpQuiet_nil ?_
      rintro _ ⟨x, rfl⟩
      have hw1 := hmk x
      clear hcl hmk c0 c3
      generalize mk x = W1 at hw1
      have z0 := heap_below hw1 z0
      have z1 := heap_below hw1 z1
      have z2 := heap_below hw1 z2
      have z3 := heap_below hw1 z3
      have c3 := cell_at z3
      have f3 := frozen_at z3
      have hs3 := lt_of_block z3
      go_upto_region 6 with (fail)
      refine abs_wp (fun W => Below w.heap.size w W ∧ W.heap[w.heap.size]? = some (.cells #[.int .u64 (dg (a) 0), .int .u64 (dg (a) 1), .int .u64 (dg (a) 2), .int .u64 (dg (a) 3)] 82 (0, 0)) ∧ W.heap[w.heap.size + 1]? = some (.cells #[.int .u64 (dg (b) 0), .int .u64 (dg (b) 1), .int .u64 (dg (b) 2), .int .u64 (dg (b) 3)] 82 (0, 0)) ∧
        W.heap[w.heap.size + 2]? = some (.cells #[.int .u64 (dg (quoS a b (j + 1)) 0), .int .u64 (dg (quoS a b (j + 1)) 1), .int .u64 (dg (quoS a b (j + 1)) 2), .int .u64 (dg (quoS a b (j + 1)) 3)] 82 (0, 0)) ∧ W.heap[w.heap.size + 3]? = some (.cells #[.int .u64 (dg (dblN (remS a b (j + 1)) (bitN a j)) 0), .int .u64 (dg (dblN (remS a b (j + 1)) (bitN a j)) 1), .int .u64 (dg (dblN (remS a b (j + 1)) (bitN a j)) 2), .int .u64 (dg (dblN (remS a b (j + 1)) (bitN a j)) 3)] 82 (0, 0))) ?_ ?_
      · refine ⟨?_, ?_, ?_, ?_, ?_⟩
        focus (repeat (first | (with_reducible exact Below.refl _ _) | (with_reducible assumption) | ((with_reducible refine Below.setCell ?_ ?_ _); rotate_left; (focus (first | omega | (simp; done) | (simp; omega)))) | ((with_reducible refine Below.alloc ?_ ?_ _); rotate_left; (focus (first | omega | (simp; done) | (simp; omega)))) | (with_reducible refine Below.drew ?_) | (refine below_on ?_ (by assumption))))
        · repeat (first | (with_reducible exact z0) | ((with_reducible refine heap_set_other ?_ ?_ _); rotate_left; (focus (first | omega | (simp; done) | (simp; omega)))) | (with_reducible refine heap_old ?_ _))
        · repeat (first | (with_reducible exact z1) | ((with_reducible refine heap_set_other ?_ ?_ _); rotate_left; (focus (first | omega | (simp; done) | (simp; omega)))) | (with_reducible refine heap_old ?_ _))
        · repeat (first | (with_reducible exact z2) | ((with_reducible refine heap_set_other ?_ ?_ _); rotate_left; (focus (first | omega | (simp; done) | (simp; omega)))) | (with_reducible refine heap_old ?_ _))
        · refine (heap_set (heap_set (heap_set (heap_set z3 _ _) _ _) _ _) _ _).trans ?_
          simp
      clear z0 z1 z2 z3 c3 f3 hs3 hw1 hBw W1
      rintro W ⟨hBw, z0, z1, z2, z3⟩
      have c1 := cell_at z1
      have c3 := cell_at z3
      have hstep := div_step (a := a) H0.out j
      have hV : ovr (remS a b (j + 1)) (bitN a j) 4 = (2 * remS a b (j + 1) + bitN a j) / 2 ^ 256 := ovr_last _ (Nat.lt_trans (remS_lt H0.out _) HB.out)
      have hD : dblN (remS a b (j + 1)) (bitN a j) = (2 * remS a b (j + 1) + bitN a j) % 2 ^ 256 := rfl
      have hrb := remS_lt (a := a) H0.out (j + 1)
      have hbit := bitN_le a j
      have hbb := HB.out
      by_cases hov : 2 ^ 256 ≤ 2 * remS a b (j + 1) + bitN a j
      · have hO : ovr (remS a b (j + 1)) (bitN a j) 4 = 1 := by rw [hV]; omega
        have hA : ((ovr (remS a b (j + 1)) (bitN a j) 4 : Int) == 1) = true := by rw [hO]; rfl
        have HV := Hd.mk (hstep.1 (by omega))
        have HL : Hd (lessN (dblN (remS a b (j + 1)) (bitN a j)) b = remS a b j) := ⟨by rw [HV.out.2, hD, lessN]; omega⟩
        clear hstep hV hD hrb hbit hbb hov hO
        go_wp2_with fail
        refine (less_any _ _ HB.out _).mono ?_
        rintro e w2 ⟨rfl, hb2⟩
        have hBw := below_on hBw hb2
        have z0 := heap_below hb2 z0
        have z1 := heap_below hb2 z1
        have z2 := heap_below hb2 z2
        have z3 := heap_below hb2 z3
        have c1 := cell_at z1
        have c3 := cell_at z3
        have f3 := frozen_at z3
        have hs3 := lt_of_block z3
        go_upto_region 8 with (fail)
        refine abs_wp (fun W => Below w.heap.size w W ∧ W.heap[w.heap.size]? = some (.cells #[.int .u64 (dg (a) 0), .int .u64 (dg (a) 1), .int .u64 (dg (a) 2), .int .u64 (dg (a) 3)] 82 (0, 0)) ∧ W.heap[w.heap.size + 1]? = some (.cells #[.int .u64 (dg (b) 0), .int .u64 (dg (b) 1), .int .u64 (dg (b) 2), .int .u64 (dg (b) 3)] 82 (0, 0)) ∧
          W.heap[w.heap.size + 2]? = some (.cells #[.int .u64 (dg (quoS a b (j + 1)) 0), .int .u64 (dg (quoS a b (j + 1)) 1), .int .u64 (dg (quoS a b (j + 1)) 2), .int .u64 (dg (quoS a b (j + 1)) 3)] 82 (0, 0)) ∧ W.heap[w.heap.size + 3]? = some (.cells #[.int .u64 (dg (remS a b j) 0), .int .u64 (dg (remS a b j) 1), .int .u64 (dg (remS a b j) 2), .int .u64 (dg (remS a b j) 3)] 82 (0, 0))) ?_ ?_
        · refine ⟨?_, ?_, ?_, ?_, ?_⟩
          focus (repeat (first | (with_reducible exact Below.refl _ _) | (with_reducible assumption) | ((with_reducible refine Below.setCell ?_ ?_ _); rotate_left; (focus (first | omega | (simp; done) | (simp; omega)))) | ((with_reducible refine Below.alloc ?_ ?_ _); rotate_left; (focus (first | omega | (simp; done) | (simp; omega)))) | (with_reducible refine Below.drew ?_) | (refine below_on ?_ (by assumption))))
          · repeat (first | (with_reducible exact z0) | ((with_reducible refine heap_set_other ?_ ?_ _); rotate_left; (focus (first | omega | (simp; done) | (simp; omega)))) | (with_reducible refine heap_old ?_ _))
          · repeat (first | (with_reducible exact z1) | ((with_reducible refine heap_set_other ?_ ?_ _); rotate_left; (focus (first | omega | (simp; done) | (simp; omega)))) | (with_reducible refine heap_old ?_ _))
          · repeat (first | (with_reducible exact z2) | ((with_reducible refine heap_set_other ?_ ?_ _); rotate_left; (focus (first | omega | (simp; done) | (simp; omega)))) | (with_reducible refine heap_old ?_ _))
          · refine (heap_set (heap_set (heap_set (heap_set z3 _ _) _ _) _ _) _ _).trans ?_
            rw [← HL.out]
            simp
        clear z0 z1 z2 z3 c1 c3 f3 hs3 hb2 hBw w2
        rintro W2 ⟨hBw, z0, z1, z2, z3⟩
        refine region_qt 9 (by kernel_rfl) (by kernel_rfl) fun X _ mk hmk hcl => ?_
        have cq : ∀ x, (mk x).cell? ⟨w.heap.size + 2, j / 64, none⟩ = some (.int .u64 (dg (quoS a b (j + 1)) (j / 64))) := fun x => by
          rw [mk_cell hmk z2]
          obtain h | h | h | h : j / 64 = 0 ∨ j / 64 = 1 ∨ j / 64 = 2 ∨ j / 64 = 3 := by omega
          all_goals rw [h]; rfl
        simp only [List.take_succ_cons, List.take_zero, List.drop_succ_cons, List.drop_zero]
        repeat (go_big_quiet_step (skip))
        refine wpQuiet_nil ?_
        rintro _ ⟨x, rfl⟩
        have hw3 := hmk x
        have cq := cq x
        clear hcl hmk
        generalize mk x = W3 at hw3 cq
        have z0 := heap_below hw3 z0
        have z1 := heap_below hw3 z1
        have z2 := heap_below hw3 z2
        have z3 := heap_below hw3 z3
        have f2 := frozen_at z2
        have hs2 := lt_of_block z2
        go_wp2
        go_roundw
        case rel =>
          refine ⟨j, by omega, rfl, ?_, ?_, ?_, ?_, ?_⟩
          focus (repeat (first | (with_reducible exact Below.refl _ _) | (with_reducible assumption) | ((with_reducible refine Below.setCell ?_ ?_ _); rotate_left; (focus (first | omega | (simp; done) | (simp; omega)))) | ((with_reducible refine Below.alloc ?_ ?_ _); rotate_left; (focus (first | omega | (simp; done) | (simp; omega)))) | (with_reducible refine Below.drew ?_) | (refine below_on ?_ (by assumption))))
          · repeat (first | (with_reducible exact z0) | ((with_reducible refine heap_set_other ?_ ?_ _); rotate_left; (focus (first | omega | (simp; done) | (simp; omega)))) | (with_reducible refine heap_old ?_ _))
          · repeat (first | (with_reducible exact z1) | ((with_reducible refine heap_set_other ?_ ?_ _); rotate_left; (focus (first | omega | (simp; done) | (simp; omega)))) | (with_reducible refine heap_old ?_ _))
          · refine (heap_set z2 _ _).trans ?_
            rw [lay_cells _ _ HJ.out (quoS_dvd a b (j + 1)), ← HV.out.1]
          · repeat (first | (with_reducible exact z3) | ((with_reducible refine heap_set_other ?_ ?_ _); rotate_left; (focus (first | omega | (simp; done) | (simp; omega)))) | (with_reducible refine heap_old ?_ _))
        case measure => simp [intOf]
      · have hO : ovr (remS a b (j + 1)) (bitN a j) 4 = 0 := by rw [hV]; omega
        have hA : ((ovr (remS a b (j + 1)) (bitN a j) 4 : Int) == 1) = false := by rw [hO]; rfl
        have hD2 : dblN (remS a b (j + 1)) (bitN a j) = 2 * remS a b (j + 1) + bitN a j := by rw [hD]; omega
        by_cases hle : b ≤ 2 * remS a b (j + 1) + bitN a j
        · have hC : decide (cmpN (dblN (remS a b (j + 1)) (bitN a j)) b ≥ 0) = true := by
            rw [hD2]; unfold cmpN; rw [if_neg (by omega)]; split <;> rfl
          have HV := Hd.mk (hstep.1 hle)
          have HL : Hd (lessN (dblN (remS a b (j + 1)) (bitN a j)) b = remS a b j) := ⟨by rw [HV.out.2, hD2, lessN]; omega⟩
          clear hstep hV hD hrb hbit hbb hov hO hD2 hle
          go_wp2_with fail
          refine (mags_any _ _ (dblN_lt _ _) HB.out _).mono ?_
          rintro e w3 ⟨rfl, hb3⟩
          have hBw := below_on hBw hb3
          have z0 := heap_below hb3 z0
          have z1 := heap_below hb3 z1
          have z2 := heap_below hb3 z2
          have z3 := heap_below hb3 z3
          have c1 := cell_at z1
          have c3 := cell_at z3
          go_wp2_with fail
          refine (less_any _ _ HB.out _).mono ?_
          rintro e w2 ⟨rfl, hb2⟩
          have hBw := below_on hBw hb2
          have z0 := heap_below hb2 z0
          have z1 := heap_below hb2 z1
          have z2 := heap_below hb2 z2
          have z3 := heap_below hb2 z3
          have c1 := cell_at z1
          have c3 := cell_at z3
          have f3 := frozen_at z3
          have hs3 := lt_of_block z3
          go_upto_region 8 with (fail)
          refine abs_wp (fun W => Below w.heap.size w W ∧ W.heap[w.heap.size]? = some (.cells #[.int .u64 (dg (a) 0), .int .u64 (dg (a) 1), .int .u64 (dg (a) 2), .int .u64 (dg (a) 3)] 82 (0, 0)) ∧ W.heap[w.heap.size + 1]? = some (.cells #[.int .u64 (dg (b) 0), .int .u64 (dg (b) 1), .int .u64 (dg (b) 2), .int .u64 (dg (b) 3)] 82 (0, 0)) ∧
            W.heap[w.heap.size + 2]? = some (.cells #[.int .u64 (dg (quoS a b (j + 1)) 0), .int .u64 (dg (quoS a b (j + 1)) 1), .int .u64 (dg (quoS a b (j + 1)) 2), .int .u64 (dg (quoS a b (j + 1)) 3)] 82 (0, 0)) ∧ W.heap[w.heap.size + 3]? = some (.cells #[.int .u64 (dg (remS a b j) 0), .int .u64 (dg (remS a b j) 1), .int .u64 (dg (remS a b j) 2), .int .u64 (dg (remS a b j) 3)] 82 (0, 0))) ?_ ?_
          · refine ⟨?_, ?_, ?_, ?_, ?_⟩
            focus (repeat (first | (with_reducible exact Below.refl _ _) | (with_reducible assumption) | ((with_reducible refine Below.setCell ?_ ?_ _); rotate_left; (focus (first | omega | (simp; done) | (simp; omega)))) | ((with_reducible refine Below.alloc ?_ ?_ _); rotate_left; (focus (first | omega | (simp; done) | (simp; omega)))) | (with_reducible refine Below.drew ?_) | (refine below_on ?_ (by assumption))))
            · repeat (first | (with_reducible exact z0) | ((with_reducible refine heap_set_other ?_ ?_ _); rotate_left; (focus (first | omega | (simp; done) | (simp; omega)))) | (with_reducible refine heap_old ?_ _))
            · repeat (first | (with_reducible exact z1) | ((with_reducible refine heap_set_other ?_ ?_ _); rotate_left; (focus (first | omega | (simp; done) | (simp; omega)))) | (with_reducible refine heap_old ?_ _))
            · repeat (first | (with_reducible exact z2) | ((with_reducible refine heap_set_other ?_ ?_ _); rotate_left; (focus (first | omega | (simp; done) | (simp; omega)))) | (with_reducible refine heap_old ?_ _))
            · refine (heap_set (heap_set (heap_set (heap_set z3 _ _) _ _) _ _) _ _).trans ?_
              rw [← HL.out]
              simp
          clear z0 z1 z2 z3 c1 c3 f3 hs3 hb2 hBw w2
          rintro W2 ⟨hBw, z0, z1, z2, z3⟩
          refine region_qt 9 (by kernel_rfl) (by kernel_rfl) fun X _ mk hmk hcl => ?_
          have cq : ∀ x, (mk x).cell? ⟨w.heap.size + 2, j / 64, none⟩ = some (.int .u64 (dg (quoS a b (j + 1)) (j / 64))) := fun x => by
            rw [mk_cell hmk z2]
            obtain h | h | h | h : j / 64 = 0 ∨ j / 64 = 1 ∨ j / 64 = 2 ∨ j / 64 = 3 := by omega
            all_goals rw [h]; rfl
          simp only [List.take_succ_cons, List.take_zero, List.drop_succ_cons, List.drop_zero]
          repeat (go_big_quiet_step (skip))
          refine wpQuiet_nil ?_
          rintro _ ⟨x, rfl⟩
          have hw3 := hmk x
          have cq := cq x
          clear hcl hmk
          generalize mk x = W3 at hw3 cq
          have z0 := heap_below hw3 z0
          have z1 := heap_below hw3 z1
          have z2 := heap_below hw3 z2
          have z3 := heap_below hw3 z3
          have f2 := frozen_at z2
          have hs2 := lt_of_block z2
          go_wp2
          go_roundw
          case rel =>
            refine ⟨j, by omega, rfl, ?_, ?_, ?_, ?_, ?_⟩
            focus (repeat (first | (with_reducible exact Below.refl _ _) | (with_reducible assumption) | ((with_reducible refine Below.setCell ?_ ?_ _); rotate_left; (focus (first | omega | (simp; done) | (simp; omega)))) | ((with_reducible refine Below.alloc ?_ ?_ _); rotate_left; (focus (first | omega | (simp; done) | (simp; omega)))) | (with_reducible refine Below.drew ?_) | (refine below_on ?_ (by assumption))))
            · repeat (first | (with_reducible exact z0) | ((with_reducible refine heap_set_other ?_ ?_ _); rotate_left; (focus (first | omega | (simp; done) | (simp; omega)))) | (with_reducible refine heap_old ?_ _))
            · repeat (first | (with_reducible exact z1) | ((with_reducible refine heap_set_other ?_ ?_ _); rotate_left; (focus (first | omega | (simp; done) | (simp; omega)))) | (with_reducible refine heap_old ?_ _))
            · refine (heap_set z2 _ _).trans ?_
              rw [lay_cells _ _ HJ.out (quoS_dvd a b (j + 1)), ← HV.out.1]
            · repeat (first | (with_reducible exact z3) | ((with_reducible refine heap_set_other ?_ ?_ _); rotate_left; (focus (first | omega | (simp; done) | (simp; omega)))) | (with_reducible refine heap_old ?_ _))
          case measure => simp [intOf]
        · have hC : decide (cmpN (dblN (remS a b (j + 1)) (bitN a j)) b ≥ 0) = false := by
            rw [hD2]; unfold cmpN; rw [if_pos (by omega)]; rfl
          have HV := Hd.mk (hstep.2 (by omega))
          have HD := Hd.mk hD2
          clear hstep hV hD hrb hbit hbb hov hO hD2 hle
          go_wp2_with fail
          refine (mags_any _ _ (dblN_lt _ _) HB.out _).mono ?_
          rintro e w3 ⟨rfl, hb3⟩
          have hBw := below_on hBw hb3
          have z0 := heap_below hb3 z0
          have z1 := heap_below hb3 z1
          have z2 := heap_below hb3 z2
          have z3 := heap_below hb3 z3
          have c1 := cell_at z1
          have c3 := cell_at z3
          go_wp2
          go_roundw
          case rel =>
            refine ⟨j, by omega, rfl, hBw, z0, z1, ?_, ?_⟩
            · rw [HV.out.1]; exact z2
            · rw [HV.out.2, ← HD.out]; exact z3
          case measure => simp [intOf]
    · obtain rfl : s = 0 := by omega
      have c2 := cell_at z2
      have f2 := frozen_at z2
      have c3 := cell_at z3
      have f3 := frozen_at z3
      have hs3 := lt_of_block z3
      go_wp2
      go_region_held3 (fun W' => W'.cell? ⟨w.heap.size + 2, 0, none⟩ = some (.int .u64 (dg (quoS a b 0) 0)) ∧ W'.cell? ⟨w.heap.size + 2, 1, none⟩ = some (.int .u64 (dg (quoS a b 0) 1)) ∧ W'.cell? ⟨w.heap.size + 2, 2, none⟩ = some (.int .u64 (dg (quoS a b 0) 2)) ∧ W'.cell? ⟨w.heap.size + 2, 3, none⟩ = some (.int .u64 (dg (quoS a b 0) 3)) ∧ W'.cell? ⟨w.heap.size + 3, 0, none⟩ = some (.int .u64 (dg (remS a b 0) 0)) ∧ W'.cell? ⟨w.heap.size + 3, 1, none⟩ = some (.int .u64 (dg (remS a b 0) 1)) ∧ W'.cell? ⟨w.heap.size + 3, 2, none⟩ = some (.int .u64 (dg (remS a b 0) 2)) ∧ W'.cell? ⟨w.heap.size + 3, 3, none⟩ = some (.int .u64 (dg (remS a b 0) 3))) (simp [go_sem, *]) (fail)
      go_wp2
      refine bodyPost_ret (by simp [results, Try.results47, go_sem, c2, c3]; rfl) rfl ⟨?_, ?_⟩
      · rw [quoS_zero, remS_zero]
      focus (repeat (first | (with_reducible exact Below.refl _ _) | (with_reducible assumption) | ((with_reducible refine Below.setCell ?_ ?_ _); rotate_left; (focus (first | omega | (simp; done) | (simp; omega)))) | ((with_reducible refine Below.alloc ?_ ?_ _); rotate_left; (focus (first | omega | (simp; done) | (simp; omega)))) | (with_reducible refine Below.drew ?_) | (refine below_on ?_ (by assumption))))
end Go.Proofs.Yteibcklcegkbcaa
