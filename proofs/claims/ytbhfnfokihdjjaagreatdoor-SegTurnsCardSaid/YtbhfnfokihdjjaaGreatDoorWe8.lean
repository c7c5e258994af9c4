/-
  Walks of ratio: a quotient of wide magnitudes, bit by bit. Conditions stand in each theorem.
-/
import Derived.Test.YtbhfnfokihdjjaaGreatDoorWe7
namespace Go.Proofs.YtbhfnfokihdjjaaGreatDoor
open Go.RowKit Go.BigFrame

/-- The lowest digit with one bit more. -/
theorem low_or (R bit : Nat) (x : Int) (hbit : bit ≤ 1) (hx : x = bit) : bits .or .u64 (dg (R + R) 0) x = dg (R + R + bit) 0 := by
  subst hx
  rw [dg_add_bit R bit 0 hbit, if_pos rfl]
  have h1 := dg_lt (R + R) 0
  obtain ⟨y, hy⟩ := Int.eq_ofNat_of_zero_le (dg_nonneg (R + R) 0)
  rw [hy] at h1 ⊢
  rw [bits_or_u64_nat _ _ (by omega) (by omega), Int.toNat_natCast]
theorem high_or (R bit k : Nat) (hbit : bit ≤ 1) (hk : k ≠ 0) : dg (R + R) k = dg (R + R + bit) k := by rw [dg_add_bit R bit k hbit, if_neg hk]
theorem pow_or (Q q r : Nat) (x : Int) (hr : r < 64) (hx : x = ((2 ^ r : Nat) : Int)) : bits .or .u64 (dg (Q * 2 ^ (64 * q + r + 1)) q) x = dg (Q * 2 ^ (64 * q + r + 1) + 2 ^ (64 * q + r)) q := by
  subst hx
  rw [dg_add_pow Q q r q hr, if_pos rfl]
  have h1 := dg_lt (Q * 2 ^ (64 * q + r + 1)) q
  have h2 : 2 ^ r < 18446744073709551616 := Nat.pow_lt_pow_right (a := 2) (by decide) hr
  obtain ⟨y, hy⟩ := Int.eq_ofNat_of_zero_le (dg_nonneg (Q * 2 ^ (64 * q + r + 1)) q)
  rw [hy] at h1 ⊢
  rw [bits_or_u64_nat _ _ (by omega) (by omega), Int.toNat_natCast]
theorem pow_not (Q q r k : Nat) (hr : r < 64) (hk : k ≠ q) : dg (Q * 2 ^ (64 * q + r + 1)) k = dg (Q * 2 ^ (64 * q + r + 1) + 2 ^ (64 * q + r)) k := by rw [dg_add_pow Q q r k hr, if_neg hk]
/-- What a round does. -/
structure BY (a b j R bit : Nat) : Prop where
  bit1 : bit ≤ 1
  isbit : a / 2 ^ j % 2 = bit
  isR : a / 2 ^ (j + 1) % b = R
  ge : b ≤ R + R + bit → a / 2 ^ j / b * 2 ^ j = a / 2 ^ (j + 1) / b * 2 ^ (j + 1) + 2 ^ j ∧ a / 2 ^ j % b = R + R + bit - b
  lt : R + R + bit < b → a / 2 ^ j / b * 2 ^ j = a / 2 ^ (j + 1) / b * 2 ^ (j + 1) ∧ a / 2 ^ j % b = R + R + bit
  room : ∀ X, b + b ≤ X → R + R + bit < X
theorem two_same (Q j : Nat) : 2 * Q * 2 ^ j = Q * 2 ^ (j + 1) := by
  rw [Nat.pow_succ, Nat.mul_comm 2 Q, Nat.mul_assoc, Nat.mul_comm 2]
theorem two_more (Q j : Nat) : (2 * Q + 1) * 2 ^ j = Q * 2 ^ (j + 1) + 2 ^ j := by
  rw [Nat.add_mul, Nat.one_mul, two_same]
theorem by_of (a b j : Nat) (hb : 0 < b) : BY a b j (a / 2 ^ (j + 1) % b) (a / 2 ^ j % 2) := by
  have h1 := half_up a j
  have hbit : a / 2 ^ j % 2 ≤ 1 := by omega
  have h2 := div_up (A := a / 2 ^ (j + 1)) (bit := a / 2 ^ j % 2) hb hbit rfl
  have hlt := Nat.mod_lt (a / 2 ^ (j + 1)) hb
  rw [← h1] at h2
  refine ⟨hbit, rfl, rfl, fun h => ?_, fun h => ?_, fun X hX => by omega⟩
  · obtain ⟨e1, e2⟩ := h2.1 (by omega)
    rw [e1, e2]
    exact ⟨two_more _ j, by omega⟩
  · obtain ⟨e1, e2⟩ := h2.2 (by omega)
    rw [e1, e2]
    exact ⟨two_same _ j, by omega⟩
theorem wrap_pow (r : Nat) (hr : r < 64) : IntKind.u64.wrap (2 ^ r) = ((2 ^ r : Nat) : Int) := by
  have h2 : 2 ^ r < 18446744073709551616 := Nat.pow_lt_pow_right (a := 2) (by decide) hr
  have e : (2 : Int) ^ r = ((2 ^ r : Nat) : Int) := by rw [Int.natCast_pow]; rfl
  rw [IntKind.wrap_u64, e]
  generalize 2 ^ r = X at h2 ⊢
  omega
theorem start_zero {a X : Nat} (b : Nat) (h : a < X) : a / X / b * X = 0 ∧ a / X % b = 0 := by
  rw [Nat.div_eq_of_lt h, Nat.zero_div, Nat.zero_mul, Nat.zero_mod]
  exact ⟨rfl, rfl⟩
theorem and_bit (a j q : Nat) (h : j / 64 = q) : bits .and .u64 (dg a q / 2 ^ (j % 64)) 1 = ((a / 2 ^ j % 2 : Nat) : Int) := by
  rw [and_one, dg_bit _ _ _ (by omega), show 64 * q + j % 64 = j by omega]
theorem pow_orj (Q j q : Nat) (x : Int) (h : j / 64 = q) (hx : x = ((2 ^ (j % 64) : Nat) : Int)) : bits .or .u64 (dg (Q * 2 ^ (j + 1)) q) x = dg (Q * 2 ^ (j + 1) + 2 ^ j) q := by
  have := pow_or Q q (j % 64) x (by omega) hx
  rwa [show 64 * q + j % 64 = j by omega] at this
theorem pow_notj (Q j q k : Nat) (h : j / 64 = q) (hk : k ≠ q) : dg (Q * 2 ^ (j + 1)) k = dg (Q * 2 ^ (j + 1) + 2 ^ j) k := by
  have := pow_not Q q (j % 64) k (by omega) hk
  rwa [show 64 * q + j % 64 = j by omega] at this
set_option maxRecDepth 20000 in
set_option maxHeartbeats 8000000 in
theorem wby_any (a b : Nat) (hb0 : 0 < b) (hb : b + b ≤ 2 ^ (64 * 9)) (ha : a < 2 ^ (64 * 9)) (w : World) :
    Calls Tryz.prog 155 #[.agg #[.int .u64 (dg (a) 0), .int .u64 (dg (a) 1), .int .u64 (dg (a) 2), .int .u64 (dg (a) 3), .int .u64 (dg (a) 4), .int .u64 (dg (a) 5), .int .u64 (dg (a) 6), .int .u64 (dg (a) 7), .int .u64 (dg (a) 8)], .agg #[.int .u64 (dg (b) 0), .int .u64 (dg (b) 1), .int .u64 (dg (b) 2), .int .u64 (dg (b) 3), .int .u64 (dg (b) 4), .int .u64 (dg (b) 5), .int .u64 (dg (b) 6), .int .u64 (dg (b) 7), .int .u64 (dg (b) 8)]] w fun e w' => e = .returned (.agg #[.int .u64 (dg (a / b) 0), .int .u64 (dg (a / b) 1), .int .u64 (dg (a / b) 2), .int .u64 (dg (a / b) 3), .int .u64 (dg (a / b) 4), .int .u64 (dg (a / b) 5), .int .u64 (dg (a / b) 6), .int .u64 (dg (a / b) 7), .int .u64 (dg (a / b) 8)]) ∧ Below w.heap.size w w' := by
  have HB := Hd.mk hb
  have HBY : Hd (∀ j, BY a b j (a / 2 ^ (j + 1) % b) (a / 2 ^ j % 2)) := ⟨fun j => by_of a b j hb0⟩
  have HS := Hd.mk (start_zero b ha)
  have HBL : Hd (b < 2 ^ (64 * 9)) := ⟨Nat.lt_of_lt_of_le (Nat.lt_add_of_pos_left hb0) hb⟩
  clear ha hb hb0
  go_enter Tryz.func155, Tryz.ntmps155
  go_wp2
  go_loopw [6] (fun i wr => ∃ k : Nat, k ≤ 576 ∧ i = .int .i64 ((k : Int) - 1) ∧ wr.heap[w.heap.size]? = some (.cells #[.int .u64 (dg (a) 0), .int .u64 (dg (a) 1), .int .u64 (dg (a) 2), .int .u64 (dg (a) 3), .int .u64 (dg (a) 4), .int .u64 (dg (a) 5), .int .u64 (dg (a) 6), .int .u64 (dg (a) 7), .int .u64 (dg (a) 8)] 160 (0, 0)) ∧ wr.heap[w.heap.size + 1]? = some (.cells #[.int .u64 (dg (b) 0), .int .u64 (dg (b) 1), .int .u64 (dg (b) 2), .int .u64 (dg (b) 3), .int .u64 (dg (b) 4), .int .u64 (dg (b) 5), .int .u64 (dg (b) 6), .int .u64 (dg (b) 7), .int .u64 (dg (b) 8)] 160 (0, 0)) ∧ wr.heap[w.heap.size + 1 + 1]? = some (.cells #[.int .u64 (dg (a / 2 ^ k / b * 2 ^ k) 0), .int .u64 (dg (a / 2 ^ k / b * 2 ^ k) 1), .int .u64 (dg (a / 2 ^ k / b * 2 ^ k) 2), .int .u64 (dg (a / 2 ^ k / b * 2 ^ k) 3), .int .u64 (dg (a / 2 ^ k / b * 2 ^ k) 4), .int .u64 (dg (a / 2 ^ k / b * 2 ^ k) 5), .int .u64 (dg (a / 2 ^ k / b * 2 ^ k) 6), .int .u64 (dg (a / 2 ^ k / b * 2 ^ k) 7), .int .u64 (dg (a / 2 ^ k / b * 2 ^ k) 8)] 160 (0, 0)) ∧ wr.heap[w.heap.size + 1 + 1 + 1]? = some (.cells #[.int .u64 (dg (a / 2 ^ k % b) 0), .int .u64 (dg (a / 2 ^ k % b) 1), .int .u64 (dg (a / 2 ^ k % b) 2), .int .u64 (dg (a / 2 ^ k % b) 3), .int .u64 (dg (a / 2 ^ k % b) 4), .int .u64 (dg (a / 2 ^ k % b) 5), .int .u64 (dg (a / 2 ^ k % b) 6), .int .u64 (dg (a / 2 ^ k % b) 7), .int .u64 (dg (a / 2 ^ k % b) 8)] 160 (0, 0)) ∧ Below w.heap.size w wr) (fun i _ => (intOf i + 1).toNat)
  case atStart =>
    refine ⟨64 * 9, Nat.le_refl _, rfl, ?_⟩
    rw [HS.out.1, HS.out.2]
    simp only [dg_zero]
    exact ⟨heap_old (heap_old (heap_old (heap_new _ _) _) _) _, heap_old (heap_old (heap_at (by simp) _) _) _, heap_old (heap_at (by simp) _) _, heap_at (by simp) _, by focus (repeat (first | (with_reducible exact Below.refl _ _) | (with_reducible assumption) | ((with_reducible refine Below.setCell ?_ ?_ _); rotate_left; (focus (first | omega | (simp; done) | (simp; omega)))) | ((with_reducible refine Below.alloc ?_ ?_ _); rotate_left; (focus (first | omega | (simp; done) | (simp; omega)))) | (with_reducible refine Below.drew ?_) | (refine below_on ?_ (by assumption))))⟩
  case round =>
    clear HS
    obtain ⟨k, hk, rfl, z0, z1, z2, z3, hB⟩ := hrel
    match k, hk, z2, z3 with
    | 0, hk, z2, z3 =>
      rw [Nat.pow_zero, Nat.mul_one, Nat.div_one] at z2
      have c2 := cell_at z2
      have f2 := frozen_at z2
      have hs := lt_of_block z2
      have hge : decide ((((0 : Nat) : Int) - 1) ≥ 0) = false := rfl
      go_wp2
      obtain ⟨l1, l2, l3⟩ := laid_9 (w.heap.size + 1 + 1) wr (.int .u64 (dg (a / b) 0)) (.int .u64 (dg (a / b) 1)) (.int .u64 (dg (a / b) 2)) (.int .u64 (dg (a / b) 3)) (.int .u64 (dg (a / b) 4)) (.int .u64 (dg (a / b) 5)) (.int .u64 (dg (a / b) 6)) (.int .u64 (dg (a / b) 7)) (.int .u64 (dg (a / b) 8))
      have c3 := cell_at (l1 z2 rfl)
      refine bodyPost_ret (by simp [results, Tryz.results155, go_sem, c3] <;> rfl) rfl ⟨rfl, hB.trans (l3 _ (by omega))⟩
    | j + 1, hk, z2, z3 =>
      rw [show ((j + 1 : Nat) : Int) - 1 = (j : Int) from by omega]
      have HJ := Hd.mk (HBY.out j)
      have HAND : Hd (∀ q, j / 64 = q → bits .and .u64 (dg a q / 2 ^ (j % 64)) 1 = ((a / 2 ^ j % 2 : Nat) : Int)) := ⟨fun q h => and_bit a j q h⟩
      obtain ⟨R, hR⟩ : ∃ R, a / 2 ^ (j + 1) % b = R := ⟨_, rfl⟩
      obtain ⟨bit, hbit⟩ : ∃ bit, a / 2 ^ j % 2 = bit := ⟨_, rfl⟩
      rw [hR, hbit] at HJ
      rw [hR] at z3
      rw [hbit] at HAND
      obtain ⟨Q, hQ⟩ : ∃ Q, a / 2 ^ (j + 1) / b = Q := ⟨_, rfl⟩
      rw [hQ] at z2
      have HQ := Hd.mk hQ
      clear hR hbit hQ
      have hge : decide ((j : Int) ≥ 0) = true := by simp
      have c3 := cell_at z3
      go_wp2_with fail
      refine (wsum_v R (R + R) rfl _).mono ?_
      rintro e wa ⟨rfl, hb⟩
      have y0 := heap_below hb z0
      have y1 := heap_below hb z1
      have y2 := heap_below hb z2
      have y3 := heap_below hb z3
      have hB1 := below_on hB hb
      have c3 := cell_at y3
      have f3 := frozen_at y3
      clear hb z0 z1 z2 z3 hB
      go_upto_region 6 with (fail)
      refine abs_wp (fun W => W.heap[w.heap.size]? = some (.cells #[.int .u64 (dg (a) 0), .int .u64 (dg (a) 1), .int .u64 (dg (a) 2), .int .u64 (dg (a) 3), .int .u64 (dg (a) 4), .int .u64 (dg (a) 5), .int .u64 (dg (a) 6), .int .u64 (dg (a) 7), .int .u64 (dg (a) 8)] 160 (0, 0)) ∧ W.heap[w.heap.size + 1]? = some (.cells #[.int .u64 (dg (b) 0), .int .u64 (dg (b) 1), .int .u64 (dg (b) 2), .int .u64 (dg (b) 3), .int .u64 (dg (b) 4), .int .u64 (dg (b) 5), .int .u64 (dg (b) 6), .int .u64 (dg (b) 7), .int .u64 (dg (b) 8)] 160 (0, 0)) ∧ W.heap[w.heap.size + 1 + 1]? = some (.cells #[.int .u64 (dg (Q * 2 ^ (j + 1)) 0), .int .u64 (dg (Q * 2 ^ (j + 1)) 1), .int .u64 (dg (Q * 2 ^ (j + 1)) 2), .int .u64 (dg (Q * 2 ^ (j + 1)) 3), .int .u64 (dg (Q * 2 ^ (j + 1)) 4), .int .u64 (dg (Q * 2 ^ (j + 1)) 5), .int .u64 (dg (Q * 2 ^ (j + 1)) 6), .int .u64 (dg (Q * 2 ^ (j + 1)) 7), .int .u64 (dg (Q * 2 ^ (j + 1)) 8)] 160 (0, 0)) ∧ W.heap[w.heap.size + 1 + 1 + 1]? = some (.cells #[.int .u64 (dg (R + R) 0), .int .u64 (dg (R + R) 1), .int .u64 (dg (R + R) 2), .int .u64 (dg (R + R) 3), .int .u64 (dg (R + R) 4), .int .u64 (dg (R + R) 5), .int .u64 (dg (R + R) 6), .int .u64 (dg (R + R) 7), .int .u64 (dg (R + R) 8)] 160 (0, 0)) ∧ Below w.heap.size w W) ?_ fun W ⟨z0, z1, z2, z3, hB⟩ => ?_
      · obtain ⟨l1, l2, l3⟩ := laid_9 (w.heap.size + 1 + 1 + 1) wa (.int .u64 (dg (R + R) 0)) (.int .u64 (dg (R + R) 1)) (.int .u64 (dg (R + R) 2)) (.int .u64 (dg (R + R) 3)) (.int .u64 (dg (R + R) 4)) (.int .u64 (dg (R + R) 5)) (.int .u64 (dg (R + R) 6)) (.int .u64 (dg (R + R) 7)) (.int .u64 (dg (R + R) 8))
        exact ⟨l2 _ _ (by omega) y0, l2 _ _ (by omega) y1, l2 _ _ (by omega) y2, l1 y3 rfl, hB1.trans (l3 _ (by omega))⟩
      clear y0 y1 y2 y3 c3 f3 hB1
      have h0 : (0 : Int) ≤ j := by omega
      have h1 : (j : Int) < 576 := by omega
      have hm0 : (0 : Int) ≤ (j : Int) % 64 := by omega
      have hm1 : (j : Int) % 64 < 64 := by omega
      obtain hq | hq | hq | hq | hq | hq | hq | hq | hq : (j : Int) / 64 = 0 ∨ (j : Int) / 64 = 1 ∨ (j : Int) / 64 = 2 ∨ (j : Int) / 64 = 3 ∨ (j : Int) / 64 = 4 ∨ (j : Int) / 64 = 5 ∨ (j : Int) / 64 = 6 ∨ (j : Int) / 64 = 7 ∨ (j : Int) / 64 = 8 := by omega
      · have hqn : j / 64 = 0 := by omega
        have HA2 := Hd.mk (HAND.out 0 hqn)
        clear hge
        refine region_qt 12 (by kernel_rfl) (by kernel_rfl) fun X _ mk hmk hcl => ?_
        have c0 := mk_cell hmk z0
        have c3 := mk_cell hmk z3
        simp only [List.take_succ_cons, List.take_zero, List.drop_succ_cons, List.drop_zero]
        repeat (go_big_quiet_step (skip))
        refine wpQuiet_nil ?_
        rintro _ ⟨x, rfl⟩
        clear c0 c3
        have hx := hmk x
        clear hcl hmk
        generalize mk x = W1 at hx
        have y0 := heap_below hx z0
        have y1 := heap_below hx z1
        have y2 := heap_below hx z2
        have y3 := heap_below hx z3
        have hB1 := below_on hB hx
        have f3 := frozen_at y3
        have c3 := cell_at y3
        clear hx z0 z1 z2 z3 hB
        go_upto_region 7 with (fail)
        refine abs_wp (fun W => W.heap[w.heap.size]? = some (.cells #[.int .u64 (dg (a) 0), .int .u64 (dg (a) 1), .int .u64 (dg (a) 2), .int .u64 (dg (a) 3), .int .u64 (dg (a) 4), .int .u64 (dg (a) 5), .int .u64 (dg (a) 6), .int .u64 (dg (a) 7), .int .u64 (dg (a) 8)] 160 (0, 0)) ∧ W.heap[w.heap.size + 1]? = some (.cells #[.int .u64 (dg (b) 0), .int .u64 (dg (b) 1), .int .u64 (dg (b) 2), .int .u64 (dg (b) 3), .int .u64 (dg (b) 4), .int .u64 (dg (b) 5), .int .u64 (dg (b) 6), .int .u64 (dg (b) 7), .int .u64 (dg (b) 8)] 160 (0, 0)) ∧ W.heap[w.heap.size + 1 + 1]? = some (.cells #[.int .u64 (dg (Q * 2 ^ (j + 1)) 0), .int .u64 (dg (Q * 2 ^ (j + 1)) 1), .int .u64 (dg (Q * 2 ^ (j + 1)) 2), .int .u64 (dg (Q * 2 ^ (j + 1)) 3), .int .u64 (dg (Q * 2 ^ (j + 1)) 4), .int .u64 (dg (Q * 2 ^ (j + 1)) 5), .int .u64 (dg (Q * 2 ^ (j + 1)) 6), .int .u64 (dg (Q * 2 ^ (j + 1)) 7), .int .u64 (dg (Q * 2 ^ (j + 1)) 8)] 160 (0, 0)) ∧ W.heap[w.heap.size + 1 + 1 + 1]? = some (.cells #[.int .u64 (dg (R + R + bit) 0), .int .u64 (dg (R + R + bit) 1), .int .u64 (dg (R + R + bit) 2), .int .u64 (dg (R + R + bit) 3), .int .u64 (dg (R + R + bit) 4), .int .u64 (dg (R + R + bit) 5), .int .u64 (dg (R + R + bit) 6), .int .u64 (dg (R + R + bit) 7), .int .u64 (dg (R + R + bit) 8)] 160 (0, 0)) ∧ Below w.heap.size w W) ?_ fun W ⟨z0, z1, z2, z3, hB⟩ => ?_
        · refine ⟨heap_set_other y0 (by first | (simp; done) | (simp; omega)) _, heap_set_other y1 (by first | (simp; done) | (simp; omega)) _, heap_set_other y2 (by first | (simp; done) | (simp; omega)) _, ?_, by focus (repeat (first | (with_reducible exact Below.refl _ _) | (with_reducible assumption) | ((with_reducible refine Below.setCell ?_ ?_ _); rotate_left; (focus (first | omega | (simp; done) | (simp; omega)))) | ((with_reducible refine Below.alloc ?_ ?_ _); rotate_left; (focus (first | omega | (simp; done) | (simp; omega)))) | (with_reducible refine Below.drew ?_) | (refine below_on ?_ (by assumption))))⟩
          refine (heap_set y3 _ _).trans ?_
          rw [low_or R bit _ HJ.out.bit1 HA2.out]
          simp only [high_or R bit 1 HJ.out.bit1 (by decide), high_or R bit 2 HJ.out.bit1 (by decide), high_or R bit 3 HJ.out.bit1 (by decide), high_or R bit 4 HJ.out.bit1 (by decide), high_or R bit 5 HJ.out.bit1 (by decide), high_or R bit 6 HJ.out.bit1 (by decide), high_or R bit 7 HJ.out.bit1 (by decide), high_or R bit 8 HJ.out.bit1 (by decide)]
          rfl
        clear y0 y1 y2 y3 c3 f3 hB1 HA2
        have c1 := cell_at z1
        have c3 := cell_at z3
        by_cases hle : b ≤ R + R + bit
        · have HLE := Hd.mk hle
          have HN := Hd.mk (HJ.out.ge hle)
          have HVL := Hd.mk (HJ.out.room _ HB.out)
          obtain ⟨V, hV⟩ : ∃ V, V = R + R + bit := ⟨_, rfl⟩
          rw [← hV] at HLE HN HVL z3 c3
          rw [HQ.out] at HN
          clear hle hV
          go_wp2_with fail
          refine (wless_ge V b HVL.out HLE.out _).mono ?_
          rintro e wa ⟨rfl, hb⟩
          have y0 := heap_below hb z0
          have y1 := heap_below hb z1
          have y2 := heap_below hb z2
          have y3 := heap_below hb z3
          have hB1 := below_on hB hb
          have s3 := lt_of_block y3
          clear hb z0 z1 z2 z3 c1 c3 hB
          have c3 := cell_at y3
          have f3 := frozen_at y3
          go_upto_region 10 with (fail)
          refine abs_wp (fun W => W.heap[w.heap.size]? = some (.cells #[.int .u64 (dg (a) 0), .int .u64 (dg (a) 1), .int .u64 (dg (a) 2), .int .u64 (dg (a) 3), .int .u64 (dg (a) 4), .int .u64 (dg (a) 5), .int .u64 (dg (a) 6), .int .u64 (dg (a) 7), .int .u64 (dg (a) 8)] 160 (0, 0)) ∧ W.heap[w.heap.size + 1]? = some (.cells #[.int .u64 (dg (b) 0), .int .u64 (dg (b) 1), .int .u64 (dg (b) 2), .int .u64 (dg (b) 3), .int .u64 (dg (b) 4), .int .u64 (dg (b) 5), .int .u64 (dg (b) 6), .int .u64 (dg (b) 7), .int .u64 (dg (b) 8)] 160 (0, 0)) ∧ W.heap[w.heap.size + 1 + 1]? = some (.cells #[.int .u64 (dg (Q * 2 ^ (j + 1)) 0), .int .u64 (dg (Q * 2 ^ (j + 1)) 1), .int .u64 (dg (Q * 2 ^ (j + 1)) 2), .int .u64 (dg (Q * 2 ^ (j + 1)) 3), .int .u64 (dg (Q * 2 ^ (j + 1)) 4), .int .u64 (dg (Q * 2 ^ (j + 1)) 5), .int .u64 (dg (Q * 2 ^ (j + 1)) 6), .int .u64 (dg (Q * 2 ^ (j + 1)) 7), .int .u64 (dg (Q * 2 ^ (j + 1)) 8)] 160 (0, 0)) ∧ W.heap[w.heap.size + 1 + 1 + 1]? = some (.cells #[.int .u64 (dg (V - b) 0), .int .u64 (dg (V - b) 1), .int .u64 (dg (V - b) 2), .int .u64 (dg (V - b) 3), .int .u64 (dg (V - b) 4), .int .u64 (dg (V - b) 5), .int .u64 (dg (V - b) 6), .int .u64 (dg (V - b) 7), .int .u64 (dg (V - b) 8)] 160 (0, 0)) ∧ Below w.heap.size w W) ?_ fun W ⟨z0, z1, z2, z3, hB⟩ => ?_
          · obtain ⟨l1, l2, l3⟩ := laid_9 (w.heap.size + 1 + 1 + 1) wa (.int .u64 (dg (V - b) 0)) (.int .u64 (dg (V - b) 1)) (.int .u64 (dg (V - b) 2)) (.int .u64 (dg (V - b) 3)) (.int .u64 (dg (V - b) 4)) (.int .u64 (dg (V - b) 5)) (.int .u64 (dg (V - b) 6)) (.int .u64 (dg (V - b) 7)) (.int .u64 (dg (V - b) 8))
            have hB2 := hB1.trans (l3 _ (by omega))
            exact ⟨heap_old (l2 _ _ (by omega) y0) _, heap_old (l2 _ _ (by omega) y1) _, heap_old (l2 _ _ (by omega) y2) _, heap_old (l1 y3 rfl) _, Below.alloc hB2 hB2.size _⟩
          clear y0 y1 y2 y3 c3 f3 hB1 s3
          refine region_qt 9 (by kernel_rfl) (by kernel_rfl) fun X _ mk hmk hcl => ?_
          have c2 := mk_cell hmk z2
          simp only [List.take_succ_cons, List.take_zero, List.drop_succ_cons, List.drop_zero]
          repeat (go_big_quiet_step (skip))
          refine wpQuiet_nil ?_
          rintro _ ⟨x, rfl⟩
          clear c2
          have hx := hmk x
          clear hcl hmk
          generalize mk x = W1 at hx
          have y0 := heap_below hx z0
          have y1 := heap_below hx z1
          have y2 := heap_below hx z2
          have y3 := heap_below hx z3
          have hB1 := below_on hB hx
          have f2 := frozen_at y2
          have c2 := cell_at y2
          clear hx z0 z1 z2 z3 hB
          go_wp2
          go_roundw
          case rel =>
            refine ⟨j, by omega, by go_num, heap_set_other y0 (by first | (simp; done) | (simp; omega)) _, heap_set_other y1 (by first | (simp; done) | (simp; omega)) _, ?_, by rw [HN.out.2]; exact heap_set_other y3 (by first | (simp; done) | (simp; omega)) _, by focus (repeat (first | (with_reducible exact Below.refl _ _) | (with_reducible assumption) | ((with_reducible refine Below.setCell ?_ ?_ _); rotate_left; (focus (first | omega | (simp; done) | (simp; omega)))) | ((with_reducible refine Below.alloc ?_ ?_ _); rotate_left; (focus (first | omega | (simp; done) | (simp; omega)))) | (with_reducible refine Below.drew ?_) | (refine below_on ?_ (by assumption))))⟩
            rw [HN.out.1]
            refine (heap_set y2 _ _).trans ?_
            rw [pow_orj Q j 0 _ hqn (wrap_pow _ (Nat.mod_lt _ (by decide)))]
            simp only [pow_notj Q j 0 1 hqn (by decide), pow_notj Q j 0 2 hqn (by decide), pow_notj Q j 0 3 hqn (by decide), pow_notj Q j 0 4 hqn (by decide), pow_notj Q j 0 5 hqn (by decide), pow_notj Q j 0 6 hqn (by decide), pow_notj Q j 0 7 hqn (by decide), pow_notj Q j 0 8 hqn (by decide)]
            rfl
          case measure => simp [intOf]; try omega
        · have HLE : Hd (R + R + bit < b) := ⟨by omega⟩
          have HN := Hd.mk (HJ.out.lt HLE.out)
          obtain ⟨V, hV⟩ : ∃ V, V = R + R + bit := ⟨_, rfl⟩
          rw [← hV] at HLE HN z3 c3
          rw [HQ.out] at HN
          clear hle hV
          go_wp2_with fail
          refine (wless_lt V b HBL.out HLE.out _).mono ?_
          rintro e wa ⟨R', rfl, hb⟩
          have y0 := heap_below hb z0
          have y1 := heap_below hb z1
          have y2 := heap_below hb z2
          have y3 := heap_below hb z3
          have hB1 := below_on hB hb
          have s3 := lt_of_block y3
          clear hb z0 z1 z2 z3 c1 c3 hB
          go_wp2
          go_roundw
          case rel =>
            refine ⟨j, by omega, by go_num, heap_old y0 _, heap_old y1 _, ?_, by rw [HN.out.2]; exact heap_old y3 _, by focus (repeat (first | (with_reducible exact Below.refl _ _) | (with_reducible assumption) | ((with_reducible refine Below.setCell ?_ ?_ _); rotate_left; (focus (first | omega | (simp; done) | (simp; omega)))) | ((with_reducible refine Below.alloc ?_ ?_ _); rotate_left; (focus (first | omega | (simp; done) | (simp; omega)))) | (with_reducible refine Below.drew ?_) | (refine below_on ?_ (by assumption))))⟩
            rw [HN.out.1]
            exact heap_old y2 _
          case measure => simp [intOf]; try omega

      · have hqn : j / 64 = 1 := by omega
        have HA2 := Hd.mk (HAND.out 1 hqn)
        clear hge
        refine region_qt 12 (by kernel_rfl) (by kernel_rfl) fun X _ mk hmk hcl => ?_
        have c0 := mk_cell hmk z0
        have c3 := mk_cell hmk z3
        simp only [List.take_succ_cons, List.take_zero, List.drop_succ_cons, List.drop_zero]
        repeat (go_big_quiet_step (skip))
        refine wpQuiet_nil ?_
        rintro _ ⟨x, rfl⟩
        clear c0 c3
        have hx := hmk x
        clear hcl hmk
        generalize mk x = W1 at hx
        have y0 := heap_below hx z0
        have y1 := heap_below hx z1
        have y2 := heap_below hx z2
        have y3 := heap_below hx z3
        have hB1 := below_on hB hx
        have f3 := frozen_at y3
        have c3 := cell_at y3
        clear hx z0 z1 z2 z3 hB
        go_upto_region 7 with (fail)
        refine abs_wp (fun W => W.heap[w.heap.size]? = some (.cells #[.int .u64 (dg (a) 0), .int .u64 (dg (a) 1), .int .u64 (dg (a) 2), .int .u64 (dg (a) 3), .int .u64 (dg (a) 4), .int .u64 (dg (a) 5), .int .u64 (dg (a) 6), .int .u64 (dg (a) 7), .int .u64 (dg (a) 8)] 160 (0, 0)) ∧ W.heap[w.heap.size + 1]? = some (.cells #[.int .u64 (dg (b) 0), .int .u64 (dg (b) 1), .int .u64 (dg (b) 2), .int .u64 (dg (b) 3), .int .u64 (dg (b) 4), .int .u64 (dg (b) 5), .int .u64 (dg (b) 6), .int .u64 (dg (b) 7), .int .u64 (dg (b) 8)] 160 (0, 0)) ∧ W.heap[w.heap.size + 1 + 1]? = some (.cells #[.int .u64 (dg (Q * 2 ^ (j + 1)) 0), .int .u64 (dg (Q * 2 ^ (j + 1)) 1), .int .u64 (dg (Q * 2 ^ (j + 1)) 2), .int .u64 (dg (Q * 2 ^ (j + 1)) 3), .int .u64 (dg (Q * 2 ^ (j + 1)) 4), .int .u64 (dg (Q * 2 ^ (j + 1)) 5), .int .u64 (dg (Q * 2 ^ (j + 1)) 6), .int .u64 (dg (Q * 2 ^ (j + 1)) 7), .int .u64 (dg (Q * 2 ^ (j + 1)) 8)] 160 (0, 0)) ∧ W.heap[w.heap.size + 1 + 1 + 1]? = some (.cells #[.int .u64 (dg (R + R + bit) 0), .int .u64 (dg (R + R + bit) 1), .int .u64 (dg (R + R + bit) 2), .int .u64 (dg (R + R + bit) 3), .int .u64 (dg (R + R + bit) 4), .int .u64 (dg (R + R + bit) 5), .int .u64 (dg (R + R + bit) 6), .int .u64 (dg (R + R + bit) 7), .int .u64 (dg (R + R + bit) 8)] 160 (0, 0)) ∧ Below w.heap.size w W) ?_ fun W ⟨z0, z1, z2, z3, hB⟩ => ?_
        · refine ⟨heap_set_other y0 (by first | (simp; done) | (simp; omega)) _, heap_set_other y1 (by first | (simp; done) | (simp; omega)) _, heap_set_other y2 (by first | (simp; done) | (simp; omega)) _, ?_, by focus (repeat (first | (with_reducible exact Below.refl _ _) | (with_reducible assumption) | ((with_reducible refine Below.setCell ?_ ?_ _); rotate_left; (focus (first | omega | (simp; done) | (simp; omega)))) | ((with_reducible refine Below.alloc ?_ ?_ _); rotate_left; (focus (first | omega | (simp; done) | (simp; omega)))) | (with_reducible refine Below.drew ?_) | (refine below_on ?_ (by assumption))))⟩
          refine (heap_set y3 _ _).trans ?_
          rw [low_or R bit _ HJ.out.bit1 HA2.out]
          simp only [high_or R bit 1 HJ.out.bit1 (by decide), high_or R bit 2 HJ.out.bit1 (by decide), high_or R bit 3 HJ.out.bit1 (by decide), high_or R bit 4 HJ.out.bit1 (by decide), high_or R bit 5 HJ.out.bit1 (by decide), high_or R bit 6 HJ.out.bit1 (by decide), high_or R bit 7 HJ.out.bit1 (by decide), high_or R bit 8 HJ.out.bit1 (by decide)]
          rfl
        clear y0 y1 y2 y3 c3 f3 hB1 HA2
        have c1 := cell_at z1
        have c3 := cell_at z3
        by_cases hle : b ≤ R + R + bit
        · have HLE := Hd.mk hle
          have HN := Hd.mk (HJ.out.ge hle)
          have HVL := Hd.mk (HJ.out.room _ HB.out)
          obtain ⟨V, hV⟩ : ∃ V, V = R + R + bit := ⟨_, rfl⟩
          rw [← hV] at HLE HN HVL z3 c3
          rw [HQ.out] at HN
          clear hle hV
          go_wp2_with fail
          refine (wless_ge V b HVL.out HLE.out _).mono ?_
          rintro e wa ⟨rfl, hb⟩
          have y0 := heap_below hb z0
          have y1 := heap_below hb z1
          have y2 := heap_below hb z2
          have y3 := heap_below hb z3
          have hB1 := below_on hB hb
          have s3 := lt_of_block y3
          clear hb z0 z1 z2 z3 c1 c3 hB
          have c3 := cell_at y3
          have f3 := frozen_at y3
          go_upto_region 10 with (fail)
          refine abs_wp (fun W => W.heap[w.heap.size]? = some (.cells #[.int .u64 (dg (a) 0), .int .u64 (dg (a) 1), .int .u64 (dg (a) 2), .int .u64 (dg (a) 3), .int .u64 (dg (a) 4), .int .u64 (dg (a) 5), .int .u64 (dg (a) 6), .int .u64 (dg (a) 7), .int .u64 (dg (a) 8)] 160 (0, 0)) ∧ W.heap[w.heap.size + 1]? = some (.cells #[.int .u64 (dg (b) 0), .int .u64 (dg (b) 1), .int .u64 (dg (b) 2), .int .u64 (dg (b) 3), .int .u64 (dg (b) 4), .int .u64 (dg (b) 5), .int .u64 (dg (b) 6), .int .u64 (dg (b) 7), .int .u64 (dg (b) 8)] 160 (0, 0)) ∧ W.heap[w.heap.size + 1 + 1]? = some (.cells #[.int .u64 (dg (Q * 2 ^ (j + 1)) 0), .int .u64 (dg (Q * 2 ^ (j + 1)) 1), .int .u64 (dg (Q * 2 ^ (j + 1)) 2), .int .u64 (dg (Q * 2 ^ (j + 1)) 3), .int .u64 (dg (Q * 2 ^ (j + 1)) 4), .int .u64 (dg (Q * 2 ^ (j + 1)) 5), .int .u64 (dg (Q * 2 ^ (j + 1)) 6), .int .u64 (dg (Q * 2 ^ (j + 1)) 7), .int .u64 (dg (Q * 2 ^ (j + 1)) 8)] 160 (0, 0)) ∧ W.heap[w.heap.size + 1 + 1 + 1]? = some (.cells #[.int .u64 (dg (V - b) 0), .int .u64 (dg (V - b) 1), .int .u64 (dg (V - b) 2), .int .u64 (dg (V - b) 3), .int .u64 (dg (V - b) 4), .int .u64 (dg (V - b) 5), .int .u64 (dg (V - b) 6), .int .u64 (dg (V - b) 7), .int .u64 (dg (V - b) 8)] 160 (0, 0)) ∧ Below w.heap.size w W) ?_ fun W ⟨z0, z1, z2, z3, hB⟩ => ?_
          · obtain ⟨l1, l2, l3⟩ := laid_9 (w.heap.size + 1 + 1 + 1) wa (.int .u64 (dg (V - b) 0)) (.int .u64 (dg (V - b) 1)) (.int .u64 (dg (V - b) 2)) (.int .u64 (dg (V - b) 3)) (.int .u64 (dg (V - b) 4)) (.int .u64 (dg (V - b) 5)) (.int .u64 (dg (V - b) 6)) (.int .u64 (dg (V - b) 7)) (.int .u64 (dg (V - b) 8))
            have hB2 := hB1.trans (l3 _ (by omega))
            exact ⟨heap_old (l2 _ _ (by omega) y0) _, heap_old (l2 _ _ (by omega) y1) _, heap_old (l2 _ _ (by omega) y2) _, heap_old (l1 y3 rfl) _, Below.alloc hB2 hB2.size _⟩
          clear y0 y1 y2 y3 c3 f3 hB1 s3
          refine region_qt 9 (by kernel_rfl) (by kernel_rfl) fun X _ mk hmk hcl => ?_
          have c2 := mk_cell hmk z2
          simp only [List.take_succ_cons, List.take_zero, List.drop_succ_cons, List.drop_zero]
          repeat (go_big_quiet_step (skip))
          refine wpQuiet_nil ?_
          rintro _ ⟨x, rfl⟩
          clear c2
          have hx := hmk x
          clear hcl hmk
          generalize mk x = W1 at hx
          have y0 := heap_below hx z0
          have y1 := heap_below hx z1
          have y2 := heap_below hx z2
          have y3 := heap_below hx z3
          have hB1 := below_on hB hx
          have f2 := frozen_at y2
          have c2 := cell_at y2
          clear hx z0 z1 z2 z3 hB
          go_wp2
          go_roundw
          case rel =>
            refine ⟨j, by omega, by go_num, heap_set_other y0 (by first | (simp; done) | (simp; omega)) _, heap_set_other y1 (by first | (simp; done) | (simp; omega)) _, ?_, by rw [HN.out.2]; exact heap_set_other y3 (by first | (simp; done) | (simp; omega)) _, by focus (repeat (first | (with_reducible exact Below.refl _ _) | (with_reducible assumption) | ((with_reducible refine Below.setCell ?_ ?_ _); rotate_left; (focus (first | omega | (simp; done) | (simp; omega)))) | ((with_reducible refine Below.alloc ?_ ?_ _); rotate_left; (focus (first | omega | (simp; done) | (simp; omega)))) | (with_reducible refine Below.drew ?_) | (refine below_on ?_ (by assumption))))⟩
            rw [HN.out.1]
            refine (heap_set y2 _ _).trans ?_
            rw [pow_orj Q j 1 _ hqn (wrap_pow _ (Nat.mod_lt _ (by decide)))]
            simp only [pow_notj Q j 1 0 hqn (by decide), pow_notj Q j 1 2 hqn (by decide), pow_notj Q j 1 3 hqn (by decide), pow_notj Q j 1 4 hqn (by decide), pow_notj Q j 1 5 hqn (by decide), pow_notj Q j 1 6 hqn (by decide), pow_notj Q j 1 7 hqn (by decide), pow_notj Q j 1 8 hqn (by decide)]
            rfl
          case measure => simp [intOf]; try omega
        · have HLE : Hd (R + R + bit < b) := ⟨by omega⟩
          have HN := Hd.mk (HJ.out.lt HLE.out)
          obtain ⟨V, hV⟩ : ∃ V, V = R + R + bit := ⟨_, rfl⟩
          rw [← hV] at HLE HN z3 c3
          rw [HQ.out] at HN
          clear hle hV
          go_wp2_with fail
          refine (wless_lt V b HBL.out HLE.out _).mono ?_
          rintro e wa ⟨R', rfl, hb⟩
          have y0 := heap_below hb z0
          have y1 := heap_below hb z1
          have y2 := heap_below hb z2
          have y3 := heap_below hb z3
          have hB1 := below_on hB hb
          have s3 := lt_of_block y3
          clear hb z0 z1 z2 z3 c1 c3 hB
          go_wp2
          go_roundw
          case rel =>
            refine ⟨j, by omega, by go_num, heap_old y0 _, heap_old y1 _, ?_, by rw [HN.out.2]; exact heap_old y3 _, by focus (repeat (first | (with_reducible exact Below.refl _ _) | (with_reducible assumption) | ((with_reducible refine Below.setCell ?_ ?_ _); rotate_left; (focus (first | omega | (simp; done) | (simp; omega)))) | ((with_reducible refine Below.alloc ?_ ?_ _); rotate_left; (focus (first | omega | (simp; done) | (simp; omega)))) | (with_reducible refine Below.drew ?_) | (refine below_on ?_ (by assumption))))⟩
            rw [HN.out.1]
            exact heap_old y2 _
          case measure => simp [intOf]; try omega

      · have hqn : j / 64 = 2 := by omega
        have HA2 := Hd.mk (HAND.out 2 hqn)
        clear hge
        refine region_qt 12 (by kernel_rfl) (by kernel_rfl) fun X _ mk hmk hcl => ?_
        have c0 := mk_cell hmk z0
        have c3 := mk_cell hmk z3
        simp only [List.take_succ_cons, List.take_zero, List.drop_succ_cons, List.drop_zero]
        repeat (go_big_quiet_step (skip))
        refine wpQuiet_nil ?_
        rintro _ ⟨x, rfl⟩
        clear c0 c3
        have hx := hmk x
        clear hcl hmk
        generalize mk x = W1 at hx
        have y0 := heap_below hx z0
        have y1 := heap_below hx z1
        have y2 := heap_below hx z2
        have y3 := heap_below hx z3
        have hB1 := below_on hB hx
        have f3 := frozen_at y3
        have c3 := cell_at y3
        clear hx z0 z1 z2 z3 hB
        go_upto_region 7 with (fail)
        refine abs_wp (fun W => W.heap[w.heap.size]? = some (.cells #[.int .u64 (dg (a) 0), .int .u64 (dg (a) 1), .int .u64 (dg (a) 2), .int .u64 (dg (a) 3), .int .u64 (dg (a) 4), .int .u64 (dg (a) 5), .int .u64 (dg (a) 6), .int .u64 (dg (a) 7), .int .u64 (dg (a) 8)] 160 (0, 0)) ∧ W.heap[w.heap.size + 1]? = some (.cells #[.int .u64 (dg (b) 0), .int .u64 (dg (b) 1), .int .u64 (dg (b) 2), .int .u64 (dg (b) 3), .int .u64 (dg (b) 4), .int .u64 (dg (b) 5), .int .u64 (dg (b) 6), .int .u64 (dg (b) 7), .int .u64 (dg (b) 8)] 160 (0, 0)) ∧ W.heap[w.heap.size + 1 + 1]? = some (.cells #[.int .u64 (dg (Q * 2 ^ (j + 1)) 0), .int .u64 (dg (Q * 2 ^ (j + 1)) 1), .int .u64 (dg (Q * 2 ^ (j + 1)) 2), .int .u64 (dg (Q * 2 ^ (j + 1)) 3), .int .u64 (dg (Q * 2 ^ (j + 1)) 4), .int .u64 (dg (Q * 2 ^ (j + 1)) 5), .int .u64 (dg (Q * 2 ^ (j + 1)) 6), .int .u64 (dg (Q * 2 ^ (j + 1)) 7), .int .u64 (dg (Q * 2 ^ (j + 1)) 8)] 160 (0, 0)) ∧ W.heap[w.heap.size + 1 + 1 + 1]? = some (.cells #[.int .u64 (dg (R + R + bit) 0), .int .u64 (dg (R + R + bit) 1), .int .u64 (dg (R + R + bit) 2), .int .u64 (dg (R + R + bit) 3), .int .u64 (dg (R + R + bit) 4), .int .u64 (dg (R + R + bit) 5), .int .u64 (dg (R + R + bit) 6), .int .u64 (dg (R + R + bit) 7), .int .u64 (dg (R + R + bit) 8)] 160 (0, 0)) ∧ Below w.heap.size w W) ?_ fun W ⟨z0, z1, z2, z3, hB⟩ => ?_
        · refine ⟨heap_set_other y0 (by first | (simp; done) | (simp; omega)) _, heap_set_other y1 (by first | (simp; done) | (simp; omega)) _, heap_set_other y2 (by first | (simp; done) | (simp; omega)) _, ?_, by focus (repeat (first | (with_reducible exact Below.refl _ _) | (with_reducible assumption) | ((with_reducible refine Below.setCell ?_ ?_ _); rotate_left; (focus (first | omega | (simp; done) | (simp; omega)))) | ((with_reducible refine Below.alloc ?_ ?_ _); rotate_left; (focus (first | omega | (simp; done) | (simp; omega)))) | (with_reducible refine Below.drew ?_) | (refine below_on ?_ (by assumption))))⟩
          refine (heap_set y3 _ _).trans ?_
          rw [low_or R bit _ HJ.out.bit1 HA2.out]
          simp only [high_or R bit 1 HJ.out.bit1 (by decide), high_or R bit 2 HJ.out.bit1 (by decide), high_or R bit 3 HJ.out.bit1 (by decide), high_or R bit 4 HJ.out.bit1 (by decide), high_or R bit 5 HJ.out.bit1 (by decide), high_or R bit 6 HJ.out.bit1 (by decide), high_or R bit 7 HJ.out.bit1 (by decide), high_or R bit 8 HJ.out.bit1 (by decide)]
          rfl
        clear y0 y1 y2 y3 c3 f3 hB1 HA2
        have c1 := cell_at z1
        have c3 := cell_at z3
        by_cases hle : b ≤ R + R + bit
        · have HLE := Hd.mk hle
          have HN := Hd.mk (HJ.out.ge hle)
          have HVL := Hd.mk (HJ.out.room _ HB.out)
          obtain ⟨V, hV⟩ : ∃ V, V = R + R + bit := ⟨_, rfl⟩
          rw [← hV] at HLE HN HVL z3 c3
          rw [HQ.out] at HN
          clear hle hV
          go_wp2_with fail
          refine (wless_ge V b HVL.out HLE.out _).mono ?_
          rintro e wa ⟨rfl, hb⟩
          have y0 := heap_below hb z0
          have y1 := heap_below hb z1
          have y2 := heap_below hb z2
          have y3 := heap_below hb z3
          have hB1 := below_on hB hb
          have s3 := lt_of_block y3
          clear hb z0 z1 z2 z3 c1 c3 hB
          have c3 := cell_at y3
          have f3 := frozen_at y3
          go_upto_region 10 with (fail)
          refine abs_wp (fun W => W.heap[w.heap.size]? = some (.cells #[.int .u64 (dg (a) 0), .int .u64 (dg (a) 1), .int .u64 (dg (a) 2), .int .u64 (dg (a) 3), .int .u64 (dg (a) 4), .int .u64 (dg (a) 5), .int .u64 (dg (a) 6), .int .u64 (dg (a) 7), .int .u64 (dg (a) 8)] 160 (0, 0)) ∧ W.heap[w.heap.size + 1]? = some (.cells #[.int .u64 (dg (b) 0), .int .u64 (dg (b) 1), .int .u64 (dg (b) 2), .int .u64 (dg (b) 3), .int .u64 (dg (b) 4), .int .u64 (dg (b) 5), .int .u64 (dg (b) 6), .int .u64 (dg (b) 7), .int .u64 (dg (b) 8)] 160 (0, 0)) ∧ W.heap[w.heap.size + 1 + 1]? = some (.cells #[.int .u64 (dg (Q * 2 ^ (j + 1)) 0), .int .u64 (dg (Q * 2 ^ (j + 1)) 1), .int .u64 (dg (Q * 2 ^ (j + 1)) 2), .int .u64 (dg (Q * 2 ^ (j + 1)) 3), .int .u64 (dg (Q * 2 ^ (j + 1)) 4), .int .u64 (dg (Q * 2 ^ (j + 1)) 5), .int .u64 (dg (Q * 2 ^ (j + 1)) 6), .int .u64 (dg (Q * 2 ^ (j + 1)) 7), .int .u64 (dg (Q * 2 ^ (j + 1)) 8)] 160 (0, 0)) ∧ W.heap[w.heap.size + 1 + 1 + 1]? = some (.cells #[.int .u64 (dg (V - b) 0), .int .u64 (dg (V - b) 1), .int .u64 (dg (V - b) 2), .int .u64 (dg (V - b) 3), .int .u64 (dg (V - b) 4), .int .u64 (dg (V - b) 5), .int .u64 (dg (V - b) 6), .int .u64 (dg (V - b) 7), .int .u64 (dg (V - b) 8)] 160 (0, 0)) ∧ Below w.heap.size w W) ?_ fun W ⟨z0, z1, z2, z3, hB⟩ => ?_
          · obtain ⟨l1, l2, l3⟩ := laid_9 (w.heap.size + 1 + 1 + 1) wa (.int .u64 (dg (V - b) 0)) (.int .u64 (dg (V - b) 1)) (.int .u64 (dg (V - b) 2)) (.int .u64 (dg (V - b) 3)) (.int .u64 (dg (V - b) 4)) (.int .u64 (dg (V - b) 5)) (.int .u64 (dg (V - b) 6)) (.int .u64 (dg (V - b) 7)) (.int .u64 (dg (V - b) 8))
            have hB2 := hB1.trans (l3 _ (by omega))
            exact ⟨heap_old (l2 _ _ (by omega) y0) _, heap_old (l2 _ _ (by omega) y1) _, heap_old (l2 _ _ (by omega) y2) _, heap_old (l1 y3 rfl) _, Below.alloc hB2 hB2.size _⟩
          clear y0 y1 y2 y3 c3 f3 hB1 s3
          refine region_qt 9 (by kernel_rfl) (by kernel_rfl) fun X _ mk hmk hcl => ?_
          have c2 := mk_cell hmk z2
          simp only [List.take_succ_cons, List.take_zero, List.drop_succ_cons, List.drop_zero]
          repeat (go_big_quiet_step (skip))
          refine wpQuiet_nil ?_
          rintro _ ⟨x, rfl⟩
          clear c2
          have hx := hmk x
          clear hcl hmk
          generalize mk x = W1 at hx
          have y0 := heap_below hx z0
          have y1 := heap_below hx z1
          have y2 := heap_below hx z2
          have y3 := heap_below hx z3
          have hB1 := below_on hB hx
          have f2 := frozen_at y2
          have c2 := cell_at y2
          clear hx z0 z1 z2 z3 hB
          go_wp2
          go_roundw
          case rel =>
            refine ⟨j, by omega, by go_num, heap_set_other y0 (by first | (simp; done) | (simp; omega)) _, heap_set_other y1 (by first | (simp; done) | (simp; omega)) _, ?_, by rw [HN.out.2]; exact heap_set_other y3 (by first | (simp; done) | (simp; omega)) _, by focus (repeat (first | (with_reducible exact Below.refl _ _) | (with_reducible assumption) | ((with_reducible refine Below.setCell ?_ ?_ _); rotate_left; (focus (first | omega | (simp; done) | (simp; omega)))) | ((with_reducible refine Below.alloc ?_ ?_ _); rotate_left; (focus (first | omega | (simp; done) | (simp; omega)))) | (with_reducible refine Below.drew ?_) | (refine below_on ?_ (by assumption))))⟩
            rw [HN.out.1]
            refine (heap_set y2 _ _).trans ?_
            rw [pow_orj Q j 2 _ hqn (wrap_pow _ (Nat.mod_lt _ (by decide)))]
            simp only [pow_notj Q j 2 0 hqn (by decide), pow_notj Q j 2 1 hqn (by decide), pow_notj Q j 2 3 hqn (by decide), pow_notj Q j 2 4 hqn (by decide), pow_notj Q j 2 5 hqn (by decide), pow_notj Q j 2 6 hqn (by decide), pow_notj Q j 2 7 hqn (by decide), pow_notj Q j 2 8 hqn (by decide)]
            rfl
          case measure => simp [intOf]; try omega
        · have HLE : Hd (R + R + bit < b) := ⟨by omega⟩
          have HN := Hd.mk (HJ.out.lt HLE.out)
          obtain ⟨V, hV⟩ : ∃ V, V = R + R + bit := ⟨_, rfl⟩
          rw [← hV] at HLE HN z3 c3
          rw [HQ.out] at HN
          clear hle hV
          go_wp2_with fail
          refine (wless_lt V b HBL.out HLE.out _).mono ?_
          rintro e wa ⟨R', rfl, hb⟩
          have y0 := heap_below hb z0
          have y1 := heap_below hb z1
          have y2 := heap_below hb z2
          have y3 := heap_below hb z3
          have hB1 := below_on hB hb
          have s3 := lt_of_block y3
          clear hb z0 z1 z2 z3 c1 c3 hB
          go_wp2
          go_roundw
          case rel =>
            refine ⟨j, by omega, by go_num, heap_old y0 _, heap_old y1 _, ?_, by rw [HN.out.2]; exact heap_old y3 _, by focus (repeat (first | (with_reducible exact Below.refl _ _) | (with_reducible assumption) | ((with_reducible refine Below.setCell ?_ ?_ _); rotate_left; (focus (first | omega | (simp; done) | (simp; omega)))) | ((with_reducible refine Below.alloc ?_ ?_ _); rotate_left; (focus (first | omega | (simp; done) | (simp; omega)))) | (with_reducible refine Below.drew ?_) | (refine below_on ?_ (by assumption))))⟩
            rw [HN.out.1]
            exact heap_old y2 _
          case measure => simp [intOf]; try omega

      · have hqn : j / 64 = 3 := by omega
        have HA2 := Hd.mk (HAND.out 3 hqn)
        clear hge
        refine region_qt 12 (by kernel_rfl) (by kernel_rfl) fun X _ mk hmk hcl => ?_
        have c0 := mk_cell hmk z0
        have c3 := mk_cell hmk z3
        simp only [List.take_succ_cons, List.take_zero, List.drop_succ_cons, List.drop_zero]
        repeat (go_big_quiet_step (skip))
        refine wpQuiet_nil ?_
        rintro _ ⟨x, rfl⟩
        clear c0 c3
        have hx := hmk x
        clear hcl hmk
        generalize mk x = W1 at hx
        have y0 := heap_below hx z0
        have y1 := heap_below hx z1
        have y2 := heap_below hx z2
        have y3 := heap_below hx z3
        have hB1 := below_on hB hx
        have f3 := frozen_at y3
        have c3 := cell_at y3
        clear hx z0 z1 z2 z3 hB
        go_upto_region 7 with (fail)
        refine abs_wp (fun W => W.heap[w.heap.size]? = some (.cells #[.int .u64 (dg (a) 0), .int .u64 (dg (a) 1), .int .u64 (dg (a) 2), .int .u64 (dg (a) 3), .int .u64 (dg (a) 4), .int .u64 (dg (a) 5), .int .u64 (dg (a) 6), .int .u64 (dg (a) 7), .int .u64 (dg (a) 8)] 160 (0, 0)) ∧ W.heap[w.heap.size + 1]? = some (.cells #[.int .u64 (dg (b) 0), .int .u64 (dg (b) 1), .int .u64 (dg (b) 2), .int .u64 (dg (b) 3), .int .u64 (dg (b) 4), .int .u64 (dg (b) 5), .int .u64 (dg (b) 6), .int .u64 (dg (b) 7), .int .u64 (dg (b) 8)] 160 (0, 0)) ∧ W.heap[w.heap.size + 1 + 1]? = some (.cells #[.int .u64 (dg (Q * 2 ^ (j + 1)) 0), .int .u64 (dg (Q * 2 ^ (j + 1)) 1), .int .u64 (dg (Q * 2 ^ (j + 1)) 2), .int .u64 (dg (Q * 2 ^ (j + 1)) 3), .int .u64 (dg (Q * 2 ^ (j + 1)) 4), .int .u64 (dg (Q * 2 ^ (j + 1)) 5), .int .u64 (dg (Q * 2 ^ (j + 1)) 6), .int .u64 (dg (Q * 2 ^ (j + 1)) 7), .int .u64 (dg (Q * 2 ^ (j + 1)) 8)] 160 (0, 0)) ∧ W.heap[w.heap.size + 1 + 1 + 1]? = some (.cells #[.int .u64 (dg (R + R + bit) 0), .int .u64 (dg (R + R + bit) 1), .int .u64 (dg (R + R + bit) 2), .int .u64 (dg (R + R + bit) 3), .int .u64 (dg (R + R + bit) 4), .int .u64 (dg (R + R + bit) 5), .int .u64 (dg (R + R + bit) 6), .int .u64 (dg (R + R + bit) 7), .int .u64 (dg (R + R + bit) 8)] 160 (0, 0)) ∧ Below w.heap.size w W) ?_ fun W ⟨z0, z1, z2, z3, hB⟩ => ?_
        · refine ⟨heap_set_other y0 (by first | (simp; done) | (simp; omega)) _, heap_set_other y1 (by first | (simp; done) | (simp; omega)) _, heap_set_other y2 (by first | (simp; done) | (simp; omega)) _, ?_, by focus (repeat (first | (with_reducible exact Below.refl _ _) | (with_reducible assumption) | ((with_reducible refine Below.setCell ?_ ?_ _); rotate_left; (focus (first | omega | (simp; done) | (simp; omega)))) | ((with_reducible refine Below.alloc ?_ ?_ _); rotate_left; (focus (first | omega | (simp; done) | (simp; omega)))) | (with_reducible refine Below.drew ?_) | (refine below_on ?_ (by assumption))))⟩
          refine (heap_set y3 _ _).trans ?_
          rw [low_or R bit _ HJ.out.bit1 HA2.out]
          simp only [high_or R bit 1 HJ.out.bit1 (by decide), high_or R bit 2 HJ.out.bit1 (by decide), high_or R bit 3 HJ.out.bit1 (by decide), high_or R bit 4 HJ.out.bit1 (by decide), high_or R bit 5 HJ.out.bit1 (by decide), high_or R bit 6 HJ.out.bit1 (by decide), high_or R bit 7 HJ.out.bit1 (by decide), high_or R bit 8 HJ.out.bit1 (by decide)]
          rfl
        clear y0 y1 y2 y3 c3 f3 hB1 HA2
        have c1 := cell_at z1
        have c3 := cell_at z3
        by_cases hle : b ≤ R + R + bit
        · have HLE := Hd.mk hle
          have HN := Hd.mk (HJ.out.ge hle)
          have HVL := Hd.mk (HJ.out.room _ HB.out)
          obtain ⟨V, hV⟩ : ∃ V, V = R + R + bit := ⟨_, rfl⟩
          rw [← hV] at HLE HN HVL z3 c3
          rw [HQ.out] at HN
          clear hle hV
          go_wp2_with fail
          refine (wless_ge V b HVL.out HLE.out _).mono ?_
          rintro e wa ⟨rfl, hb⟩
          have y0 := heap_below hb z0
          have y1 := heap_below hb z1
          have y2 := heap_below hb z2
          have y3 := heap_below hb z3
          have hB1 := below_on hB hb
          have s3 := lt_of_block y3
          clear hb z0 z1 z2 z3 c1 c3 hB
          have c3 := cell_at y3
          have f3 := frozen_at y3
          go_upto_region 10 with (fail)
          refine abs_wp (fun W => W.heap[w.heap.size]? = some (.cells #[.int .u64 (dg (a) 0), .int .u64 (dg (a) 1), .int .u64 (dg (a) 2), .int .u64 (dg (a) 3), .int .u64 (dg (a) 4), .int .u64 (dg (a) 5), .int .u64 (dg (a) 6), .int .u64 (dg (a) 7), .int .u64 (dg (a) 8)] 160 (0, 0)) ∧ W.heap[w.heap.size + 1]? = some (.cells #[.int .u64 (dg (b) 0), .int .u64 (dg (b) 1), .int .u64 (dg (b) 2), .int .u64 (dg (b) 3), .int .u64 (dg (b) 4), .int .u64 (dg (b) 5), .int .u64 (dg (b) 6), .int .u64 (dg (b) 7), .int .u64 (dg (b) 8)] 160 (0, 0)) ∧ W.heap[w.heap.size + 1 + 1]? = some (.cells #[.int .u64 (dg (Q * 2 ^ (j + 1)) 0), .int .u64 (dg (Q * 2 ^ (j + 1)) 1), .int .u64 (dg (Q * 2 ^ (j + 1)) 2), .int .u64 (dg (Q * 2 ^ (j + 1)) 3), .int .u64 (dg (Q * 2 ^ (j + 1)) 4), .int .u64 (dg (Q * 2 ^ (j + 1)) 5), .int .u64 (dg (Q * 2 ^ (j + 1)) 6), .int .u64 (dg (Q * 2 ^ (j + 1)) 7), .int .u64 (dg (Q * 2 ^ (j + 1)) 8)] 160 (0, 0)) ∧ W.heap[w.heap.size + 1 + 1 + 1]? = some (.cells #[.int .u64 (dg (V - b) 0), .int .u64 (dg (V - b) 1), .int .u64 (dg (V - b) 2), .int .u64 (dg (V - b) 3), .int .u64 (dg (V - b) 4), .int .u64 (dg (V - b) 5), .int .u64 (dg (V - b) 6), .int .u64 (dg (V - b) 7), .int .u64 (dg (V - b) 8)] 160 (0, 0)) ∧ Below w.heap.size w W) ?_ fun W ⟨z0, z1, z2, z3, hB⟩ => ?_
          · obtain ⟨l1, l2, l3⟩ := laid_9 (w.heap.size + 1 + 1 + 1) wa (.int .u64 (dg (V - b) 0)) (.int .u64 (dg (V - b) 1)) (.int .u64 (dg (V - b) 2)) (.int .u64 (dg (V - b) 3)) (.int .u64 (dg (V - b) 4)) (.int .u64 (dg (V - b) 5)) (.int .u64 (dg (V - b) 6)) (.int .u64 (dg (V - b) 7)) (.int .u64 (dg (V - b) 8))
            have hB2 := hB1.trans (l3 _ (by omega))
            exact ⟨heap_old (l2 _ _ (by omega) y0) _, heap_old (l2 _ _ (by omega) y1) _, heap_old (l2 _ _ (by omega) y2) _, heap_old (l1 y3 rfl) _, Below.alloc hB2 hB2.size _⟩
          clear y0 y1 y2 y3 c3 f3 hB1 s3
          refine region_qt 9 (by kernel_rfl) (by kernel_rfl) fun X _ mk hmk hcl => ?_
          have c2 := mk_cell hmk z2
          simp only [List.take_succ_cons, List.take_zero, List.drop_succ_cons, List.drop_zero]
          repeat (go_big_quiet_step (skip))
          refine wpQuiet_nil ?_
          rintro _ ⟨x, rfl⟩
          clear c2
          have hx := hmk x
          clear hcl hmk
          generalize mk x = W1 at hx
          have y0 := heap_below hx z0
          have y1 := heap_below hx z1
          have y2 := heap_below hx z2
          have y3 := heap_below hx z3
          have hB1 := below_on hB hx
          have f2 := frozen_at y2
          have c2 := cell_at y2
          clear hx z0 z1 z2 z3 hB
          go_wp2
          go_roundw
          case rel =>
            refine ⟨j, by omega, by go_num, heap_set_other y0 (by first | (simp; done) | (simp; omega)) _, heap_set_other y1 (by first | (simp; done) | (simp; omega)) _, ?_, by rw [HN.out.2]; exact heap_set_other y3 (by first | (simp; done) | (simp; omega)) _, by focus (repeat (first | (with_reducible exact Below.refl _ _) | (with_reducible assumption) | ((with_reducible refine Below.setCell ?_ ?_ _); rotate_left; (focus (first | omega | (simp; done) | (simp; omega)))) | ((with_reducible refine Below.alloc ?_ ?_ _); rotate_left; (focus (first | omega | (simp; done) | (simp; omega)))) | (with_reducible refine Below.drew ?_) | (refine below_on ?_ (by assumption))))⟩
            rw [HN.out.1]
            refine (heap_set y2 _ _).trans ?_
            rw [pow_orj Q j 3 _ hqn (wrap_pow _ (Nat.mod_lt _ (by decide)))]
            simp only [pow_notj Q j 3 0 hqn (by decide), pow_notj Q j 3 1 hqn (by decide), pow_notj Q j 3 2 hqn (by decide), pow_notj Q j 3 4 hqn (by decide), pow_notj Q j 3 5 hqn (by decide), pow_notj Q j 3 6 hqn (by decide), pow_notj Q j 3 7 hqn (by decide), pow_notj Q j 3 8 hqn (by decide)]
            rfl
          case measure => simp [intOf]; try omega
        · have HLE : Hd (R + R + bit < b) := ⟨by omega⟩
          have HN := Hd.mk (HJ.out.lt HLE.out)
          obtain ⟨V, hV⟩ : ∃ V, V = R + R + bit := ⟨_, rfl⟩
          rw [← hV] at HLE HN z3 c3
          rw [HQ.out] at HN
          clear hle hV
          go_wp2_with fail
          refine (wless_lt V b HBL.out HLE.out _).mono ?_
          rintro e wa ⟨R', rfl, hb⟩
          have y0 := heap_below hb z0
          have y1 := heap_below hb z1
          have y2 := heap_below hb z2
          have y3 := heap_below hb z3
          have hB1 := below_on hB hb
          have s3 := lt_of_block y3
          clear hb z0 z1 z2 z3 c1 c3 hB
          go_wp2
          go_roundw
          case rel =>
            refine ⟨j, by omega, by go_num, heap_old y0 _, heap_old y1 _, ?_, by rw [HN.out.2]; exact heap_old y3 _, by focus (repeat (first | (with_reducible exact Below.refl _ _) | (with_reducible assumption) | ((with_reducible refine Below.setCell ?_ ?_ _); rotate_left; (focus (first | omega | (simp; done) | (simp; omega)))) | ((with_reducible refine Below.alloc ?_ ?_ _); rotate_left; (focus (first | omega | (simp; done) | (simp; omega)))) | (with_reducible refine Below.drew ?_) | (refine below_on ?_ (by assumption))))⟩
            rw [HN.out.1]
            exact heap_old y2 _
          case measure => simp [intOf]; try omega

      · have hqn : j / 64 = 4 := by omega
        have HA2 := Hd.mk (HAND.out 4 hqn)
        clear hge
        refine region_qt 12 (by kernel_rfl) (by kernel_rfl) fun X _ mk hmk hcl => ?_
        have c0 := mk_cell hmk z0
        have c3 := mk_cell hmk z3
        simp only [List.take_succ_cons, List.take_zero, List.drop_succ_cons, List.drop_zero]
        repeat (go_big_quiet_step (skip))
        refine wpQuiet_nil ?_
        rintro _ ⟨x, rfl⟩
        clear c0 c3
        have hx := hmk x
        clear hcl hmk
        generalize mk x = W1 at hx
        have y0 := heap_below hx z0
        have y1 := heap_below hx z1
        have y2 := heap_below hx z2
        have y3 := heap_below hx z3
        have hB1 := below_on hB hx
        have f3 := frozen_at y3
        have c3 := cell_at y3
        clear hx z0 z1 z2 z3 hB
        go_upto_region 7 with (fail)
        refine abs_wp (fun W => W.heap[w.heap.size]? = some (.cells #[.int .u64 (dg (a) 0), .int .u64 (dg (a) 1), .int .u64 (dg (a) 2), .int .u64 (dg (a) 3), .int .u64 (dg (a) 4), .int .u64 (dg (a) 5), .int .u64 (dg (a) 6), .int .u64 (dg (a) 7), .int .u64 (dg (a) 8)] 160 (0, 0)) ∧ W.heap[w.heap.size + 1]? = some (.cells #[.int .u64 (dg (b) 0), .int .u64 (dg (b) 1), .int .u64 (dg (b) 2), .int .u64 (dg (b) 3), .int .u64 (dg (b) 4), .int .u64 (dg (b) 5), .int .u64 (dg (b) 6), .int .u64 (dg (b) 7), .int .u64 (dg (b) 8)] 160 (0, 0)) ∧ W.heap[w.heap.size + 1 + 1]? = some (.cells #[.int .u64 (dg (Q * 2 ^ (j + 1)) 0), .int .u64 (dg (Q * 2 ^ (j + 1)) 1), .int .u64 (dg (Q * 2 ^ (j + 1)) 2), .int .u64 (dg (Q * 2 ^ (j + 1)) 3), .int .u64 (dg (Q * 2 ^ (j + 1)) 4), .int .u64 (dg (Q * 2 ^ (j + 1)) 5), .int .u64 (dg (Q * 2 ^ (j + 1)) 6), .int .u64 (dg (Q * 2 ^ (j + 1)) 7), .int .u64 (dg (Q * 2 ^ (j + 1)) 8)] 160 (0, 0)) ∧ W.heap[w.heap.size + 1 + 1 + 1]? = some (.cells #[.int .u64 (dg (R + R + bit) 0), .int .u64 (dg (R + R + bit) 1), .int .u64 (dg (R + R + bit) 2), .int .u64 (dg (R + R + bit) 3), .int .u64 (dg (R + R + bit) 4), .int .u64 (dg (R + R + bit) 5), .int .u64 (dg (R + R + bit) 6), .int .u64 (dg (R + R + bit) 7), .int .u64 (dg (R + R + bit) 8)] 160 (0, 0)) ∧ Below w.heap.size w W) ?_ fun W ⟨z0, z1, z2, z3, hB⟩ => ?_
        · refine ⟨heap_set_other y0 (by first | (simp; done) | (simp; omega)) _, heap_set_other y1 (by first | (simp; done) | (simp; omega)) _, heap_set_other y2 (by first | (simp; done) | (simp; omega)) _, ?_, by focus (repeat (first | (with_reducible exact Below.refl _ _) | (with_reducible assumption) | ((with_reducible refine Below.setCell ?_ ?_ _); rotate_left; (focus (first | omega | (simp; done) | (simp; omega)))) | ((with_reducible refine Below.alloc ?_ ?_ _); rotate_left; (focus (first | omega | (simp; done) | (simp; omega)))) | (with_reducible refine Below.drew ?_) | (refine below_on ?_ (by assumption))))⟩
          refine (heap_set y3 _ _).trans ?_
          rw [low_or R bit _ HJ.out.bit1 HA2.out]
          simp only [high_or R bit 1 HJ.out.bit1 (by decide), high_or R bit 2 HJ.out.bit1 (by decide), high_or R bit 3 HJ.out.bit1 (by decide), high_or R bit 4 HJ.out.bit1 (by decide), high_or R bit 5 HJ.out.bit1 (by decide), high_or R bit 6 HJ.out.bit1 (by decide), high_or R bit 7 HJ.out.bit1 (by decide), high_or R bit 8 HJ.out.bit1 (by decide)]
          rfl
        clear y0 y1 y2 y3 c3 f3 hB1 HA2
        have c1 := cell_at z1
        have c3 := cell_at z3
        by_cases hle : b ≤ R + R + bit
        · have HLE := Hd.mk hle
          have HN := Hd.mk (HJ.out.ge hle)
          have HVL := Hd.mk (HJ.out.room _ HB.out)
          obtain ⟨V, hV⟩ : ∃ V, V = R + R + bit := ⟨_, rfl⟩
          rw [← hV] at HLE HN HVL z3 c3
          rw [HQ.out] at HN
          clear hle hV
          go_wp2_with fail
          refine (wless_ge V b HVL.out HLE.out _).mono ?_
          rintro e wa ⟨rfl, hb⟩
          have y0 := heap_below hb z0
          have y1 := heap_below hb z1
          have y2 := heap_below hb z2
          have y3 := heap_below hb z3
          have hB1 := below_on hB hb
          have s3 := lt_of_block y3
          clear hb z0 z1 z2 z3 c1 c3 hB
          have c3 := cell_at y3
          have f3 := frozen_at y3
          go_upto_region 10 with (fail)
          refine abs_wp (fun W => W.heap[w.heap.size]? = some (.cells #[.int .u64 (dg (a) 0), .int .u64 (dg (a) 1), .int .u64 (dg (a) 2), .int .u64 (dg (a) 3), .int .u64 (dg (a) 4), .int .u64 (dg (a) 5), .int .u64 (dg (a) 6), .int .u64 (dg (a) 7), .int .u64 (dg (a) 8)] 160 (0, 0)) ∧ W.heap[w.heap.size + 1]? = some (.cells #[.int .u64 (dg (b) 0), .int .u64 (dg (b) 1), .int .u64 (dg (b) 2), .int .u64 (dg (b) 3), .int .u64 (dg (b) 4), .int .u64 (dg (b) 5), .int .u64 (dg (b) 6), .int .u64 (dg (b) 7), .int .u64 (dg (b) 8)] 160 (0, 0)) ∧ W.heap[w.heap.size + 1 + 1]? = some (.cells #[.int .u64 (dg (Q * 2 ^ (j + 1)) 0), .int .u64 (dg (Q * 2 ^ (j + 1)) 1), .int .u64 (dg (Q * 2 ^ (j + 1)) 2), .int .u64 (dg (Q * 2 ^ (j + 1)) 3), .int .u64 (dg (Q * 2 ^ (j + 1)) 4), .int .u64 (dg (Q * 2 ^ (j + 1)) 5), .int .u64 (dg (Q * 2 ^ (j + 1)) 6), .int .u64 (dg (Q * 2 ^ (j + 1)) 7), .int .u64 (dg (Q * 2 ^ (j + 1)) 8)] 160 (0, 0)) ∧ W.heap[w.heap.size + 1 + 1 + 1]? = some (.cells #[.int .u64 (dg (V - b) 0), .int .u64 (dg (V - b) 1), .int .u64 (dg (V - b) 2), .int .u64 (dg (V - b) 3), .int .u64 (dg (V - b) 4), .int .u64 (dg (V - b) 5), .int .u64 (dg (V - b) 6), .int .u64 (dg (V - b) 7), .int .u64 (dg (V - b) 8)] 160 (0, 0)) ∧ Below w.heap.size w W) ?_ fun W ⟨z0, z1, z2, z3, hB⟩ => ?_
          · obtain ⟨l1, l2, l3⟩ := laid_9 (w.heap.size + 1 + 1 + 1) wa (.int .u64 (dg (V - b) 0)) (.int .u64 (dg (V - b) 1)) (.int .u64 (dg (V - b) 2)) (.int .u64 (dg (V - b) 3)) (.int .u64 (dg (V - b) 4)) (.int .u64 (dg (V - b) 5)) (.int .u64 (dg (V - b) 6)) (.int .u64 (dg (V - b) 7)) (.int .u64 (dg (V - b) 8))
            have hB2 := hB1.trans (l3 _ (by omega))
            exact ⟨heap_old (l2 _ _ (by omega) y0) _, heap_old (l2 _ _ (by omega) y1) _, heap_old (l2 _ _ (by omega) y2) _, heap_old (l1 y3 rfl) _, Below.alloc hB2 hB2.size _⟩
          clear y0 y1 y2 y3 c3 f3 hB1 s3
          refine region_qt 9 (by kernel_rfl) (by kernel_rfl) fun X _ mk hmk hcl => ?_
          have c2 := mk_cell hmk z2
          simp only [List.take_succ_cons, List.take_zero, List.drop_succ_cons, List.drop_zero]
          repeat (go_big_quiet_step (skip))
          refine wpQuiet_nil ?_
          rintro _ ⟨x, rfl⟩
          clear c2
          have hx := hmk x
          clear hcl hmk
          generalize mk x = W1 at hx
          have y0 := heap_below hx z0
          have y1 := heap_below hx z1
          have y2 := heap_below hx z2
          have y3 := heap_below hx z3
          have hB1 := below_on hB hx
          have f2 := frozen_at y2
          have c2 := cell_at y2
          clear hx z0 z1 z2 z3 hB
          go_wp2
          go_roundw
          case rel =>
            refine ⟨j, by omega, by go_num, heap_set_other y0 (by first | (simp; done) | (simp; omega)) _, heap_set_other y1 (by first | (simp; done) | (simp; omega)) _, ?_, by rw [HN.out.2]; exact heap_set_other y3 (by first | (simp; done) | (simp; omega)) _, by focus (repeat (first | (with_reducible exact Below.refl _ _) | (with_reducible assumption) | ((with_reducible refine Below.setCell ?_ ?_ _); rotate_left; (focus (first | omega | (simp; done) | (simp; omega)))) | ((with_reducible refine Below.alloc ?_ ?_ _); rotate_left; (focus (first | omega | (simp; done) | (simp; omega)))) | (with_reducible refine Below.drew ?_) | (refine below_on ?_ (by assumption))))⟩
            rw [HN.out.1]
            refine (heap_set y2 _ _).trans ?_
            rw [pow_orj Q j 4 _ hqn (wrap_pow _ (Nat.mod_lt _ (by decide)))]
            simp only [pow_notj Q j 4 0 hqn (by decide), pow_notj Q j 4 1 hqn (by decide), pow_notj Q j 4 2 hqn (by decide), pow_notj Q j 4 3 hqn (by decide), pow_notj Q j 4 5 hqn (by decide), pow_notj Q j 4 6 hqn (by decide), pow_notj Q j 4 7 hqn (by decide), pow_notj Q j 4 8 hqn (by decide)]
            rfl
          case measure => simp [intOf]; try omega
        · have HLE : Hd (R + R + bit < b) := ⟨by omega⟩
          have HN := Hd.mk (HJ.out.lt HLE.out)
          obtain ⟨V, hV⟩ : ∃ V, V = R + R + bit := ⟨_, rfl⟩
          rw [← hV] at HLE HN z3 c3
          rw [HQ.out] at HN
          clear hle hV
          go_wp2_with fail
          refine (wless_lt V b HBL.out HLE.out _).mono ?_
          rintro e wa ⟨R', rfl, hb⟩
          have y0 := heap_below hb z0
          have y1 := heap_below hb z1
          have y2 := heap_below hb z2
          have y3 := heap_below hb z3
          have hB1 := below_on hB hb
          have s3 := lt_of_block y3
          clear hb z0 z1 z2 z3 c1 c3 hB
          go_wp2
          go_roundw
          case rel =>
            refine ⟨j, by omega, by go_num, heap_old y0 _, heap_old y1 _, ?_, by rw [HN.out.2]; exact heap_old y3 _, by focus (repeat (first | (with_reducible exact Below.refl _ _) | (with_reducible assumption) | ((with_reducible refine Below.setCell ?_ ?_ _); rotate_left; (focus (first | omega | (simp; done) | (simp; omega)))) | ((with_reducible refine Below.alloc ?_ ?_ _); rotate_left; (focus (first | omega | (simp; done) | (simp; omega)))) | (with_reducible refine Below.drew ?_) | (refine below_on ?_ (by assumption))))⟩
            rw [HN.out.1]
            exact heap_old y2 _
          case measure => simp [intOf]; try omega

      · have hqn : j / 64 = 5 := by omega
        have HA2 := Hd.mk (HAND.out 5 hqn)
        clear hge
        refine region_qt 12 (by kernel_rfl) (by kernel_rfl) fun X _ mk hmk hcl => ?_
        have c0 := mk_cell hmk z0
        have c3 := mk_cell hmk z3
        simp only [List.take_succ_cons, List.take_zero, List.drop_succ_cons, List.drop_zero]
        repeat (go_big_quiet_step (skip))
        refine wpQuiet_nil ?_
        rintro _ ⟨x, rfl⟩
        clear c0 c3
        have hx := hmk x
        clear hcl hmk
        generalize mk x = W1 at hx
        have y0 := heap_below hx z0
        have y1 := heap_below hx z1
        have y2 := heap_below hx z2
        have y3 := heap_below hx z3
        have hB1 := below_on hB hx
        have f3 := frozen_at y3
        have c3 := cell_at y3
        clear hx z0 z1 z2 z3 hB
        go_upto_region 7 with (fail)
        refine abs_wp (fun W => W.heap[w.heap.size]? = some (.cells #[.int .u64 (dg (a) 0), .int .u64 (dg (a) 1), .int .u64 (dg (a) 2), .int .u64 (dg (a) 3), .int .u64 (dg (a) 4), .int .u64 (dg (a) 5), .int .u64 (dg (a) 6), .int .u64 (dg (a) 7), .int .u64 (dg (a) 8)] 160 (0, 0)) ∧ W.heap[w.heap.size + 1]? = some (.cells #[.int .u64 (dg (b) 0), .int .u64 (dg (b) 1), .int .u64 (dg (b) 2), .int .u64 (dg (b) 3), .int .u64 (dg (b) 4), .int .u64 (dg (b) 5), .int .u64 (dg (b) 6), .int .u64 (dg (b) 7), .int .u64 (dg (b) 8)] 160 (0, 0)) ∧ W.heap[w.heap.size + 1 + 1]? = some (.cells #[.int .u64 (dg (Q * 2 ^ (j + 1)) 0), .int .u64 (dg (Q * 2 ^ (j + 1)) 1), .int .u64 (dg (Q * 2 ^ (j + 1)) 2), .int .u64 (dg (Q * 2 ^ (j + 1)) 3), .int .u64 (dg (Q * 2 ^ (j + 1)) 4), .int .u64 (dg (Q * 2 ^ (j + 1)) 5), .int .u64 (dg (Q * 2 ^ (j + 1)) 6), .int .u64 (dg (Q * 2 ^ (j + 1)) 7), .int .u64 (dg (Q * 2 ^ (j + 1)) 8)] 160 (0, 0)) ∧ W.heap[w.heap.size + 1 + 1 + 1]? = some (.cells #[.int .u64 (dg (R + R + bit) 0), .int .u64 (dg (R + R + bit) 1), .int .u64 (dg (R + R + bit) 2), .int .u64 (dg (R + R + bit) 3), .int .u64 (dg (R + R + bit) 4), .int .u64 (dg (R + R + bit) 5), .int .u64 (dg (R + R + bit) 6), .int .u64 (dg (R + R + bit) 7), .int .u64 (dg (R + R + bit) 8)] 160 (0, 0)) ∧ Below w.heap.size w W) ?_ fun W ⟨z0, z1, z2, z3, hB⟩ => ?_
        · refine ⟨heap_set_other y0 (by first | (simp; done) | (simp; omega)) _, heap_set_other y1 (by first | (simp; done) | (simp; omega)) _, heap_set_other y2 (by first | (simp; done) | (simp; omega)) _, ?_, by focus (repeat (first | (with_reducible exact Below.refl _ _) | (with_reducible assumption) | ((with_reducible refine Below.setCell ?_ ?_ _); rotate_left; (focus (first | omega | (simp; done) | (simp; omega)))) | ((with_reducible refine Below.alloc ?_ ?_ _); rotate_left; (focus (first | omega | (simp; done) | (simp; omega)))) | (with_reducible refine Below.drew ?_) | (refine below_on ?_ (by assumption))))⟩
          refine (heap_set y3 _ _).trans ?_
          rw [low_or R bit _ HJ.out.bit1 HA2.out]
          simp only [high_or R bit 1 HJ.out.bit1 (by decide), high_or R bit 2 HJ.out.bit1 (by decide), high_or R bit 3 HJ.out.bit1 (by decide), high_or R bit 4 HJ.out.bit1 (by decide), high_or R bit 5 HJ.out.bit1 (by decide), high_or R bit 6 HJ.out.bit1 (by decide), high_or R bit 7 HJ.out.bit1 (by decide), high_or R bit 8 HJ.out.bit1 (by decide)]
          rfl
        clear y0 y1 y2 y3 c3 f3 hB1 HA2
        have c1 := cell_at z1
        have c3 := cell_at z3
        by_cases hle : b ≤ R + R + bit
        · have HLE := Hd.mk hle
          have HN := Hd.mk (HJ.out.ge hle)
          have HVL := Hd.mk (HJ.out.room _ HB.out)
          obtain ⟨V, hV⟩ : ∃ V, V = R + R + bit := ⟨_, rfl⟩
          rw [← hV] at HLE HN HVL z3 c3
          rw [HQ.out] at HN
          clear hle hV
          go_wp2_with fail
          refine (wless_ge V b HVL.out HLE.out _).mono ?_
          rintro e wa ⟨rfl, hb⟩
          have y0 := heap_below hb z0
          have y1 := heap_below hb z1
          have y2 := heap_below hb z2
          have y3 := heap_below hb z3
          have hB1 := below_on hB hb
          have s3 := lt_of_block y3
          clear hb z0 z1 z2 z3 c1 c3 hB
          have c3 := cell_at y3
          have f3 := frozen_at y3
          go_upto_region 10 with (fail)
          refine abs_wp (fun W => W.heap[w.heap.size]? = some (.cells #[.int .u64 (dg (a) 0), .int .u64 (dg (a) 1), .int .u64 (dg (a) 2), .int .u64 (dg (a) 3), .int .u64 (dg (a) 4), .int .u64 (dg (a) 5), .int .u64 (dg (a) 6), .int .u64 (dg (a) 7), .int .u64 (dg (a) 8)] 160 (0, 0)) ∧ W.heap[w.heap.size + 1]? = some (.cells #[.int .u64 (dg (b) 0), .int .u64 (dg (b) 1), .int .u64 (dg (b) 2), .int .u64 (dg (b) 3), .int .u64 (dg (b) 4), .int .u64 (dg (b) 5), .int .u64 (dg (b) 6), .int .u64 (dg (b) 7), .int .u64 (dg (b) 8)] 160 (0, 0)) ∧ W.heap[w.heap.size + 1 + 1]? = some (.cells #[.int .u64 (dg (Q * 2 ^ (j + 1)) 0), .int .u64 (dg (Q * 2 ^ (j + 1)) 1), .int .u64 (dg (Q * 2 ^ (j + 1)) 2), .int .u64 (dg (Q * 2 ^ (j + 1)) 3), .int .u64 (dg (Q * 2 ^ (j + 1)) 4), .int .u64 (dg (Q * 2 ^ (j + 1)) 5), .int .u64 (dg (Q * 2 ^ (j + 1)) 6), .int .u64 (dg (Q * 2 ^ (j + 1)) 7), .int .u64 (dg (Q * 2 ^ (j + 1)) 8)] 160 (0, 0)) ∧ W.heap[w.heap.size + 1 + 1 + 1]? = some (.cells #[.int .u64 (dg (V - b) 0), .int .u64 (dg (V - b) 1), .int .u64 (dg (V - b) 2), .int .u64 (dg (V - b) 3), .int .u64 (dg (V - b) 4), .int .u64 (dg (V - b) 5), .int .u64 (dg (V - b) 6), .int .u64 (dg (V - b) 7), .int .u64 (dg (V - b) 8)] 160 (0, 0)) ∧ Below w.heap.size w W) ?_ fun W ⟨z0, z1, z2, z3, hB⟩ => ?_
          · obtain ⟨l1, l2, l3⟩ := laid_9 (w.heap.size + 1 + 1 + 1) wa (.int .u64 (dg (V - b) 0)) (.int .u64 (dg (V - b) 1)) (.int .u64 (dg (V - b) 2)) (.int .u64 (dg (V - b) 3)) (.int .u64 (dg (V - b) 4)) (.int .u64 (dg (V - b) 5)) (.int .u64 (dg (V - b) 6)) (.int .u64 (dg (V - b) 7)) (.int .u64 (dg (V - b) 8))
            have hB2 := hB1.trans (l3 _ (by omega))
            exact ⟨heap_old (l2 _ _ (by omega) y0) _, heap_old (l2 _ _ (by omega) y1) _, heap_old (l2 _ _ (by omega) y2) _, heap_old (l1 y3 rfl) _, Below.alloc hB2 hB2.size _⟩
          clear y0 y1 y2 y3 c3 f3 hB1 s3
          refine region_qt 9 (by kernel_rfl) (by kernel_rfl) fun X _ mk hmk hcl => ?_
          have c2 := mk_cell hmk z2
          simp only [List.take_succ_cons, List.take_zero, List.drop_succ_cons, List.drop_zero]
          repeat (go_big_quiet_step (skip))
          refine wpQuiet_nil ?_
          rintro _ ⟨x, rfl⟩
          clear c2
          have hx := hmk x
          clear hcl hmk
          generalize mk x = W1 at hx
          have y0 := heap_below hx z0
          have y1 := heap_below hx z1
          have y2 := heap_below hx z2
          have y3 := heap_below hx z3
          have hB1 := below_on hB hx
          have f2 := frozen_at y2
          have c2 := cell_at y2
          clear hx z0 z1 z2 z3 hB
          go_wp2
          go_roundw
          case rel =>
            refine ⟨j, by omega, by go_num, heap_set_other y0 (by first | (simp; done) | (simp; omega)) _, heap_set_other y1 (by first | (simp; done) | (simp; omega)) _, ?_, by rw [HN.out.2]; exact heap_set_other y3 (by first | (simp; done) | (simp; omega)) _, by focus (repeat (first | (with_reducible exact Below.refl _ _) | (with_reducible assumption) | ((with_reducible refine Below.setCell ?_ ?_ _); rotate_left; (focus (first | omega | (simp; done) | (simp; omega)))) | ((with_reducible refine Below.alloc ?_ ?_ _); rotate_left; (focus (first | omega | (simp; done) | (simp; omega)))) | (with_reducible refine Below.drew ?_) | (refine below_on ?_ (by assumption))))⟩
            rw [HN.out.1]
            refine (heap_set y2 _ _).trans ?_
            rw [pow_orj Q j 5 _ hqn (wrap_pow _ (Nat.mod_lt _ (by decide)))]
            simp only [pow_notj Q j 5 0 hqn (by decide), pow_notj Q j 5 1 hqn (by decide), pow_notj Q j 5 2 hqn (by decide), pow_notj Q j 5 3 hqn (by decide), pow_notj Q j 5 4 hqn (by decide), pow_notj Q j 5 6 hqn (by decide), pow_notj Q j 5 7 hqn (by decide), pow_notj Q j 5 8 hqn (by decide)]
            rfl
          case measure => simp [intOf]; try omega
        · have HLE : Hd (R + R + bit < b) := ⟨by omega⟩
          have HN := Hd.mk (HJ.out.lt HLE.out)
          obtain ⟨V, hV⟩ : ∃ V, V = R + R + bit := ⟨_, rfl⟩
          rw [← hV] at HLE HN z3 c3
          rw [HQ.out] at HN
          clear hle hV
          go_wp2_with fail
          refine (wless_lt V b HBL.out HLE.out _).mono ?_
          rintro e wa ⟨R', rfl, hb⟩
          have y0 := heap_below hb z0
          have y1 := heap_below hb z1
          have y2 := heap_below hb z2
          have y3 := heap_below hb z3
          have hB1 := below_on hB hb
          have s3 := lt_of_block y3
          clear hb z0 z1 z2 z3 c1 c3 hB
          go_wp2
          go_roundw
          case rel =>
            refine ⟨j, by omega, by go_num, heap_old y0 _, heap_old y1 _, ?_, by rw [HN.out.2]; exact heap_old y3 _, by focus (repeat (first | (with_reducible exact Below.refl _ _) | (with_reducible assumption) | ((with_reducible refine Below.setCell ?_ ?_ _); rotate_left; (focus (first | omega | (simp; done) | (simp; omega)))) | ((with_reducible refine Below.alloc ?_ ?_ _); rotate_left; (focus (first | omega | (simp; done) | (simp; omega)))) | (with_reducible refine Below.drew ?_) | (refine below_on ?_ (by assumption))))⟩
            rw [HN.out.1]
            exact heap_old y2 _
          case measure => simp [intOf]; try omega

      · have hqn : j / 64 = 6 := by omega
        have HA2 := Hd.mk (HAND.out 6 hqn)
        clear hge
        refine region_qt 12 (by kernel_rfl) (by kernel_rfl) fun X _ mk hmk hcl => ?_
        have c0 := mk_cell hmk z0
        have c3 := mk_cell hmk z3
        simp only [List.take_succ_cons, List.take_zero, List.drop_succ_cons, List.drop_zero]
        repeat (go_big_quiet_step (skip))
        refine wpQuiet_nil ?_
        rintro _ ⟨x, rfl⟩
        clear c0 c3
        have hx := hmk x
        clear hcl hmk
        generalize mk x = W1 at hx
        have y0 := heap_below hx z0
        have y1 := heap_below hx z1
        have y2 := heap_below hx z2
        have y3 := heap_below hx z3
        have hB1 := below_on hB hx
        have f3 := frozen_at y3
        have c3 := cell_at y3
        clear hx z0 z1 z2 z3 hB
        go_upto_region 7 with (fail)
        refine abs_wp (fun W => W.heap[w.heap.size]? = some (.cells #[.int .u64 (dg (a) 0), .int .u64 (dg (a) 1), .int .u64 (dg (a) 2), .int .u64 (dg (a) 3), .int .u64 (dg (a) 4), .int .u64 (dg (a) 5), .int .u64 (dg (a) 6), .int .u64 (dg (a) 7), .int .u64 (dg (a) 8)] 160 (0, 0)) ∧ W.heap[w.heap.size + 1]? = some (.cells #[.int .u64 (dg (b) 0), .int .u64 (dg (b) 1), .int .u64 (dg (b) 2), .int .u64 (dg (b) 3), .int .u64 (dg (b) 4), .int .u64 (dg (b) 5), .int .u64 (dg (b) 6), .int .u64 (dg (b) 7), .int .u64 (dg (b) 8)] 160 (0, 0)) ∧ W.heap[w.heap.size + 1 + 1]? = some (.cells #[.int .u64 (dg (Q * 2 ^ (j + 1)) 0), .int .u64 (dg (Q * 2 ^ (j + 1)) 1), .int .u64 (dg (Q * 2 ^ (j + 1)) 2), .int .u64 (dg (Q * 2 ^ (j + 1)) 3), .int .u64 (dg (Q * 2 ^ (j + 1)) 4), .int .u64 (dg (Q * 2 ^ (j + 1)) 5), .int .u64 (dg (Q * 2 ^ (j + 1)) 6), .int .u64 (dg (Q * 2 ^ (j + 1)) 7), .int .u64 (dg (Q * 2 ^ (j + 1)) 8)] 160 (0, 0)) ∧ W.heap[w.heap.size + 1 + 1 + 1]? = some (.cells #[.int .u64 (dg (R + R + bit) 0), .int .u64 (dg (R + R + bit) 1), .int .u64 (dg (R + R + bit) 2), .int .u64 (dg (R + R + bit) 3), .int .u64 (dg (R + R + bit) 4), .int .u64 (dg (R + R + bit) 5), .int .u64 (dg (R + R + bit) 6), .int .u64 (dg (R + R + bit) 7), .int .u64 (dg (R + R + bit) 8)] 160 (0, 0)) ∧ Below w.heap.size w W) ?_ fun W ⟨z0, z1, z2, z3, hB⟩ => ?_
        · refine ⟨heap_set_other y0 (by first | (simp; done) | (simp; omega)) _, heap_set_other y1 (by first | (simp; done) | (simp; omega)) _, heap_set_other y2 (by first | (simp; done) | (simp; omega)) _, ?_, by focus (repeat (first | (with_reducible exact Below.refl _ _) | (with_reducible assumption) | ((with_reducible refine Below.setCell ?_ ?_ _); rotate_left; (focus (first | omega | (simp; done) | (simp; omega)))) | ((with_reducible refine Below.alloc ?_ ?_ _); rotate_left; (focus (first | omega | (simp; done) | (simp; omega)))) | (with_reducible refine Below.drew ?_) | (refine below_on ?_ (by assumption))))⟩
          refine (heap_set y3 _ _).trans ?_
          rw [low_or R bit _ HJ.out.bit1 HA2.out]
          simp only [high_or R bit 1 HJ.out.bit1 (by decide), high_or R bit 2 HJ.out.bit1 (by decide), high_or R bit 3 HJ.out.bit1 (by decide), high_or R bit 4 HJ.out.bit1 (by decide), high_or R bit 5 HJ.out.bit1 (by decide), high_or R bit 6 HJ.out.bit1 (by decide), high_or R bit 7 HJ.out.bit1 (by decide), high_or R bit 8 HJ.out.bit1 (by decide)]
          rfl
        clear y0 y1 y2 y3 c3 f3 hB1 HA2
        have c1 := cell_at z1
        have c3 := cell_at z3
        by_cases hle : b ≤ R + R + bit
        · have HLE := Hd.mk hle
          have HN := Hd.mk (HJ.out.ge hle)
          have HVL := Hd.mk (HJ.out.room _ HB.out)
          obtain ⟨V, hV⟩ : ∃ V, V = R + R + bit := ⟨_, rfl⟩
          rw [← hV] at HLE HN HVL z3 c3
          rw [HQ.out] at HN
          clear hle hV
          go_wp2_with fail
          refine (wless_ge V b HVL.out HLE.out _).mono ?_
          rintro e wa ⟨rfl, hb⟩
          have y0 := heap_below hb z0
          have y1 := heap_below hb z1
          have y2 := heap_below hb z2
          have y3 := heap_below hb z3
          have hB1 := below_on hB hb
          have s3 := lt_of_block y3
          clear hb z0 z1 z2 z3 c1 c3 hB
          have c3 := cell_at y3
          have f3 := frozen_at y3
          go_upto_region 10 with (fail)
          refine abs_wp (fun W => W.heap[w.heap.size]? = some (.cells #[.int .u64 (dg (a) 0), .int .u64 (dg (a) 1), .int .u64 (dg (a) 2), .int .u64 (dg (a) 3), .int .u64 (dg (a) 4), .int .u64 (dg (a) 5), .int .u64 (dg (a) 6), .int .u64 (dg (a) 7), .int .u64 (dg (a) 8)] 160 (0, 0)) ∧ W.heap[w.heap.size + 1]? = some (.cells #[.int .u64 (dg (b) 0), .int .u64 (dg (b) 1), .int .u64 (dg (b) 2), .int .u64 (dg (b) 3), .int .u64 (dg (b) 4), .int .u64 (dg (b) 5), .int .u64 (dg (b) 6), .int .u64 (dg (b) 7), .int .u64 (dg (b) 8)] 160 (0, 0)) ∧ W.heap[w.heap.size + 1 + 1]? = some (.cells #[.int .u64 (dg (Q * 2 ^ (j + 1)) 0), .int .u64 (dg (Q * 2 ^ (j + 1)) 1), .int .u64 (dg (Q * 2 ^ (j + 1)) 2), .int .u64 (dg (Q * 2 ^ (j + 1)) 3), .int .u64 (dg (Q * 2 ^ (j + 1)) 4), .int .u64 (dg (Q * 2 ^ (j + 1)) 5), .int .u64 (dg (Q * 2 ^ (j + 1)) 6), .int .u64 (dg (Q * 2 ^ (j + 1)) 7), .int .u64 (dg (Q * 2 ^ (j + 1)) 8)] 160 (0, 0)) ∧ W.heap[w.heap.size + 1 + 1 + 1]? = some (.cells #[.int .u64 (dg (V - b) 0), .int .u64 (dg (V - b) 1), .int .u64 (dg (V - b) 2), .int .u64 (dg (V - b) 3), .int .u64 (dg (V - b) 4), .int .u64 (dg (V - b) 5), .int .u64 (dg (V - b) 6), .int .u64 (dg (V - b) 7), .int .u64 (dg (V - b) 8)] 160 (0, 0)) ∧ Below w.heap.size w W) ?_ fun W ⟨z0, z1, z2, z3, hB⟩ => ?_
          · obtain ⟨l1, l2, l3⟩ := laid_9 (w.heap.size + 1 + 1 + 1) wa (.int .u64 (dg (V - b) 0)) (.int .u64 (dg (V - b) 1)) (.int .u64 (dg (V - b) 2)) (.int .u64 (dg (V - b) 3)) (.int .u64 (dg (V - b) 4)) (.int .u64 (dg (V - b) 5)) (.int .u64 (dg (V - b) 6)) (.int .u64 (dg (V - b) 7)) (.int .u64 (dg (V - b) 8))
            have hB2 := hB1.trans (l3 _ (by omega))
            exact ⟨heap_old (l2 _ _ (by omega) y0) _, heap_old (l2 _ _ (by omega) y1) _, heap_old (l2 _ _ (by omega) y2) _, heap_old (l1 y3 rfl) _, Below.alloc hB2 hB2.size _⟩
          clear y0 y1 y2 y3 c3 f3 hB1 s3
          refine region_qt 9 (by kernel_rfl) (by kernel_rfl) fun X _ mk hmk hcl => ?_
          have c2 := mk_cell hmk z2
          simp only [List.take_succ_cons, List.take_zero, List.drop_succ_cons, List.drop_zero]
          repeat (go_big_quiet_step (skip))
          refine wpQuiet_nil ?_
          rintro _ ⟨x, rfl⟩
          clear c2
          have hx := hmk x
          clear hcl hmk
          generalize mk x = W1 at hx
          have y0 := heap_below hx z0
          have y1 := heap_below hx z1
          have y2 := heap_below hx z2
          have y3 := heap_below hx z3
          have hB1 := below_on hB hx
          have f2 := frozen_at y2
          have c2 := cell_at y2
          clear hx z0 z1 z2 z3 hB
          go_wp2
          go_roundw
          case rel =>
            refine ⟨j, by omega, by go_num, heap_set_other y0 (by first | (simp; done) | (simp; omega)) _, heap_set_other y1 (by first | (simp; done) | (simp; omega)) _, ?_, by rw [HN.out.2]; exact heap_set_other y3 (by first | (simp; done) | (simp; omega)) _, by focus (repeat (first | (with_reducible exact Below.refl _ _) | (with_reducible assumption) | ((with_reducible refine Below.setCell ?_ ?_ _); rotate_left; (focus (first | omega | (simp; done) | (simp; omega)))) | ((with_reducible refine Below.alloc ?_ ?_ _); rotate_left; (focus (first | omega | (simp; done) | (simp; omega)))) | (with_reducible refine Below.drew ?_) | (refine below_on ?_ (by assumption))))⟩
            rw [HN.out.1]
            refine (heap_set y2 _ _).trans ?_
            rw [pow_orj Q j 6 _ hqn (wrap_pow _ (Nat.mod_lt _ (by decide)))]
            simp only [pow_notj Q j 6 0 hqn (by decide), pow_notj Q j 6 1 hqn (by decide), pow_notj Q j 6 2 hqn (by decide), pow_notj Q j 6 3 hqn (by decide), pow_notj Q j 6 4 hqn (by decide), pow_notj Q j 6 5 hqn (by decide), pow_notj Q j 6 7 hqn (by decide), pow_notj Q j 6 8 hqn (by decide)]
            rfl
          case measure => simp [intOf]; try omega
        · have HLE : Hd (R + R + bit < b) := ⟨by omega⟩
          have HN := Hd.mk (HJ.out.lt HLE.out)
          obtain ⟨V, hV⟩ : ∃ V, V = R + R + bit := ⟨_, rfl⟩
          rw [← hV] at HLE HN z3 c3
          rw [HQ.out] at HN
          clear hle hV
          go_wp2_with fail
          refine (wless_lt V b HBL.out HLE.out _).mono ?_
          rintro e wa ⟨R', rfl, hb⟩
          have y0 := heap_below hb z0
          have y1 := heap_below hb z1
          have y2 := heap_below hb z2
          have y3 := heap_below hb z3
          have hB1 := below_on hB hb
          have s3 := lt_of_block y3
          clear hb z0 z1 z2 z3 c1 c3 hB
          go_wp2
          go_roundw
          case rel =>
            refine ⟨j, by omega, by go_num, heap_old y0 _, heap_old y1 _, ?_, by rw [HN.out.2]; exact heap_old y3 _, by focus (repeat (first | (with_reducible exact Below.refl _ _) | (with_reducible assumption) | ((with_reducible refine Below.setCell ?_ ?_ _); rotate_left; (focus (first | omega | (simp; done) | (simp; omega)))) | ((with_reducible refine Below.alloc ?_ ?_ _); rotate_left; (focus (first | omega | (simp; done) | (simp; omega)))) | (with_reducible refine Below.drew ?_) | (refine below_on ?_ (by assumption))))⟩
            rw [HN.out.1]
            exact heap_old y2 _
          case measure => simp [intOf]; try omega

      · have hqn : j / 64 = 7 := by omega
        have HA2 := Hd.mk (HAND.out 7 hqn)
        clear hge
        refine region_qt 12 (by kernel_rfl) (by kernel_rfl) fun X _ mk hmk hcl => ?_
        have c0 := mk_cell hmk z0
        have c3 := mk_cell hmk z3
        simp only [List.take_succ_cons, List.take_zero, List.drop_succ_cons, List.drop_zero]
        repeat (go_big_quiet_step (skip))
        refine wpQuiet_nil ?_
        rintro _ ⟨x, rfl⟩
        clear c0 c3
        have hx := hmk x
        clear hcl hmk
        generalize mk x = W1 at hx
        have y0 := heap_below hx z0
        have y1 := heap_below hx z1
        have y2 := heap_below hx z2
        have y3 := heap_below hx z3
        have hB1 := below_on hB hx
        have f3 := frozen_at y3
        have c3 := cell_at y3
        clear hx z0 z1 z2 z3 hB
        go_upto_region 7 with (fail)
        refine abs_wp (fun W => W.heap[w.heap.size]? = some (.cells #[.int .u64 (dg (a) 0), .int .u64 (dg (a) 1), .int .u64 (dg (a) 2), .int .u64 (dg (a) 3), .int .u64 (dg (a) 4), .int .u64 (dg (a) 5), .int .u64 (dg (a) 6), .int .u64 (dg (a) 7), .int .u64 (dg (a) 8)] 160 (0, 0)) ∧ W.heap[w.heap.size + 1]? = some (.cells #[.int .u64 (dg (b) 0), .int .u64 (dg (b) 1), .int .u64 (dg (b) 2), .int .u64 (dg (b) 3), .int .u64 (dg (b) 4), .int .u64 (dg (b) 5), .int .u64 (dg (b) 6), .int .u64 (dg (b) 7), .int .u64 (dg (b) 8)] 160 (0, 0)) ∧ W.heap[w.heap.size + 1 + 1]? = some (.cells #[.int .u64 (dg (Q * 2 ^ (j + 1)) 0), .int .u64 (dg (Q * 2 ^ (j + 1)) 1), .int .u64 (dg (Q * 2 ^ (j + 1)) 2), .int .u64 (dg (Q * 2 ^ (j + 1)) 3), .int .u64 (dg (Q * 2 ^ (j + 1)) 4), .int .u64 (dg (Q * 2 ^ (j + 1)) 5), .int .u64 (dg (Q * 2 ^ (j + 1)) 6), .int .u64 (dg (Q * 2 ^ (j + 1)) 7), .int .u64 (dg (Q * 2 ^ (j + 1)) 8)] 160 (0, 0)) ∧ W.heap[w.heap.size + 1 + 1 + 1]? = some (.cells #[.int .u64 (dg (R + R + bit) 0), .int .u64 (dg (R + R + bit) 1), .int .u64 (dg (R + R + bit) 2), .int .u64 (dg (R + R + bit) 3), .int .u64 (dg (R + R + bit) 4), .int .u64 (dg (R + R + bit) 5), .int .u64 (dg (R + R + bit) 6), .int .u64 (dg (R + R + bit) 7), .int .u64 (dg (R + R + bit) 8)] 160 (0, 0)) ∧ Below w.heap.size w W) ?_ fun W ⟨z0, z1, z2, z3, hB⟩ => ?_
        · refine ⟨heap_set_other y0 (by first | (simp; done) | (simp; omega)) _, heap_set_other y1 (by first | (simp; done) | (simp; omega)) _, heap_set_other y2 (by first | (simp; done) | (simp; omega)) _, ?_, by focus (repeat (first | (with_reducible exact Below.refl _ _) | (with_reducible assumption) | ((with_reducible refine Below.setCell ?_ ?_ _); rotate_left; (focus (first | omega | (simp; done) | (simp; omega)))) | ((with_reducible refine Below.alloc ?_ ?_ _); rotate_left; (focus (first | omega | (simp; done) | (simp; omega)))) | (with_reducible refine Below.drew ?_) | (refine below_on ?_ (by assumption))))⟩
          refine (heap_set y3 _ _).trans ?_
          rw [low_or R bit _ HJ.out.bit1 HA2.out]
          simp only [high_or R bit 1 HJ.out.bit1 (by decide), high_or R bit 2 HJ.out.bit1 (by decide), high_or R bit 3 HJ.out.bit1 (by decide), high_or R bit 4 HJ.out.bit1 (by decide), high_or R bit 5 HJ.out.bit1 (by decide), high_or R bit 6 HJ.out.bit1 (by decide), high_or R bit 7 HJ.out.bit1 (by decide), high_or R bit 8 HJ.out.bit1 (by decide)]
          rfl
        clear y0 y1 y2 y3 c3 f3 hB1 HA2
        have c1 := cell_at z1
        have c3 := cell_at z3
        by_cases hle : b ≤ R + R + bit
        · have HLE := Hd.mk hle
          have HN := Hd.mk (HJ.out.ge hle)
          have HVL := Hd.mk (HJ.out.room _ HB.out)
          obtain ⟨V, hV⟩ : ∃ V, V = R + R + bit := ⟨_, rfl⟩
          rw [← hV] at HLE HN HVL z3 c3
          rw [HQ.out] at HN
          clear hle hV
          go_wp2_with fail
          refine (wless_ge V b HVL.out HLE.out _).mono ?_
          rintro e wa ⟨rfl, hb⟩
          have y0 := heap_below hb z0
          have y1 := heap_below hb z1
          have y2 := heap_below hb z2
          have y3 := heap_below hb z3
          have hB1 := below_on hB hb
          have s3 := lt_of_block y3
          clear hb z0 z1 z2 z3 c1 c3 hB
          have c3 := cell_at y3
          have f3 := frozen_at y3
          go_upto_region 10 with (fail)
          refine abs_wp (fun W => W.heap[w.heap.size]? = some (.cells #[.int .u64 (dg (a) 0), .int .u64 (dg (a) 1), .int .u64 (dg (a) 2), .int .u64 (dg (a) 3), .int .u64 (dg (a) 4), .int .u64 (dg (a) 5), .int .u64 (dg (a) 6), .int .u64 (dg (a) 7), .int .u64 (dg (a) 8)] 160 (0, 0)) ∧ W.heap[w.heap.size + 1]? = some (.cells #[.int .u64 (dg (b) 0), .int .u64 (dg (b) 1), .int .u64 (dg (b) 2), .int .u64 (dg (b) 3), .int .u64 (dg (b) 4), .int .u64 (dg (b) 5), .int .u64 (dg (b) 6), .int .u64 (dg (b) 7), .int .u64 (dg (b) 8)] 160 (0, 0)) ∧ W.heap[w.heap.size + 1 + 1]? = some (.cells #[.int .u64 (dg (Q * 2 ^ (j + 1)) 0), .int .u64 (dg (Q * 2 ^ (j + 1)) 1), .int .u64 (dg (Q * 2 ^ (j + 1)) 2), .int .u64 (dg (Q * 2 ^ (j + 1)) 3), .int .u64 (dg (Q * 2 ^ (j + 1)) 4), .int .u64 (dg (Q * 2 ^ (j + 1)) 5), .int .u64 (dg (Q * 2 ^ (j + 1)) 6), .int .u64 (dg (Q * 2 ^ (j + 1)) 7), .int .u64 (dg (Q * 2 ^ (j + 1)) 8)] 160 (0, 0)) ∧ W.heap[w.heap.size + 1 + 1 + 1]? = some (.cells #[.int .u64 (dg (V - b) 0), .int .u64 (dg (V - b) 1), .int .u64 (dg (V - b) 2), .int .u64 (dg (V - b) 3), .int .u64 (dg (V - b) 4), .int .u64 (dg (V - b) 5), .int .u64 (dg (V - b) 6), .int .u64 (dg (V - b) 7), .int .u64 (dg (V - b) 8)] 160 (0, 0)) ∧ Below w.heap.size w W) ?_ fun W ⟨z0, z1, z2, z3, hB⟩ => ?_
          · obtain ⟨l1, l2, l3⟩ := laid_9 (w.heap.size + 1 + 1 + 1) wa (.int .u64 (dg (V - b) 0)) (.int .u64 (dg (V - b) 1)) (.int .u64 (dg (V - b) 2)) (.int .u64 (dg (V - b) 3)) (.int .u64 (dg (V - b) 4)) (.int .u64 (dg (V - b) 5)) (.int .u64 (dg (V - b) 6)) (.int .u64 (dg (V - b) 7)) (.int .u64 (dg (V - b) 8))
            have hB2 := hB1.trans (l3 _ (by omega))
            exact ⟨heap_old (l2 _ _ (by omega) y0) _, heap_old (l2 _ _ (by omega) y1) _, heap_old (l2 _ _ (by omega) y2) _, heap_old (l1 y3 rfl) _, Below.alloc hB2 hB2.size _⟩
          clear y0 y1 y2 y3 c3 f3 hB1 s3
          refine region_qt 9 (by kernel_rfl) (by kernel_rfl) fun X _ mk hmk hcl => ?_
          have c2 := mk_cell hmk z2
          simp only [List.take_succ_cons, List.take_zero, List.drop_succ_cons, List.drop_zero]
          repeat (go_big_quiet_step (skip))
          refine wpQuiet_nil ?_
          rintro _ ⟨x, rfl⟩
          clear c2
          have hx := hmk x
          clear hcl hmk
          generalize mk x = W1 at hx
          have y0 := heap_below hx z0
          have y1 := heap_below hx z1
          have y2 := heap_below hx z2
          have y3 := heap_below hx z3
          have hB1 := below_on hB hx
          have f2 := frozen_at y2
          have c2 := cell_at y2
          clear hx z0 z1 z2 z3 hB
          go_wp2
          go_roundw
          case rel =>
            refine ⟨j, by omega, by go_num, heap_set_other y0 (by first | (simp; done) | (simp; omega)) _, heap_set_other y1 (by first | (simp; done) | (simp; omega)) _, ?_, by rw [HN.out.2]; exact heap_set_other y3 (by first | (simp; done) | (simp; omega)) _, by focus (repeat (first | (with_reducible exact Below.refl _ _) | (with_reducible assumption) | ((with_reducible refine Below.setCell ?_ ?_ _); rotate_left; (focus (first | omega | (simp; done) | (simp; omega)))) | ((with_reducible refine Below.alloc ?_ ?_ _); rotate_left; (focus (first | omega | (simp; done) | (simp; omega)))) | (with_reducible refine Below.drew ?_) | (refine below_on ?_ (by assumption))))⟩
            rw [HN.out.1]
            refine (heap_set y2 _ _).trans ?_
            rw [pow_orj Q j 7 _ hqn (wrap_pow _ (Nat.mod_lt _ (by decide)))]
            simp only [pow_notj Q j 7 0 hqn (by decide), pow_notj Q j 7 1 hqn (by decide), pow_notj Q j 7 2 hqn (by decide), pow_notj Q j 7 3 hqn (by decide), pow_notj Q j 7 4 hqn (by decide), pow_notj Q j 7 5 hqn (by decide), pow_notj Q j 7 6 hqn (by decide), pow_notj Q j 7 8 hqn (by decide)]
            rfl
          case measure => simp [intOf]; try omega
        · have HLE : Hd (R + R + bit < b) := ⟨by omega⟩
          have HN := Hd.mk (HJ.out.lt HLE.out)
          obtain ⟨V, hV⟩ : ∃ V, V = R + R + bit := ⟨_, rfl⟩
          rw [← hV] at HLE HN z3 c3
          rw [HQ.out] at HN
          clear hle hV
          go_wp2_with fail
          refine (wless_lt V b HBL.out HLE.out _).mono ?_
          rintro e wa ⟨R', rfl, hb⟩
          have y0 := heap_below hb z0
          have y1 := heap_below hb z1
          have y2 := heap_below hb z2
          have y3 := heap_below hb z3
          have hB1 := below_on hB hb
          have s3 := lt_of_block y3
          clear hb z0 z1 z2 z3 c1 c3 hB
          go_wp2
          go_roundw
          case rel =>
            refine ⟨j, by omega, by go_num, heap_old y0 _, heap_old y1 _, ?_, by rw [HN.out.2]; exact heap_old y3 _, by focus (repeat (first | (with_reducible exact Below.refl _ _) | (with_reducible assumption) | ((with_reducible refine Below.setCell ?_ ?_ _); rotate_left; (focus (first | omega | (simp; done) | (simp; omega)))) | ((with_reducible refine Below.alloc ?_ ?_ _); rotate_left; (focus (first | omega | (simp; done) | (simp; omega)))) | (with_reducible refine Below.drew ?_) | (refine below_on ?_ (by assumption))))⟩
            rw [HN.out.1]
            exact heap_old y2 _
          case measure => simp [intOf]; try omega

      · have hqn : j / 64 = 8 := by omega
        have HA2 := Hd.mk (HAND.out 8 hqn)
        clear hge
        refine region_qt 12 (by kernel_rfl) (by kernel_rfl) fun X _ mk hmk hcl => ?_
        have c0 := mk_cell hmk z0
        have c3 := mk_cell hmk z3
        simp only [List.take_succ_cons, List.take_zero, List.drop_succ_cons, List.drop_zero]
        repeat (go_big_quiet_step (skip))
        refine wpQuiet_nil ?_
        rintro _ ⟨x, rfl⟩
        clear c0 c3
        have hx := hmk x
        clear hcl hmk
        generalize mk x = W1 at hx
        have y0 := heap_below hx z0
        have y1 := heap_below hx z1
        have y2 := heap_below hx z2
        have y3 := heap_below hx z3
        have hB1 := below_on hB hx
        have f3 := frozen_at y3
        have c3 := cell_at y3
        clear hx z0 z1 z2 z3 hB
        go_upto_region 7 with (fail)
        refine abs_wp (fun W => W.heap[w.heap.size]? = some (.cells #[.int .u64 (dg (a) 0), .int .u64 (dg (a) 1), .int .u64 (dg (a) 2), .int .u64 (dg (a) 3), .int .u64 (dg (a) 4), .int .u64 (dg (a) 5), .int .u64 (dg (a) 6), .int .u64 (dg (a) 7), .int .u64 (dg (a) 8)] 160 (0, 0)) ∧ W.heap[w.heap.size + 1]? = some (.cells #[.int .u64 (dg (b) 0), .int .u64 (dg (b) 1), .int .u64 (dg (b) 2), .int .u64 (dg (b) 3), .int .u64 (dg (b) 4), .int .u64 (dg (b) 5), .int .u64 (dg (b) 6), .int .u64 (dg (b) 7), .int .u64 (dg (b) 8)] 160 (0, 0)) ∧ W.heap[w.heap.size + 1 + 1]? = some (.cells #[.int .u64 (dg (Q * 2 ^ (j + 1)) 0), .int .u64 (dg (Q * 2 ^ (j + 1)) 1), .int .u64 (dg (Q * 2 ^ (j + 1)) 2), .int .u64 (dg (Q * 2 ^ (j + 1)) 3), .int .u64 (dg (Q * 2 ^ (j + 1)) 4), .int .u64 (dg (Q * 2 ^ (j + 1)) 5), .int .u64 (dg (Q * 2 ^ (j + 1)) 6), .int .u64 (dg (Q * 2 ^ (j + 1)) 7), .int .u64 (dg (Q * 2 ^ (j + 1)) 8)] 160 (0, 0)) ∧ W.heap[w.heap.size + 1 + 1 + 1]? = some (.cells #[.int .u64 (dg (R + R + bit) 0), .int .u64 (dg (R + R + bit) 1), .int .u64 (dg (R + R + bit) 2), .int .u64 (dg (R + R + bit) 3), .int .u64 (dg (R + R + bit) 4), .int .u64 (dg (R + R + bit) 5), .int .u64 (dg (R + R + bit) 6), .int .u64 (dg (R + R + bit) 7), .int .u64 (dg (R + R + bit) 8)] 160 (0, 0)) ∧ Below w.heap.size w W) ?_ fun W ⟨z0, z1, z2, z3, hB⟩ => ?_
        · refine ⟨heap_set_other y0 (by first | (simp; done) | (simp; omega)) _, heap_set_other y1 (by first | (simp; done) | (simp; omega)) _, heap_set_other y2 (by first | (simp; done) | (simp; omega)) _, ?_, by focus (repeat (first | (with_reducible exact Below.refl _ _) | (with_reducible assumption) | ((with_reducible refine Below.setCell ?_ ?_ _); rotate_left; (focus (first | omega | (simp; done) | (simp; omega)))) | ((with_reducible refine Below.alloc ?_ ?_ _); rotate_left; (focus (first | omega | (simp; done) | (simp; omega)))) | (with_reducible refine Below.drew ?_) | (refine below_on ?_ (by assumption))))⟩
          refine (heap_set y3 _ _).trans ?_
          rw [low_or R bit _ HJ.out.bit1 HA2.out]
          simp only [high_or R bit 1 HJ.out.bit1 (by decide), high_or R bit 2 HJ.out.bit1 (by decide), high_or R bit 3 HJ.out.bit1 (by decide), high_or R bit 4 HJ.out.bit1 (by decide), high_or R bit 5 HJ.out.bit1 (by decide), high_or R bit 6 HJ.out.bit1 (by decide), high_or R bit 7 HJ.out.bit1 (by decide), high_or R bit 8 HJ.out.bit1 (by decide)]
          rfl
        clear y0 y1 y2 y3 c3 f3 hB1 HA2
        have c1 := cell_at z1
        have c3 := cell_at z3
        by_cases hle : b ≤ R + R + bit
        · have HLE := Hd.mk hle
          have HN := Hd.mk (HJ.out.ge hle)
          have HVL := Hd.mk (HJ.out.room _ HB.out)
          obtain ⟨V, hV⟩ : ∃ V, V = R + R + bit := ⟨_, rfl⟩
          rw [← hV] at HLE HN HVL z3 c3
          rw [HQ.out] at HN
          clear hle hV
          go_wp2_with fail
          refine (wless_ge V b HVL.out HLE.out _).mono ?_
          rintro e wa ⟨rfl, hb⟩
          have y0 := heap_below hb z0
          have y1 := heap_below hb z1
          have y2 := heap_below hb z2
          have y3 := heap_below hb z3
          have hB1 := below_on hB hb
          have s3 := lt_of_block y3
          clear hb z0 z1 z2 z3 c1 c3 hB
          have c3 := cell_at y3
          have f3 := frozen_at y3
          go_upto_region 10 with (fail)
          refine abs_wp (fun W => W.heap[w.heap.size]? = some (.cells #[.int .u64 (dg (a) 0), .int .u64 (dg (a) 1), .int .u64 (dg (a) 2), .int .u64 (dg (a) 3), .int .u64 (dg (a) 4), .int .u64 (dg (a) 5), .int .u64 (dg (a) 6), .int .u64 (dg (a) 7), .int .u64 (dg (a) 8)] 160 (0, 0)) ∧ W.heap[w.heap.size + 1]? = some (.cells #[.int .u64 (dg (b) 0), .int .u64 (dg (b) 1), .int .u64 (dg (b) 2), .int .u64 (dg (b) 3), .int .u64 (dg (b) 4), .int .u64 (dg (b) 5), .int .u64 (dg (b) 6), .int .u64 (dg (b) 7), .int .u64 (dg (b) 8)] 160 (0, 0)) ∧ W.heap[w.heap.size + 1 + 1]? = some (.cells #[.int .u64 (dg (Q * 2 ^ (j + 1)) 0), .int .u64 (dg (Q * 2 ^ (j + 1)) 1), .int .u64 (dg (Q * 2 ^ (j + 1)) 2), .int .u64 (dg (Q * 2 ^ (j + 1)) 3), .int .u64 (dg (Q * 2 ^ (j + 1)) 4), .int .u64 (dg (Q * 2 ^ (j + 1)) 5), .int .u64 (dg (Q * 2 ^ (j + 1)) 6), .int .u64 (dg (Q * 2 ^ (j + 1)) 7), .int .u64 (dg (Q * 2 ^ (j + 1)) 8)] 160 (0, 0)) ∧ W.heap[w.heap.size + 1 + 1 + 1]? = some (.cells #[.int .u64 (dg (V - b) 0), .int .u64 (dg (V - b) 1), .int .u64 (dg (V - b) 2), .int .u64 (dg (V - b) 3), .int .u64 (dg (V - b) 4), .int .u64 (dg (V - b) 5), .int .u64 (dg (V - b) 6), .int .u64 (dg (V - b) 7), .int .u64 (dg (V - b) 8)] 160 (0, 0)) ∧ Below w.heap.size w W) ?_ fun W ⟨z0, z1, z2, z3, hB⟩ => ?_
          · obtain ⟨l1, l2, l3⟩ := laid_9 (w.heap.size + 1 + 1 + 1) wa (.int .u64 (dg (V - b) 0)) (.int .u64 (dg (V - b) 1)) (.int .u64 (dg (V - b) 2)) (.int .u64 (dg (V - b) 3)) (.int .u64 (dg (V - b) 4)) (.int .u64 (dg (V - b) 5)) (.int .u64 (dg (V - b) 6)) (.int .u64 (dg (V - b) 7)) (.int .u64 (dg (V - b) 8))
            have hB2 := hB1.trans (l3 _ (by omega))
            exact ⟨heap_old (l2 _ _ (by omega) y0) _, heap_old (l2 _ _ (by omega) y1) _, heap_old (l2 _ _ (by omega) y2) _, heap_old (l1 y3 rfl) _, Below.alloc hB2 hB2.size _⟩
          clear y0 y1 y2 y3 c3 f3 hB1 s3
          refine region_qt 9 (by kernel_rfl) (by kernel_rfl) fun X _ mk hmk hcl => ?_
          have c2 := mk_cell hmk z2
          simp only [List.take_succ_cons, List.take_zero, List.drop_succ_cons, List.drop_zero]
          repeat (go_big_quiet_step (skip))
          refine wpQuiet_nil ?_
          rintro _ ⟨x, rfl⟩
          clear c2
          have hx := hmk x
          clear hcl hmk
          generalize mk x = W1 at hx
          have y0 := heap_below hx z0
          have y1 := heap_below hx z1
          have y2 := heap_below hx z2
          have y3 := heap_below hx z3
          have hB1 := below_on hB hx
          have f2 := frozen_at y2
          have c2 := cell_at y2
          clear hx z0 z1 z2 z3 hB
          go_wp2
          go_roundw
          case rel =>
            refine ⟨j, by omega, by go_num, heap_set_other y0 (by first | (simp; done) | (simp; omega)) _, heap_set_other y1 (by first | (simp; done) | (simp; omega)) _, ?_, by rw [HN.out.2]; exact heap_set_other y3 (by first | (simp; done) | (simp; omega)) _, by focus (repeat (first | (with_reducible exact Below.refl _ _) | (with_reducible assumption) | ((with_reducible refine Below.setCell ?_ ?_ _); rotate_left; (focus (first | omega | (simp; done) | (simp; omega)))) | ((with_reducible refine Below.alloc ?_ ?_ _); rotate_left; (focus (first | omega | (simp; done) | (simp; omega)))) | (with_reducible refine Below.drew ?_) | (refine below_on ?_ (by assumption))))⟩
            rw [HN.out.1]
            refine (heap_set y2 _ _).trans ?_
            rw [pow_orj Q j 8 _ hqn (wrap_pow _ (Nat.mod_lt _ (by decide)))]
            simp only [pow_notj Q j 8 0 hqn (by decide), pow_notj Q j 8 1 hqn (by decide), pow_notj Q j 8 2 hqn (by decide), pow_notj Q j 8 3 hqn (by decide), pow_notj Q j 8 4 hqn (by decide), pow_notj Q j 8 5 hqn (by decide), pow_notj Q j 8 6 hqn (by decide), pow_notj Q j 8 7 hqn (by decide)]
            rfl
          case measure => simp [intOf]; try omega
        · have HLE : Hd (R + R + bit < b) := ⟨by omega⟩
          have HN := Hd.mk (HJ.out.lt HLE.out)
          obtain ⟨V, hV⟩ : ∃ V, V = R + R + bit := ⟨_, rfl⟩
          rw [← hV] at HLE HN z3 c3
          rw [HQ.out] at HN
          clear hle hV
          go_wp2_with fail
          refine (wless_lt V b HBL.out HLE.out _).mono ?_
          rintro e wa ⟨R', rfl, hb⟩
          have y0 := heap_below hb z0
          have y1 := heap_below hb z1
          have y2 := heap_below hb z2
          have y3 := heap_below hb z3
          have hB1 := below_on hB hb
          have s3 := lt_of_block y3
          clear hb z0 z1 z2 z3 c1 c3 hB
          go_wp2
          go_roundw
          case rel =>
            refine ⟨j, by omega, by go_num, heap_old y0 _, heap_old y1 _, ?_, by rw [HN.out.2]; exact heap_old y3 _, by focus (repeat (first | (with_reducible exact Below.refl _ _) | (with_reducible assumption) | ((with_reducible refine Below.setCell ?_ ?_ _); rotate_left; (focus (first | omega | (simp; done) | (simp; omega)))) | ((with_reducible refine Below.alloc ?_ ?_ _); rotate_left; (focus (first | omega | (simp; done) | (simp; omega)))) | (with_reducible refine Below.drew ?_) | (refine below_on ?_ (by assumption))))⟩
            rw [HN.out.1]
            exact heap_old y2 _
          case measure => simp [intOf]; try omega

end Go.Proofs.YtbhfnfokihdjjaaGreatDoor
