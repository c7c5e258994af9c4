/-
  Plain laws: on which side of a line a point is, by cross products. Conditions stand in each theorem.
-/
import Derived.Test.YtbhfnfokihdjjaaGreatDoorWg2
namespace Go.Proofs.YtbhfnfokihdjjaaGreatDoor

theorem sgI_range (z : Int) : -1 ≤ sgI z ∧ sgI z ≤ 1 := by unfold sgI; split <;> (try split) <;> omega
theorem sgI_pos {z : Int} (h : 0 < z) : sgI z = 1 := by unfold sgI; rw [if_neg (by omega), if_neg (by omega)]
theorem sgI_neg (z : Int) : sgI (-z) = -sgI z := by unfold sgI; split <;> (try split) <;> (try split) <;> (try split) <;> omega
theorem sgI_zero : sgI 0 = 0 := rfl
theorem sgI_mul (a b : Int) : sgI (a * b) = sgI a * sgI b := by
  have hpos : ∀ x y : Int, 0 < x → 0 < y → sgI (x * y) = sgI x * sgI y := fun x y hx hy => by rw [sgI_pos hx, sgI_pos hy, sgI_pos (Int.mul_pos hx hy)]; rfl
  rcases Int.lt_trichotomy a 0 with ha | rfl | ha
  · rcases Int.lt_trichotomy b 0 with hb | rfl | hb
    · have := hpos (-a) (-b) (by omega) (by omega)
      rw [sgI_neg, sgI_neg, Int.neg_mul_neg, Int.neg_mul_neg] at this
      exact this
    · rw [Int.mul_zero, sgI_zero, Int.mul_zero]
    · have := hpos (-a) b (by omega) hb
      rw [sgI_neg, Int.neg_mul, sgI_neg, Int.neg_mul] at this
      omega
  · rw [Int.zero_mul, sgI_zero, Int.zero_mul]
  · rcases Int.lt_trichotomy b 0 with hb | rfl | hb
    · have := hpos a (-b) ha (by omega)
      rw [sgI_neg, Int.mul_neg, sgI_neg, Int.mul_neg] at this
      omega
    · rw [Int.mul_zero, sgI_zero, Int.mul_zero]
    · exact hpos a b ha hb
theorem sgI_sgn (z : Int) : sgI z = sgn z := by unfold sgI sgn; split <;> (try split) <;> (try split) <;> (try split) <;> omega
theorem cmpI_zero (p : Int) : cmpI p 0 = sgI p := by unfold cmpI sgI; split <;> (try split) <;> (try split) <;> (try split) <;> omega
/-- On which side of a line from (ax, ay), so far to (dx, dy), the point X by D1, Y by D2 is. -/
def sideV (ax ay dx dy X : Int) (D1 : Nat) (Y : Int) (D2 : Nat) : Int := sgI (dx * ((Y - ay * D2) * D1) - dy * ((X - ax * D1) * D2))
/-- Where a line is, by the quotient. -/
theorem cut_value {S C X f g : Int} {D SD E n : Int} {ag : Int} (hg : 0 < ag) (hSD : 0 < SD) (h1 : S * D = (X - f * D) * SD) (h2 : C * (SD * ag) = n * E) (h3 : n * g = S * ag) : C * (D * g) = (X - f * D) * E := by
  have e1 : (C * (D * g)) * (SD * ag) = ((X - f * D) * E) * (SD * ag) := by
    calc (C * (D * g)) * (SD * ag) = (C * (SD * ag)) * (D * g) := by ac_rfl
      _ = (n * E) * (D * g) := by rw [h2]
      _ = (n * g) * (E * D) := by ac_rfl
      _ = (S * ag) * (E * D) := by rw [h3]
      _ = (S * D) * (E * ag) := by ac_rfl
      _ = ((X - f * D) * SD) * (E * ag) := by rw [h1]
      _ = ((X - f * D) * E) * (SD * ag) := by ac_rfl
  exact Int.eq_of_mul_eq_mul_right (Int.ne_of_gt (Int.mul_pos hSD hg)) e1
/-- Two fractions of the way, held against one another. -/
theorem side_value {C1 E1 C2 E2 u v D1 D2 dx dy : Int} (hE1 : 0 < E1) (hE2 : 0 < E2) (hD1 : 0 < D1) (hD2 : 0 < D2) (h1 : C1 * (D1 * dx) = u * E1) (h2 : C2 * (D2 * dy) = v * E2) :
    sgI (C2 * E1 - C1 * E2) * sgI dx * sgI dy = sgI (dx * (v * D1) - dy * (u * D2)) := by
  have e : (dx * (v * D1) - dy * (u * D2)) * (E1 * E2) = (C2 * E1 - C1 * E2) * dx * dy * (D1 * D2) := by
    rw [Int.sub_mul, Int.sub_mul, Int.sub_mul, Int.sub_mul]
    have a1 : dx * (v * D1) * (E1 * E2) = C2 * E1 * dx * dy * (D1 * D2) := by
      calc dx * (v * D1) * (E1 * E2) = (v * E2) * (dx * D1 * E1) := by ac_rfl
        _ = (C2 * (D2 * dy)) * (dx * D1 * E1) := by rw [h2]
        _ = C2 * E1 * dx * dy * (D1 * D2) := by ac_rfl
    have a2 : dy * (u * D2) * (E1 * E2) = C1 * E2 * dx * dy * (D1 * D2) := by
      calc dy * (u * D2) * (E1 * E2) = (u * E1) * (dy * D2 * E2) := by ac_rfl
        _ = (C1 * (D1 * dx)) * (dy * D2 * E2) := by rw [h1]
        _ = C1 * E2 * dx * dy * (D1 * D2) := by ac_rfl
    rw [a1, a2]
  have hs := congrArg sgI e
  rw [sgI_mul, sgI_mul E1, sgI_pos hE1, sgI_pos hE2, sgI_mul _ (D1 * D2), sgI_mul D1, sgI_pos hD1, sgI_pos hD2, sgI_mul _ dy, sgI_mul _ dx] at hs
  omega
theorem side_upright {X ax D1 D2 dy ay Y : Int} (hD2 : 0 < D2) : -sgI (X * 1 - ax * D1) * sgI dy = sgI (0 * ((Y - ay * D2) * D1) - dy * ((X - ax * D1) * D2)) := by
  rw [Int.zero_mul, Int.zero_sub, sgI_neg, sgI_mul, sgI_mul, sgI_pos hD2, Int.mul_one, Int.mul_one, Int.neg_mul, Int.mul_comm]
theorem side_level {X ax D1 D2 dx ay Y : Int} (hD1 : 0 < D1) : sgI (Y * 1 - ay * D2) * sgI dx = sgI (dx * ((Y - ay * D2) * D1) - 0 * ((X - ax * D1) * D2)) := by
  rw [Int.zero_mul, Int.sub_zero, sgI_mul, sgI_mul, sgI_pos hD1, Int.mul_one, Int.mul_one, Int.mul_comm]
end Go.Proofs.YtbhfnfokihdjjaaGreatDoor
