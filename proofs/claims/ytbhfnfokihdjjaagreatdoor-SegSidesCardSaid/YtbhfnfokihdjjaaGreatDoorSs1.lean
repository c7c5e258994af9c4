/-
  Plain: the side of a point by the references' fractions. Conditions stand in each theorem.
-/
import Derived.Test.YtbhfnfokihdjjaaGreatDoorWh1
namespace Go.Proofs.YtbhfnfokihdjjaaGreatDoor
theorem side_poly (P Q dx dy D1 D2 u v xn yn e f xd yd : Int) (hu : u * D2 = P * e) (hv : v * D1 = Q * f) (hx : xn * e = dx * u * xd) (hy : yn * f = dy * v * yd) :
    (xn * yd - yn * xd) * (D1 * D2 * (e * f)) = (dx * (P * D1) - dy * (Q * D2)) * (xd * yd * (e * f)) := by
  have a1 : xn * yd * (D1 * D2 * (e * f)) = (dx * (P * D1)) * (xd * yd * (e * f)) := by
    calc xn * yd * (D1 * D2 * (e * f)) = (xn * e) * (yd * D1 * D2 * f) := by grind
      _ = (dx * u * xd) * (yd * D1 * D2 * f) := by rw [hx]
      _ = (u * D2) * (dx * xd * yd * D1 * f) := by grind
      _ = (P * e) * (dx * xd * yd * D1 * f) := by rw [hu]
      _ = _ := by grind
  have a2 : yn * xd * (D1 * D2 * (e * f)) = (dy * (Q * D2)) * (xd * yd * (e * f)) := by
    calc yn * xd * (D1 * D2 * (e * f)) = (yn * f) * (xd * D1 * D2 * e) := by grind
      _ = (dy * v * yd) * (xd * D1 * D2 * e) := by rw [hy]
      _ = (v * D1) * (dy * xd * yd * D2 * e) := by grind
      _ = (Q * f) * (dy * xd * yd * D2 * e) := by rw [hv]
      _ = _ := by grind
  rw [Int.sub_mul, a1, a2, ← Int.sub_mul]
theorem side_ref (ax ay dx dy X : Int) (D1 : Nat) (Y : Int) (D2 : Nat) (h1 : 0 < D1) (h2 : 0 < D2) (u v xn yn : Int) (e f xd yd : Nat)
    (hu : u * (D2 : Int) = (Y - ay * D2) * (e : Int)) (he : 0 < e) (hv : v * (D1 : Int) = (X - ax * D1) * (f : Int)) (hf : 0 < f)
    (hx : xn * (e : Int) = dx * u * (xd : Int)) (hxd : 0 < xd) (hy : yn * (f : Int) = dy * v * (yd : Int)) (hyd : 0 < yd) :
    sgI (xn * yd - yn * xd) = sideV ax ay dx dy X D1 Y D2 := by
  have h := congrArg sgI (side_poly (Y - ay * D2) (X - ax * D1) dx dy D1 D2 u v xn yn e f xd yd hu hv hx hy)
  rw [sgI_mul _ ((D1 : Int) * D2 * ((e : Int) * f)), sgI_mul _ ((xd : Int) * yd * ((e : Int) * f))] at h
  rw [sgI_pos (Int.mul_pos (Int.mul_pos (by omega) (by omega)) (Int.mul_pos (by omega) (by omega))), sgI_pos (Int.mul_pos (Int.mul_pos (by omega) (by omega)) (Int.mul_pos (by omega) (by omega))), Int.mul_one, Int.mul_one] at h
  exact h
theorem on_ref {a b : Int} (ha : -1 ≤ a ∧ a ≤ 1) (hb : -1 ≤ b ∧ b ≤ 1) : (a == 0 || (b == 0 || a == b)) = decide (a * b ≥ 0) := by
  obtain rfl | rfl | rfl : a = -1 ∨ a = 0 ∨ a = 1 := by omega
  all_goals
    obtain rfl | rfl | rfl : b = -1 ∨ b = 0 ∨ b = 1 := by omega
    all_goals rfl
end Go.Proofs.YtbhfnfokihdjjaaGreatDoor
