/-
  Plain: sides where all is moved. Conditions stand in each theorem.
-/
import Derived.Test.YtbhfnfokihdjjaaGreatDoorWh1
namespace Go.Proofs.YtbhfnfokihdjjaaGreatDoor
theorem side_moved (ax ay dx dy X : Int) (D1 : Nat) (Y : Int) (D2 : Nat) (mx my : Int) : sideV (ax + mx) (ay + my) dx dy (X + mx * D1) D1 (Y + my * D2) D2 = sideV ax ay dx dy X D1 Y D2 := by
  unfold sideV
  congr 1
  grind
theorem pnt_moved1 (ax ay X : Int) (D1 : Nat) (Y : Int) (D2 : Nat) (mx my : Int) : pntC (ax + mx) 1 (ay + my) 1 (X + mx * D1) D1 (Y + my * D2) D2 = pntC ax 1 ay 1 X D1 Y D2 := by
  unfold pntC
  rw [show (ax + mx) * (D1 : Int) - (X + mx * D1) * ((1 : Nat) : Int) = ax * (D1 : Int) - X * ((1 : Nat) : Int) by grind, show (ay + my) * (D2 : Int) - (Y + my * D2) * ((1 : Nat) : Int) = ay * (D2 : Int) - Y * ((1 : Nat) : Int) by grind]
theorem pnt_moved2 (bx by_ X : Int) (D1 : Nat) (Y : Int) (D2 : Nat) (mx my : Int) : pntC (X + mx * D1) D1 (Y + my * D2) D2 (bx + mx) 1 (by_ + my) 1 = pntC X D1 Y D2 bx 1 by_ 1 := by
  unfold pntC
  rw [show (X + mx * D1) * ((1 : Nat) : Int) - (bx + mx) * (D1 : Int) = X * ((1 : Nat) : Int) - bx * (D1 : Int) by grind, show (Y + my * D2) * ((1 : Nat) : Int) - (by_ + my) * (D2 : Int) = Y * ((1 : Nat) : Int) - by_ * (D2 : Int) by grind]
theorem dif_moved (a b m : Int) : b + m - (a + m) = b - a := by omega
theorem on_moved (ax ay bx by_ X : Int) (D1 : Nat) (Y : Int) (D2 : Nat) (mx my : Int) : onB (ax + mx) (ay + my) (bx + mx) (by_ + my) (X + mx * D1) D1 (Y + my * D2) D2 = onB ax ay bx by_ X D1 Y D2 := by
  unfold onB
  rw [dif_moved, dif_moved, side_moved, pnt_moved1, pnt_moved2]
theorem low_moved (X m : Int) (D : Nat) (h : Nat.gcd (ab X) D = 1) : Nat.gcd (ab (X + m * D)) D = 1 := by
  have k : Int.gcd (X + m * (D : Int)) (D : Int) = Int.gcd X (D : Int) := Int.gcd_add_mul_right_left (D : Int) X m
  unfold Int.gcd at k
  rw [Int.natAbs_natCast] at k
  exact k.trans h
theorem rz_low {z : Int} {d : Nat} (h : Nat.gcd (ab z) d = 1) : rz z d = z ∧ rd z d = d := by
  unfold rz rd
  rw [h, Nat.div_one, Nat.div_one, zof_ng_ab]
  exact ⟨rfl, rfl⟩
end Go.Proofs.YtbhfnfokihdjjaaGreatDoor
