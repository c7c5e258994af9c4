/-
  Plain: the turn where three nodes go round or two change places; a segment's ends; a segment and the one with its ends exchanged. Conditions stand in each theorem.
-/
import Derived.Test.YtbhfnfokihdjjaaGreatDoorWh1
namespace Go.Proofs.YtbhfnfokihdjjaaGreatDoor
theorem sgI_negate (z : Int) : sgI (-z) = -sgI z := by
  unfold sgI
  split <;> split <;> (try split) <;> (try split) <;> omega
theorem side_swap (ax ay dx dy X : Int) (D1 : Nat) (Y : Int) (D2 : Nat) : sideV ay ax dy dx Y D2 X D1 = -sideV ax ay dx dy X D1 Y D2 := by
  unfold sideV
  rw [← sgI_negate]
  congr 1
  omega
def sg3 (i : Fin 3) : Int := (i.val : Int) - 1
theorem sgI_three (z : Int) : ∃ i : Fin 3, sgI z = sg3 i := by
  unfold sgI
  split
  · exact ⟨0, rfl⟩
  · split
    · exact ⟨1, rfl⟩
    · exact ⟨2, rfl⟩
set_option maxRecDepth 100000 in
theorem lex_three : ∀ p q u v x y : Fin 3, (sg3 p ≠ 0 ∨ sg3 q ≠ 0) → sg3 p * sg3 v = sg3 q * sg3 u → sg3 p * sg3 y = sg3 q * sg3 x →
    decide ((if sg3 u == 0 then sg3 v else sg3 u) * (if sg3 x == 0 then sg3 y else sg3 x) ≥ 0) = decide ((if sg3 v == 0 then sg3 u else sg3 v) * (if sg3 y == 0 then sg3 x else sg3 y) ≥ 0) := by decide +kernel
theorem on_swap (ax ay bx by_ X : Int) (D1 : Nat) (Y : Int) (D2 : Nat) (h1 : 0 < D1) (h2 : 0 < D2) (hn : ax ≠ bx ∨ ay ≠ by_) : onB ay ax by_ bx Y D2 X D1 = onB ax ay bx by_ X D1 Y D2 := by
  unfold onB
  rw [side_swap ax ay (bx - ax) (by_ - ay) X D1 Y D2]
  have hz : (-sideV ax ay (bx - ax) (by_ - ay) X D1 Y D2 == 0) = (sideV ax ay (bx - ax) (by_ - ay) X D1 Y D2 == 0) := by
    rw [Bool.eq_iff_iff]
    simp only [beq_iff_eq]
    omega
  rw [hz]
  cases hs : sideV ax ay (bx - ax) (by_ - ay) X D1 Y D2 == 0
  · rfl
  · rw [Bool.true_and, Bool.true_and]
    have h0 : (bx - ax) * ((Y - ay * D2) * D1) - (by_ - ay) * ((X - ax * D1) * D2) = 0 := by
      have h := beq_iff_eq.1 hs
      unfold sideV sgI at h
      split at h
      · cases h
      · split at h
        · assumption
        · cases h
    unfold pntC
    have e1 : ((bx - ax) * (D1 : Int)) * (ay * (D2 : Int) - Y * ((1 : Nat) : Int)) = ((by_ - ay) * (D2 : Int)) * (ax * (D1 : Int) - X * ((1 : Nat) : Int)) := by
      have a1 : ((bx - ax) * (D1 : Int)) * (ay * (D2 : Int) - Y * ((1 : Nat) : Int)) = -((bx - ax) * ((Y - ay * D2) * D1)) := by
        rw [show (ay * (D2 : Int) - Y * ((1 : Nat) : Int)) = -(Y - ay * D2) by simp; omega]
        rw [Int.mul_neg]
        congr 1
        ac_rfl
      have a2 : ((by_ - ay) * (D2 : Int)) * (ax * (D1 : Int) - X * ((1 : Nat) : Int)) = -((by_ - ay) * ((X - ax * D1) * D2)) := by
        rw [show (ax * (D1 : Int) - X * ((1 : Nat) : Int)) = -(X - ax * D1) by simp; omega]
        rw [Int.mul_neg]
        congr 1
        ac_rfl
      rw [a1, a2]
      omega
    have e2 : ((bx - ax) * (D1 : Int)) * (Y * ((1 : Nat) : Int) - by_ * (D2 : Int)) = ((by_ - ay) * (D2 : Int)) * (X * ((1 : Nat) : Int) - bx * (D1 : Int)) := by
      have b1 : Y * ((1 : Nat) : Int) - by_ * (D2 : Int) = -(ay * (D2 : Int) - Y * ((1 : Nat) : Int)) - (by_ - ay) * D2 := by rw [Int.sub_mul]; omega
      have b2 : X * ((1 : Nat) : Int) - bx * (D1 : Int) = -(ax * (D1 : Int) - X * ((1 : Nat) : Int)) - (bx - ax) * D1 := by rw [Int.sub_mul]; omega
      rw [b1, b2, Int.mul_sub, Int.mul_sub, Int.mul_neg, Int.mul_neg, e1, Int.mul_comm ((bx - ax) * (D1 : Int)) ((by_ - ay) * (D2 : Int))]
    have m1 := congrArg sgI e1
    have m2 := congrArg sgI e2
    rw [sgI_mul ((bx - ax) * (D1 : Int)) _, sgI_mul ((by_ - ay) * (D2 : Int)) _] at m1 m2
    have hne : sgI ((bx - ax) * (D1 : Int)) ≠ 0 ∨ sgI ((by_ - ay) * (D2 : Int)) ≠ 0 := by
      have key : ∀ (z : Int) (D : Nat), 0 < D → z ≠ 0 → sgI (z * D) ≠ 0 := by
        intro z D hD hz hh
        have h3 : z * D ≠ 0 := Int.mul_ne_zero hz (by omega)
        unfold sgI at hh
        rw [if_neg h3] at hh
        split at hh <;> omega
      rcases hn with h | h
      · exact Or.inl (key _ _ h1 (by omega))
      · exact Or.inr (key _ _ h2 (by omega))
    obtain ⟨p, hp⟩ := sgI_three ((bx - ax) * (D1 : Int))
    obtain ⟨q, hq⟩ := sgI_three ((by_ - ay) * (D2 : Int))
    obtain ⟨u, hu⟩ := sgI_three (ax * (D1 : Int) - X * ((1 : Nat) : Int))
    obtain ⟨v, hv⟩ := sgI_three (ay * (D2 : Int) - Y * ((1 : Nat) : Int))
    obtain ⟨x, hx⟩ := sgI_three (X * ((1 : Nat) : Int) - bx * (D1 : Int))
    obtain ⟨y, hy⟩ := sgI_three (Y * ((1 : Nat) : Int) - by_ * (D2 : Int))
    rw [hp, hq, hu, hv] at m1
    rw [hp, hq, hx, hy] at m2
    rw [hp, hq] at hne
    rw [hu, hv, hx, hy]
    exact (lex_three p q u v x y hne m1 m2).symm
end Go.Proofs.YtbhfnfokihdjjaaGreatDoor

namespace Go.Proofs.YtbhfnfokihdjjaaGreatDoor
theorem turn_round (ax ay bx by_ cx cy : Int) : turnZ bx by_ cx cy ax ay = turnZ ax ay bx by_ cx cy := by
  unfold turnZ
  congr 1
  grind
theorem turn_other (ax ay bx by_ cx cy : Int) : turnZ bx by_ ax ay cx cy = -turnZ ax ay bx by_ cx cy := by
  unfold turnZ
  rw [← sgI_negate]
  congr 1
  grind
theorem turn_range (ax ay bx by_ cx cy : Int) : -1 ≤ turnZ ax ay bx by_ cx cy ∧ turnZ ax ay bx by_ cx cy ≤ 1 := sgI_range _
theorem sgI_nought {z : Int} (h : z = 0) : sgI z = 0 := by rw [h]; rfl
theorem pnt_self (x : Int) (d : Nat) (y : Int) (e : Nat) : pntC x d y e x d y e = 0 := by
  unfold pntC
  rw [sgI_nought (by omega), sgI_nought (by omega)]
  rfl
theorem on_first (ax ay bx by_ : Int) : onB ax ay bx by_ ax 1 ay 1 = true := by
  unfold onB
  rw [pnt_self, show sideV ax ay (bx - ax) (by_ - ay) ax 1 ay 1 = 0 from sgI_nought (by grind)]
  simp
theorem on_last (ax ay bx by_ : Int) : onB ax ay bx by_ bx 1 by_ 1 = true := by
  unfold onB
  rw [pnt_self, show sideV ax ay (bx - ax) (by_ - ay) bx 1 by_ 1 = 0 from sgI_nought (by grind)]
  simp
theorem side_back (ax ay bx by_ X : Int) (D1 : Nat) (Y : Int) (D2 : Nat) : sideV bx by_ (ax - bx) (ay - by_) X D1 Y D2 = -sideV ax ay (bx - ax) (by_ - ay) X D1 Y D2 := by
  unfold sideV
  rw [← sgI_negate]
  congr 1
  grind
theorem pnt_turned (X1 : Int) (D1 : Nat) (Y1 : Int) (E1 : Nat) (X2 : Int) (D2 : Nat) (Y2 : Int) (E2 : Nat) : pntC X2 D2 Y2 E2 X1 D1 Y1 E1 = -pntC X1 D1 Y1 E1 X2 D2 Y2 E2 := by
  unfold pntC
  rw [show X2 * (D1 : Int) - X1 * D2 = -(X1 * D2 - X2 * D1) by omega, show Y2 * (E1 : Int) - Y1 * E2 = -(Y1 * E2 - Y2 * E1) by omega, sgI_negate, sgI_negate]
  by_cases h : sgI (X1 * D2 - X2 * D1) = 0
  · simp [h]
  · have h2 : ¬ -sgI (X1 * D2 - X2 * D1) = 0 := by omega
    simp [h, h2]
theorem on_back (ax ay bx by_ X : Int) (D1 : Nat) (Y : Int) (D2 : Nat) : onB bx by_ ax ay X D1 Y D2 = onB ax ay bx by_ X D1 Y D2 := by
  unfold onB
  rw [side_back, pnt_turned X D1 Y D2 bx 1 by_ 1, pnt_turned ax 1 ay 1 X D1 Y D2, Int.neg_mul_neg, Int.mul_comm (pntC X D1 Y D2 bx 1 by_ 1)]
  congr 1
  rw [Bool.eq_iff_iff]
  simp only [beq_iff_eq]
  omega
theorem segB_back (ax ay bx by_ : Int) : segB bx by_ ax ay = segB ax ay bx by_ := by
  unfold segB
  rw [Bool.eq_iff_iff]
  simp
  grind
theorem on_side {ax ay bx by_ X : Int} {D1 : Nat} {Y : Int} {D2 : Nat} (h : onB ax ay bx by_ X D1 Y D2 = true) : sideV ax ay (bx - ax) (by_ - ay) X D1 Y D2 = 0 := by
  unfold onB at h
  rw [Bool.and_eq_true] at h
  exact beq_iff_eq.1 h.1
end Go.Proofs.YtbhfnfokihdjjaaGreatDoor
