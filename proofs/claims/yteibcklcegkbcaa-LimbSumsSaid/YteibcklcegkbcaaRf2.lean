/-
  Plain laws: digits to the base 65536. Conditions stand in each theorem.
-/
import Derived.Test.YteibcklcegkbcaaRf1
namespace Go.Proofs.Yteibcklcegkbcaa
open Go.RowKit Go.BigFrame

/-- The digits of n to the base 65536, without noughts behind. -/
def dd (n : Nat) : List Int := if h : n = 0 then [] else ((n % 65536 : Nat) : Int) :: dd (n / 65536)
termination_by n
decreasing_by omega
theorem dd_zero : dd 0 = [] := by unfold dd; rw [dif_pos rfl]
theorem dd_pos {n : Nat} (h : n ≠ 0) : dd n = ((n % 65536 : Nat) : Int) :: dd (n / 65536) := by rw [dd]; rw [dif_neg h]
def val : List Int → Nat
  | [] => 0
  | x :: xs => x.toNat + 65536 * val xs
def Dg (ds : List Int) : Prop := ∀ x ∈ ds, 0 ≤ x ∧ x < 65536
theorem dd_dg : ∀ (k n : Nat), n < 65536 ^ k → Dg (dd n)
  | 0, n, h => by
    obtain rfl : n = 0 := by simpa using h
    rw [dd_zero]; intro x hx; cases hx
  | k + 1, n, h => by
    by_cases h0 : n = 0
    · rw [h0, dd_zero]; intro x hx; cases hx
    · rw [dd_pos h0]
      intro x hx
      rcases List.mem_cons.1 hx with rfl | hx
      · omega
      · exact dd_dg k (n / 65536) (Nat.div_lt_of_lt_mul (by rw [Nat.mul_comm]; simpa [Nat.pow_succ] using h)) x hx
theorem dd_range (n : Nat) : Dg (dd n) := dd_dg n n (Nat.lt_pow_self (by decide))
theorem val_dd : ∀ (k n : Nat), n < 65536 ^ k → val (dd n) = n
  | 0, n, h => by
    obtain rfl : n = 0 := by simpa using h
    rw [dd_zero]; rfl
  | k + 1, n, h => by
    by_cases h0 : n = 0
    · rw [h0, dd_zero]; rfl
    · rw [dd_pos h0, val, val_dd k (n / 65536) (Nat.div_lt_of_lt_mul (by rw [Nat.mul_comm]; simpa [Nat.pow_succ] using h))]
      omega
theorem val_of_dd (n : Nat) : val (dd n) = n := val_dd n n (Nat.lt_pow_self (by decide))
theorem val_append : ∀ (l m : List Int), val (l ++ m) = val l + 65536 ^ l.length * val m
  | [], m => by simp [val]
  | x :: l, m => by
    simp only [List.cons_append, val, val_append l m, List.length_cons, Nat.pow_succ]
    rw [Nat.mul_add, ← Nat.mul_assoc, Nat.mul_comm 65536 (65536 ^ l.length), Nat.add_assoc]
theorem val_keep (ds : List Int) : ∀ n, n ≤ ds.length → val (ds.take (keepN ds n)) = val (ds.take n)
  | 0, _ => rfl
  | n + 1, h => by
    unfold keepN
    split
    · rename_i h0
      rw [val_keep ds n (by omega), List.take_add_one, h0, val_append]
      simp [val]
    · rfl
theorem val_strip (ds : List Int) : val (strip ds) = val ds := by
  unfold strip
  rw [val_keep ds ds.length (Nat.le_refl _), List.take_length]
theorem keep_last (ds : List Int) : ∀ n m, keepN ds n = m + 1 → ds[m]? ≠ some 0
  | 0, m, h => by cases h
  | n + 1, m, h => by
    unfold keepN at h
    split at h
    · exact keep_last ds n m h
    · rename_i h0
      obtain rfl : n = m := by omega
      exact h0
theorem dd_val : ∀ (l : List Int), Dg l → (∀ m, l.length = m + 1 → l[m]? ≠ some 0) → dd (val l) = l
  | [], _, _ => dd_zero
  | x :: l, hd, hl => by
    have hx := hd x (by simp)
    have ih := dd_val l (fun y hy => hd y (by simp [hy])) (fun m hm => by
      have := hl (m + 1) (by simp [hm])
      simpa using this)
    have hne : val (x :: l) ≠ 0 := by
      unfold val
      cases l with
      | nil =>
        have := hl 0 rfl
        simp at this
        omega
      | cons y l =>
        have h1 : val (y :: l) ≠ 0 := by
          intro h0
          rw [h0, dd_zero] at ih
          cases ih
        omega
    rw [dd_pos hne]
    have e0 : val (x :: l) = x.toNat + 65536 * val l := rfl
    have e1 : val (x :: l) % 65536 = x.toNat := by omega
    have e2 : val (x :: l) / 65536 = val l := by omega
    rw [e1, e2, ih]
    congr 1
    omega
theorem strip_dd (ds : List Int) (h : Dg ds) : strip ds = dd (val ds) := by
  rw [← val_strip]
  refine (dd_val (strip ds) (fun x hx => h x (List.mem_of_mem_take hx)) (fun m hm => ?_)).symm
  rw [strip_length] at hm
  unfold strip
  rw [List.getElem?_take, if_pos (by omega)]
  exact keep_last ds _ m hm
/-- A Big of value z. -/
def BigAt (W : World) (v : Value) (z : Int) : Prop :=
  ∃ (A : Option Addr) (c : Nat), v = .agg #[.bool (ng z), .slice A (dd (ab z)).length c] ∧ (dd (ab z)).length ≤ c ∧ DigAt W A (dd (ab z))
theorem BigAt.below {W W1 : World} {v : Value} {z : Int} (h : BigAt W v z) (hb : Below W.heap.size W W1) : BigAt W1 v z := by
  obtain ⟨A, c, h1, h2, h3⟩ := h
  exact ⟨A, c, h1, h2, h3.below hb⟩
end Go.Proofs.Yteibcklcegkbcaa
