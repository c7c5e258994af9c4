/-
  Plain laws: the order of numbers by their digits to the base 65536. Conditions stand in each theorem.
-/
import Derived.Test.YteibcklcegkbcaaRf4
namespace Go.Proofs.Yteibcklcegkbcaa
open Go.RowKit Go.BigFrame

theorem val_lt : ∀ (l : List Int), Dg l → val l < 65536 ^ l.length
  | [], _ => by simp [val]
  | x :: l, h => by
    have h1 := h x (by simp)
    have h2 := val_lt l (fun y hy => h y (by simp [hy]))
    simp only [val, List.length_cons, Nat.pow_succ]
    omega
theorem dd_len_le : ∀ (k n : Nat), n < 65536 ^ k → (dd n).length ≤ k
  | 0, n, h => by
    obtain rfl : n = 0 := by simpa using h
    rw [dd_zero]; exact Nat.le_refl _
  | k + 1, n, h => by
    by_cases h0 : n = 0
    · rw [h0, dd_zero]; exact Nat.zero_le _
    · rw [dd_pos h0, List.length_cons]
      have := dd_len_le k (n / 65536) (Nat.div_lt_of_lt_mul (by rw [Nat.mul_comm]; simpa [Nat.pow_succ] using h))
      omega
theorem dd_len (k n : Nat) : (dd n).length ≤ k ↔ n < 65536 ^ k := by
  refine ⟨fun h => ?_, dd_len_le k n⟩
  have h1 := val_lt (dd n) (dd_range n)
  rw [val_of_dd] at h1
  exact Nat.lt_of_lt_of_le h1 (Nat.pow_le_pow_right (by decide) h)
theorem dd_len16 (n : Nat) : (dd n).length ≤ 16 ↔ n < 2 ^ 256 := by
  rw [dd_len]
theorem lt_of_len {m n : Nat} (h : (dd m).length < (dd n).length) : m < n := by
  have h1 := (dd_len (dd m).length m).1 (Nat.le_refl _)
  rcases Nat.lt_or_ge n (65536 ^ (dd m).length) with h2 | h2
  · have := (dd_len _ _).2 h2
    omega
  · omega
theorem val_split (l : List Int) (i : Nat) (x : Int) (h : l[i]? = some x) : val l = val (l.take i) + 65536 ^ i * (x.toNat + 65536 * val (l.drop (i + 1))) := by
  obtain ⟨hi, hx⟩ := List.getElem?_eq_some_iff.1 h
  have h1 : l = l.take i ++ x :: l.drop (i + 1) := by
    rw [← hx, List.getElem_cons_drop, List.take_append_drop]
  have h2 : (l.take i).length = i := by rw [List.length_take]; omega
  rw [congrArg val h1, val_append, h2]
  rfl
theorem val_less (l k : List Int) (i : Nat) (x y : Int) (hl : Dg l) (hk : Dg k) (h : l[i]? = some x) (h' : k[i]? = some y) (hd : l.drop (i + 1) = k.drop (i + 1)) (hxy : x < y) : val l < val k := by
  rw [val_split l i x h, val_split k i y h', hd]
  have hx := hl x (List.mem_of_getElem? h)
  have hy := hk y (List.mem_of_getElem? h')
  have h1 := val_lt (l.take i) (fun z hz => hl z (List.mem_of_mem_take hz))
  have hi : i < l.length := (List.getElem?_eq_some_iff.1 h).1
  rw [List.length_take, Nat.min_eq_left (by omega)] at h1
  have h2 : x.toNat + 1 + 65536 * val (k.drop (i + 1)) ≤ y.toNat + 65536 * val (k.drop (i + 1)) := by omega
  have h3 := Nat.mul_le_mul_left (65536 ^ i) h2
  have h4 : 65536 ^ i * (x.toNat + 1 + 65536 * val (k.drop (i + 1))) = 65536 ^ i * (x.toNat + 65536 * val (k.drop (i + 1))) + 65536 ^ i := by
    rw [Nat.mul_add, Nat.mul_add, Nat.mul_add]; omega
  omega
theorem drop_step {l k : List Int} {i : Nat} {x : Int} (h : l[i]? = some x) (h' : k[i]? = some x) (hd : l.drop (i + 1) = k.drop (i + 1)) : l.drop i = k.drop i := by
  obtain ⟨hi, hx⟩ := List.getElem?_eq_some_iff.1 h
  obtain ⟨hj, hy⟩ := List.getElem?_eq_some_iff.1 h'
  rw [← List.getElem_cons_drop hi, ← List.getElem_cons_drop hj, hx, hy, hd]
theorem dd_inj {m n : Nat} (h : dd m = dd n) : m = n := by rw [← val_of_dd m, ← val_of_dd n, h]
end Go.Proofs.Yteibcklcegkbcaa
