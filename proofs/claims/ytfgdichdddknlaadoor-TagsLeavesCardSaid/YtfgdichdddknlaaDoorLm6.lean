/-
  Walks: a range over slices.Backward; the place behind the highest bit. Conditions stand in each theorem.
-/
import Derived.LoopIn
import Derived.LoopNIn
import Derived.OwnWalkIn
import Derived.RangeFuncBound
import Derived.RangeFuncBox
import Derived.RangeFuncCalls
import Derived.RangeFuncLeaves
import Derived.RangeFuncNested
import Derived.Shelf.Abstract
import Derived.Shelf.RegionOpen
import Derived.TacticsInMore
import Derived.Test.YtfgdichdddknlaaDoorLm5
namespace Go.Proofs.YtfgdichdddknlaaDoor
open Go.RowKit Go.BigFrame Go.Shelf
attribute [local go_sem] Oper.semAt_some

/-- What has come when k rounds are over. -/
def upto {α : Type} (f : Nat → α) (k : Nat) : List α := (List.range k).map f
theorem upto_succ {α : Type} (f : Nat → α) (k : Nat) : upto f (k + 1) = upto f k ++ [f k] := by simp [upto, List.range_succ]
theorem upto_length {α : Type} (f : Nat → α) (k : Nat) : (upto f k).length = k := by simp [upto]

/-- The digits of a magnitude, the lowest ahead. -/
def digs (a : Nat) : List Int := [dg a 0, dg a 1, dg a 2, dg a 3]

/-- The number of the digits from i on. -/
theorem topN_digs (a i : Nat) (hz : ∀ j, i < j → j < 4 → dg a j = 0) (ha : a < 2 ^ 256) (hi : i < 4) (hne : dg a i ≠ 0) : topN a = 64 * i + topN (dg a i).toNat := by
  have hlt : a < 2 ^ (64 * (i + 1)) := by
    have key : ∀ m, i + 1 ≤ m → m ≤ 4 → a % 2 ^ (64 * m) = a % 2 ^ (64 * (i + 1)) := by
      intro m h1
      induction m with
      | zero => omega
      | succ m ih =>
        intro h2
        by_cases he : m + 1 = i + 1
        · rw [he]
        · have hm : dg a m = 0 := hz m (by omega) (by omega)
          have hm' : a / 2 ^ (64 * m) % 18446744073709551616 = 0 := by have := dg_toNat a m; rw [hm] at this; simpa using this.symm
          rw [pow_step, mod_step a, hm', Nat.mul_zero, Nat.zero_add]
          exact ih (by omega) (by omega)
    have h4 := key 4 (by omega) (by omega)
    rw [show 64 * 4 = 256 from rfl, Nat.mod_eq_of_lt ha] at h4
    rw [h4]
    exact Nat.mod_lt _ (Nat.two_pow_pos _)
  have hd : (dg a i).toNat = a / 2 ^ (64 * i) := by
    rw [dg_toNat, Nat.mod_eq_of_lt]
    rw [Nat.div_lt_iff_lt_mul (Nat.two_pow_pos _), Nat.mul_comm, ← pow_step]
    exact hlt
  rw [hd]
  refine topN_shift a (64 * i) ?_
  have hp := Nat.two_pow_pos (64 * i)
  have h0 : a / 2 ^ (64 * i) ≠ 0 := by
    intro h
    apply hne
    have := dg_nonneg a i
    omega
  rcases Nat.lt_or_ge a (2 ^ (64 * i)) with h | h
  · exact absurd (Nat.div_eq_of_lt h) h0
  · exact h

theorem len_dg (a i : Nat) (w : World) : Calls Tryd.prog 77 #[.int .u64 (dg a i)] w fun e w' => e = .returned (.int .i64 (topN (dg a i).toNat)) ∧ w = w' := by
  have h1 := dg_lt a i
  obtain ⟨y, hy⟩ := Int.eq_ofNat_of_zero_le (dg_nonneg a i)
  rw [hy] at h1 ⊢
  exact len_any y (by omega) w
theorem heap_put {W : World} {b D : Nat} {o : Obj} (h : W.heap[b]? = some o) (hne : b ≠ D) (o' : Obj) : (W.putObj D o').heap[b]? = some o := (World.putObj_heap_other hne).trans h
theorem below_put {w W : World} {D : Nat} (hB : Below w.heap.size w W) (hD : w.heap.size ≤ D) (o' : Obj) : Below w.heap.size w (W.putObj D o') :=
  hB.grown (grownBy_putObj' W D o') hB.size (fun k e => by cases e; exact hD)

end Go.Proofs.YtfgdichdddknlaaDoor
