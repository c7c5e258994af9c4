/-
  LimbQuos: the paths put together. Conditions stand in each theorem.
-/
import Derived.Test.YteibcklcegkbcaaQu1
namespace Go.Proofs.Yteibcklcegkbcaa
open Go.RowKit Go.BigFrame

theorem quos_any (p q : Bool × Nat) (hp : p.2 < 2 ^ 256) (hq : q.2 < 2 ^ 256) (w : World) :
    Calls Try.prog 3 #[.agg #[.bool (p.1), .int .u64 (dg (p.2) 0), .int .u64 (dg (p.2) 1), .int .u64 (dg (p.2) 2), .int .u64 (dg (p.2) 3)], .agg #[.bool (q.1), .int .u64 (dg (q.2) 0), .int .u64 (dg (q.2) 1), .int .u64 (dg (q.2) 2), .int .u64 (dg (q.2) 3)]] w fun e w' => e = .returned (.bool true) ∧ Below w.heap.size w w' := by
  by_cases h1 : okP p
  · by_cases h2 : okP q
    · have e1 := ng_okP h1
      have e2 := ng_okP h2
      have a1 : ab (zof p.1 p.2) = p.2 := ab_zof _ _
      have a2 : ab (zof q.1 q.2) = q.2 := ab_zof _ _
      generalize zof p.1 p.2 = x at e1 a1
      generalize zof q.1 q.2 = y at e2 a2
      rw [← e1, ← e2, ← a1, ← a2]
      rw [← a1] at hp
      rw [← a2] at hq
      have hg : ab ((Nat.gcd (ab x) (ab y) : Nat) : Int) < 2 ^ 256 := by
        rw [ab_nat]
        by_cases h0 : ab x = 0
        · rw [h0, Nat.gcd_zero_left]; exact hq
        · exact Nat.lt_of_le_of_lt (Nat.gcd_le_left _ (Nat.pos_of_ne_zero h0)) hp
      by_cases hy : y = 0
      · exact quos_zero x y ⟨hp⟩ ⟨hq⟩ ⟨hg⟩ ⟨hy⟩ w
      · refine quos_ok x y ⟨hp⟩ ⟨hq⟩ ⟨hg⟩ ⟨hy⟩ ⟨by rw [ab_tdiv]; exact Nat.lt_of_le_of_lt (Nat.div_le_self _ _) hp⟩ ⟨by rw [ab_tmod]; exact Nat.lt_of_le_of_lt (Nat.mod_le _ _) hp⟩ ⟨fun _ h0 h1 h2 h3 => hy ?_⟩ w
        have := (dg_eq_zero hq).1 ⟨h0, h1, h2, h3⟩
        unfold ab at this
        omega
    · exact quos_bad2 p q ⟨hp⟩ ⟨hq⟩ ⟨fun h => h2 h.2⟩ ⟨decide_eq_true h1⟩ ⟨decide_eq_false h2⟩ w
  · exact quos_bad1 p q ⟨hp⟩ ⟨hq⟩ ⟨fun h => h1 h.1⟩ ⟨decide_eq_false h1⟩ w
end Go.Proofs.Yteibcklcegkbcaa
