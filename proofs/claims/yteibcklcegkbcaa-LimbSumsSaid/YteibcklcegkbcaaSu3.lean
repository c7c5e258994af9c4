/-
  LimbSums: the paths put together. Conditions stand in each theorem.
-/
import Derived.Test.YteibcklcegkbcaaSu2
namespace Go.Proofs.Yteibcklcegkbcaa
open Go.RowKit Go.BigFrame

set_option maxRecDepth 100000 in
set_option maxHeartbeats 1000000 in
theorem sums_big (A : Option Addr) (c n : Nat) (hn : n ≤ maxLen) (h6 : ¬ n ≤ 6) (p q : Bool × Nat) (w : World) :
    Calls Try.prog 8 #[.slice A n c, .agg #[.bool (p.1), .int .u64 (dg (p.2) 0), .int .u64 (dg (p.2) 1), .int .u64 (dg (p.2) 2), .int .u64 (dg (p.2) 3)], .agg #[.bool (q.1), .int .u64 (dg (q.2) 0), .int .u64 (dg (q.2) 1), .int .u64 (dg (q.2) 2), .int .u64 (dg (q.2) 3)]] w fun e w' => e = .returned (.bool true) ∧ Below w.heap.size w w' := by
  have hl6 : decide ((n : Int) > 6) = true := by simp; omega
  have hn2 : n ≤ 9223372036854775807 := hn
  go_enter Try.func8, Try.ntmps8
  go_wp2_with fail
  refine (works_any _).mono ?_
  rintro e wz ⟨rfl, hb⟩
  have hF : Below w.heap.size w wz := by focus (repeat (first | (with_reducible exact Below.refl _ _) | (with_reducible assumption) | ((with_reducible refine Below.setCell ?_ ?_ _); rotate_left; (focus (first | omega | (simp; done) | (simp; omega)))) | ((with_reducible refine Below.alloc ?_ ?_ _); rotate_left; (focus (first | omega | (simp; done) | (simp; omega)))) | (with_reducible refine Below.drew ?_) | (refine below_on ?_ (by assumption))))
  clear hb
  go_wp2
  go_ret
  exact ⟨rfl, hF⟩
theorem sums_any (A : Option Addr) (c : Nat) (ps : List (Bool × Nat)) (p q : Bool × Nat) (hp : p.2 < 2 ^ 256) (hq : q.2 < 2 ^ 256) (w : World) (hI : IntsAt w A ps) :
    Calls Try.prog 8 #[.slice A ps.length c, .agg #[.bool (p.1), .int .u64 (dg (p.2) 0), .int .u64 (dg (p.2) 1), .int .u64 (dg (p.2) 2), .int .u64 (dg (p.2) 3)], .agg #[.bool (q.1), .int .u64 (dg (q.2) 0), .int .u64 (dg (q.2) 1), .int .u64 (dg (q.2) 2), .int .u64 (dg (q.2) 3)]] w fun e w' => e = .returned (.bool true) ∧ Below w.heap.size w w' := by
  by_cases h6 : ps.length ≤ 6
  · by_cases hok : ∀ r ∈ ps, okP r
    · obtain ⟨zs, rfl⟩ := prs_of hok
      have hall : okAll ((zs.map pr).take zs.length) = true := by
        rw [List.take_of_length_le (by simp)]
        exact (okAll_iff _).2 hok
      have hzs : ∀ z ∈ zs, ab z < 2 ^ 256 := fun z hz => hI.1 (pr z) (List.mem_map_of_mem hz)
      rw [List.length_map] at h6 ⊢
      by_cases h1 : okP p
      · have e1 := ng_okP h1
        have hx : ab (zof p.1 p.2) < 2 ^ 256 := by rw [ab_zof]; exact hp
        have hxn : ab (-zof p.1 p.2) < 2 ^ 256 := by
          rw [show ab (-zof p.1 p.2) = ab (zof p.1 p.2) by unfold ab; omega]; exact hx
        by_cases h2 : okP q
        · have e2 := ng_okP h2
          have h := sums_g3 w A c zs (zof p.1 p.2) (zof q.1 q.2) ⟨hx⟩ ⟨hxn⟩ ⟨by rw [ab_zof]; exact hq⟩ ⟨hI⟩ ⟨h6⟩ ⟨hall⟩ ⟨hzs⟩
          rw [e1, e2, ab_zof, ab_zof] at h
          exact h
        · have h := sums_g2 w A c zs (zof p.1 p.2) q ⟨hx⟩ ⟨hxn⟩ ⟨hq⟩ ⟨fun h => h2 h.2⟩ ⟨h2⟩ ⟨hI⟩ ⟨h6⟩ ⟨hall⟩ ⟨hzs⟩
          rw [e1, ab_zof] at h
          exact h
      · exact sums_g1 w A c zs p q ⟨hp⟩ ⟨hq⟩ ⟨fun h => h1 h.1⟩ ⟨h1⟩ ⟨hI⟩ ⟨h6⟩ ⟨hall⟩ ⟨hzs⟩
    · refine sums_bad w A c ps p q ⟨hok⟩ ⟨hI⟩ ⟨h6⟩ ⟨?_⟩
      rw [List.take_of_length_le (Nat.le_refl _)]
      cases h : okAll ps
      · rfl
      · exact absurd ((okAll_iff ps).1 h) hok
  · exact sums_big A c ps.length (Nat.le_trans hI.2.1 (by unfold maxLen; omega)) h6 p q w
end Go.Proofs.Yteibcklcegkbcaa
