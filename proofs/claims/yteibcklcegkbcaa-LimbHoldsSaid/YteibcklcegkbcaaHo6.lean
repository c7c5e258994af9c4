/-
  LimbHolds: all paths together. Conditions stand in each theorem.
-/
import Derived.Test.YteibcklcegkbcaaHo5
import Derived.Test.YteibcklcegkbcaaTp
namespace Go.Proofs.Yteibcklcegkbcaa
open Go.RowKit Go.BigFrame

theorem addE_or (zs : List Int) : addE zs = 0 ∨ addE zs = 110 := by
  unfold addE; split <;> simp
theorem mulE_or (zs : List Int) : mulE zs = 0 ∨ mulE zs = 110 := by
  unfold mulE; split <;> simp
theorem addRE_bd (ps : List (Bool × Nat)) : 0 ≤ addRE ps ∧ addRE ps ≤ 110 := by
  unfold addRE
  split
  · rcases addE_or (vals ps) with h | h <;> omega
  · omega
theorem mulRE_bd (ps : List (Bool × Nat)) : 0 ≤ mulRE ps ∧ mulRE ps ≤ 110 := by
  unfold mulRE
  split
  · rcases mulE_or (vals ps) with h | h <;> omega
  · omega
theorem addF_val : ∀ (l : List Int) (z v : Int), addF z l = some v → v = l.foldl (· + ·) z
  | [], z, v, h => by simpa [addF] using h.symm
  | y :: l, z, v, h => by
    rw [addF] at h
    split at h
    · exact addF_val l _ v h
    · cases h
theorem mulF_val : ∀ (l : List Int) (z v : Int), mulF z l = some v → v = l.foldl (· * ·) z
  | [], z, v, h => by simpa [mulF] using h.symm
  | y :: l, z, v, h => by
    rw [mulF] at h
    split at h
    · exact mulF_val l _ v h
    · cases h
theorem addF_bd : ∀ (l : List Int) (z v : Int), ab z < 2 ^ 256 → addF z l = some v → ab v < 2 ^ 256
  | [], z, v, hz, h => by
    obtain rfl : z = v := by simpa [addF] using h
    exact hz
  | y :: l, z, v, _, h => by
    rw [addF] at h
    split at h
    · rename_i h1; exact addF_bd l _ v h1 h
    · cases h
theorem mulF_bd : ∀ (l : List Int) (z v : Int), ab z < 2 ^ 256 → mulF z l = some v → ab v < 2 ^ 256
  | [], z, v, hz, h => by
    obtain rfl : z = v := by simpa [mulF] using h
    exact hz
  | y :: l, z, v, _, h => by
    rw [mulF] at h
    split at h
    · rename_i h1; exact mulF_bd l _ v h1 h
    · cases h
theorem addRV_bd (ps : List (Bool × Nat)) : ab (addRV ps) < 2 ^ 256 := by
  unfold addRV addV
  split
  · cases h : addF 0 (vals ps) with
    | none => exact (by decide : ab 0 < 2 ^ 256)
    | some v => exact addF_bd _ 0 v (by decide) h
  · decide
theorem mulRV_bd (ps : List (Bool × Nat)) : ab (mulRV ps) < 2 ^ 256 := by
  unfold mulRV mulV
  split
  · cases h : mulF 1 (vals ps) with
    | none => exact (by decide : ab 0 < 2 ^ 256)
    | some v => exact mulF_bd _ 1 v (by decide) h
  · decide
theorem addR_zero {ps : List (Bool × Nat)} (h : addRE ps = 0) : (∀ p ∈ ps, okP p) ∧ addRV ps = (vals ps).foldl (· + ·) 0 := by
  unfold addRE at h
  by_cases hk : ∀ p ∈ ps, okP p
  · rw [if_pos hk] at h
    refine ⟨hk, ?_⟩
    unfold addRV addV
    rw [if_pos hk]
    unfold addE at h
    cases he : addF 0 (vals ps) with
    | none => rw [he] at h; cases h
    | some v => exact addF_val _ 0 v he
  · rw [if_neg hk] at h; cases h
theorem mulR_zero {ps : List (Bool × Nat)} (h : mulRE ps = 0) : (∀ p ∈ ps, okP p) ∧ mulRV ps = (vals ps).foldl (· * ·) 1 := by
  unfold mulRE at h
  by_cases hk : ∀ p ∈ ps, okP p
  · rw [if_pos hk] at h
    refine ⟨hk, ?_⟩
    unfold mulRV mulV
    rw [if_pos hk]
    unfold mulE at h
    cases he : mulF 1 (vals ps) with
    | none => rw [he] at h; cases h
    | some v => exact mulF_val _ 1 v he
  · rw [if_neg hk] at h; cases h
theorem addR_comm (p q : Bool × Nat) (hp : p.2 < 2 ^ 256) (hq : q.2 < 2 ^ 256) : addRV [q, p] = addRV [p, q] ∧ addRE [q, p] = addRE [p, q] := by
  have hm : ab (zof p.1 p.2) < 2 ^ 256 := by rw [ab_zof]; exact hp
  have hn : ab (zof q.1 q.2) < 2 ^ 256 := by rw [ab_zof]; exact hq
  have hc := Int.add_comm (zof q.1 q.2) (zof p.1 p.2)
  unfold addRV addRE
  by_cases h : okP p ∧ okP q
  · have h1 : ∀ x ∈ [p, q], okP x := by simpa using h
    have h2 : ∀ x ∈ [q, p], okP x := by simpa using h.symm
    rw [if_pos h1, if_pos h2, if_pos h1, if_pos h2]
    show addV [zof q.1 q.2, zof p.1 p.2] = addV [zof p.1 p.2, zof q.1 q.2] ∧ addE [zof q.1 q.2, zof p.1 p.2] = addE [zof p.1 p.2, zof q.1 q.2]
    rcases add_cases _ (zof q.1 q.2) hm with ⟨a1, a2, a3⟩ | ⟨a1, a2, a3⟩ <;> rcases add_cases _ (zof p.1 p.2) hn with ⟨b1, b2, b3⟩ | ⟨b1, b2, b3⟩
    · exact ⟨by rw [a2, b2, hc], by rw [a3, b3]⟩
    · rw [hc] at b1; exact absurd a1 b1
    · rw [hc] at b1; exact absurd b1 a1
    · exact ⟨by rw [a2, b2], by rw [a3, b3]⟩
  · have h1 : ¬ ∀ x ∈ [p, q], okP x := by simpa using h
    have h2 : ¬ ∀ x ∈ [q, p], okP x := by
      intro h3
      exact h ⟨h3 p (by simp), h3 q (by simp)⟩
    rw [if_neg h1, if_neg h2, if_neg h1, if_neg h2]
    exact ⟨rfl, rfl⟩
theorem mul_three (p q r : Bool × Nat) (h1 : mulRE [p, q, r] = 0) (h2 : mulRE [r, q, p] = 0) : mulRV [r, q, p] = mulRV [p, q, r] := by
  rw [(mulR_zero h1).2, (mulR_zero h2).2]
  simp only [vals, List.map_cons, List.map_nil, List.foldl_cons, List.foldl_nil, Int.one_mul]
  rw [Int.mul_comm (zof r.1 r.2) (zof q.1 q.2), Int.mul_assoc, Int.mul_comm (zof r.1 r.2) (zof p.1 p.2), ← Int.mul_assoc, Int.mul_comm (zof q.1 q.2) (zof p.1 p.2)]
theorem dist_three (p q r : Bool × Nat) (h1 : addRE [p, q] = 0) (h2 : mulRE [pr (addRV [p, q]), r] = 0) (h3 : mulRE [p, r] = 0) (h4 : mulRE [q, r] = 0) (h5 : addRE [pr (mulRV [p, r]), pr (mulRV [q, r])] = 0) :
    addRV [pr (mulRV [p, r]), pr (mulRV [q, r])] = mulRV [pr (addRV [p, q]), r] := by
  rw [(addR_zero h5).2, (mulR_zero h2).2]
  simp only [vals, List.map_cons, List.map_nil, List.foldl_cons, List.foldl_nil, Int.one_mul, Int.zero_add, zof_ng_ab]
  rw [(mulR_zero h3).2, (mulR_zero h4).2, (addR_zero h1).2]
  simp only [vals, List.map_cons, List.map_nil, List.foldl_cons, List.foldl_nil, Int.one_mul, Int.zero_add]
  rw [Int.add_mul]
theorem holds_any (p q r : Bool × Nat) (hp : p.2 < 2 ^ 256) (hq : q.2 < 2 ^ 256) (hr : r.2 < 2 ^ 256) (w : World) :
    Calls Try.prog 10 #[.agg #[.bool (p.1), .int .u64 (dg (p.2) 0), .int .u64 (dg (p.2) 1), .int .u64 (dg (p.2) 2), .int .u64 (dg (p.2) 3)], .agg #[.bool (q.1), .int .u64 (dg (q.2) 0), .int .u64 (dg (q.2) 1), .int .u64 (dg (q.2) 2), .int .u64 (dg (q.2) 3)], .agg #[.bool (r.1), .int .u64 (dg (r.2) 0), .int .u64 (dg (r.2) 1), .int .u64 (dg (r.2) 2), .int .u64 (dg (r.2) 3)]] w fun e w' => e = .returned (.bool true) ∧ Below w.heap.size w w' := by
  obtain ⟨c1, c2⟩ := addR_comm p q hp hq
  have hG := mulRE_bd [p, q, r]
  have hH := mulRE_bd [r, q, p]
  have hX := addRE_bd [p, q]
  have hP := mulRE_bd [pr (addRV [p, q]), r]
  have hQ := mulRE_bd [p, r]
  have hR := mulRE_bd [q, r]
  have hS := addRE_bd [pr (mulRV [p, r]), pr (mulRV [q, r])]
  have h3 := mul_three p q r
  have h5 := dist_three p q r
  have bX := addRV_bd [p, q]
  have bQ := mulRV_bd [p, r]
  have bR := mulRV_bd [q, r]
  by_cases hk : okP p
  · have e1 := pr_of hk
    generalize zof p.1 p.2 = M at e1
    subst e1
    obtain ⟨t1, t2, t3⟩ := parse_text M hp
    by_cases k1 : mulRE [pr M, q, r] + mulRE [r, q, pr M] = 0
    · have g1 : mulRE [pr M, q, r] = 0 := by omega
      have g2 : mulRE [r, q, pr M] = 0 := by omega
      by_cases k2 : addRE [pr M, q] + mulRE [pr (addRV [pr M, q]), r] + mulRE [pr M, r] + mulRE [q, r] + addRE [pr (mulRV [pr M, r]), pr (mulRV [q, r])] = 0
      · have f1 : addRE [pr M, q] = 0 := by omega
        have f2 : mulRE [pr (addRV [pr M, q]), r] = 0 := by omega
        have f3 : mulRE [pr M, r] = 0 := by omega
        have f4 : mulRE [q, r] = 0 := by omega
        have f5 : addRE [pr (mulRV [pr M, r]), pr (mulRV [q, r])] = 0 := by omega
        exact holds_111 M q r ⟨hp⟩ ⟨hq⟩ ⟨hr⟩ _ _ _ _ _ ⟨bX⟩ ⟨bQ⟩ ⟨bR⟩ ⟨rfl, f1⟩ ⟨c1, c2.trans f1⟩ ⟨rfl, g1⟩ ⟨h3 g1 g2, g2⟩ ⟨rfl, f2⟩ ⟨rfl, f3⟩ ⟨rfl, f4⟩ ⟨h5 f1 f2 f3 f4 f5, f5⟩ _ ⟨rfl⟩ ⟨t1⟩ ⟨t2⟩ ⟨t3⟩ w
      · exact holds_101 M q r ⟨hp⟩ ⟨hq⟩ ⟨hr⟩ _ _ _ _ _ _ _ _ _ _ _ ⟨bX⟩ ⟨bQ⟩ ⟨bR⟩ ⟨rfl, rfl⟩ ⟨c1, c2⟩ ⟨rfl, g1⟩ ⟨h3 g1 g2, g2⟩ ⟨rfl, rfl⟩ ⟨rfl, rfl⟩ ⟨rfl, rfl⟩ ⟨rfl, rfl⟩ ⟨by simpa using k2⟩ ⟨hX⟩ ⟨hP⟩ ⟨hQ⟩ ⟨hR⟩ ⟨hS⟩ _ ⟨rfl⟩ ⟨t1⟩ ⟨t2⟩ ⟨t3⟩ w
    · by_cases k2 : addRE [pr M, q] + mulRE [pr (addRV [pr M, q]), r] + mulRE [pr M, r] + mulRE [q, r] + addRE [pr (mulRV [pr M, r]), pr (mulRV [q, r])] = 0
      · have f1 : addRE [pr M, q] = 0 := by omega
        have f2 : mulRE [pr (addRV [pr M, q]), r] = 0 := by omega
        have f3 : mulRE [pr M, r] = 0 := by omega
        have f4 : mulRE [q, r] = 0 := by omega
        have f5 : addRE [pr (mulRV [pr M, r]), pr (mulRV [q, r])] = 0 := by omega
        exact holds_011 M q r ⟨hp⟩ ⟨hq⟩ ⟨hr⟩ _ _ _ _ _ _ _ _ ⟨bX⟩ ⟨bQ⟩ ⟨bR⟩ ⟨rfl, f1⟩ ⟨c1, c2.trans f1⟩ ⟨rfl, rfl⟩ ⟨rfl, rfl⟩ ⟨rfl, f2⟩ ⟨rfl, f3⟩ ⟨rfl, f4⟩ ⟨h5 f1 f2 f3 f4 f5, f5⟩ ⟨by simpa using k1⟩ ⟨hG⟩ ⟨hH⟩ _ ⟨rfl⟩ ⟨t1⟩ ⟨t2⟩ ⟨t3⟩ w
      · exact holds_001 M q r ⟨hp⟩ ⟨hq⟩ ⟨hr⟩ _ _ _ _ _ _ _ _ _ _ _ _ _ _ ⟨bX⟩ ⟨bQ⟩ ⟨bR⟩ ⟨rfl, rfl⟩ ⟨c1, c2⟩ ⟨rfl, rfl⟩ ⟨rfl, rfl⟩ ⟨rfl, rfl⟩ ⟨rfl, rfl⟩ ⟨rfl, rfl⟩ ⟨rfl, rfl⟩ ⟨by simpa using k1⟩ ⟨hG⟩ ⟨hH⟩ ⟨by simpa using k2⟩ ⟨hX⟩ ⟨hP⟩ ⟨hQ⟩ ⟨hR⟩ ⟨hS⟩ _ ⟨rfl⟩ ⟨t1⟩ ⟨t2⟩ ⟨t3⟩ w
  · have n1 : addRE [p, q] = 2 := by
      unfold addRE
      rw [if_neg (fun h => hk (h p (by simp)))]
    have n2 : mulRE [p, q, r] = 2 := by
      unfold mulRE
      rw [if_neg (fun h => hk (h p (by simp)))]
    have k1 : ¬ mulRE [p, q, r] + mulRE [r, q, p] = 0 := by omega
    have k2 : ¬ addRE [p, q] + mulRE [pr (addRV [p, q]), r] + mulRE [p, r] + mulRE [q, r] + addRE [pr (mulRV [p, r]), pr (mulRV [q, r])] = 0 := by omega
    exact holds_000 p q r ⟨hp⟩ ⟨hq⟩ ⟨hr⟩ _ _ _ _ _ _ _ _ _ _ _ _ _ _ ⟨bX⟩ ⟨bQ⟩ ⟨bR⟩ ⟨rfl, rfl⟩ ⟨c1, c2⟩ ⟨rfl, rfl⟩ ⟨rfl, rfl⟩ ⟨rfl, rfl⟩ ⟨rfl, rfl⟩ ⟨rfl, rfl⟩ ⟨rfl, rfl⟩ ⟨by simpa using k1⟩ ⟨hG⟩ ⟨hH⟩ ⟨by simpa using k2⟩ ⟨hX⟩ ⟨hP⟩ ⟨hQ⟩ ⟨hR⟩ ⟨hS⟩ ⟨hk⟩ w
end Go.Proofs.Yteibcklcegkbcaa
