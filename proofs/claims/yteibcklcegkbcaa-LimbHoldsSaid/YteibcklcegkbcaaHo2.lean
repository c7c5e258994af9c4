/-
  divides, all paths together; sums and products of any Ints. Conditions stand in each theorem.
-/
import Derived.Test.YteibcklcegkbcaaHo1
namespace Go.Proofs.Yteibcklcegkbcaa
open Go.RowKit Go.BigFrame

def vals (ps : List (Bool × Nat)) : List Int := ps.map fun p => zof p.1 p.2
theorem vals_of {ps : List (Bool × Nat)} (h : ∀ p ∈ ps, okP p) : ps = (vals ps).map pr := by
  unfold vals
  rw [List.map_map]
  exact (List.map_id ps).symm.trans (List.map_congr_left fun p hp => pr_of (h p hp))
theorem vals_pr (zs : List Int) : vals (zs.map pr) = zs := by
  unfold vals
  rw [List.map_map]
  exact (List.map_congr_left fun z _ => zof_ng_ab z).trans (List.map_id zs)
def addRV (ps : List (Bool × Nat)) : Int := if ∀ p ∈ ps, okP p then addV (vals ps) else 0
def addRE (ps : List (Bool × Nat)) : Int := if ∀ p ∈ ps, okP p then addE (vals ps) else 2
def mulRV (ps : List (Bool × Nat)) : Int := if ∀ p ∈ ps, okP p then mulV (vals ps) else 0
def mulRE (ps : List (Bool × Nat)) : Int := if ∀ p ∈ ps, okP p then mulE (vals ps) else 2
theorem add_r (A : Option Addr) (c : Nat) (ps : List (Bool × Nat)) (v n : Int) (w : World) (hI : IntsAt w A ps) (hv : addRV ps = v) (hn : addRE ps = n) :
    Calls Try.prog 27 #[.slice A ps.length c] w fun e w' => e = .returned (.tuple #[.agg #[.bool (ng (v)), .int .u64 (dg (ab (v)) 0), .int .u64 (dg (ab (v)) 1), .int .u64 (dg (ab (v)) 2), .int .u64 (dg (ab (v)) 3)], .int .i64 n]) ∧ Below w.heap.size w w' := by
  subst hv hn
  unfold addRV addRE
  by_cases h : ∀ p ∈ ps, okP p
  · rw [if_pos h, if_pos h]
    have e := vals_of h
    have hl : (vals ps).length = ps.length := by unfold vals; simp
    rw [← hl]
    exact add_ok A c (vals ps) w (e ▸ hI)
  · rw [if_neg h, if_neg h]
    exact add_bad A c ps w hI h
theorem mul_r (A : Option Addr) (c : Nat) (ps : List (Bool × Nat)) (v n : Int) (w : World) (hI : IntsAt w A ps) (hv : mulRV ps = v) (hn : mulRE ps = n) :
    Calls Try.prog 28 #[.slice A ps.length c] w fun e w' => e = .returned (.tuple #[.agg #[.bool (ng (v)), .int .u64 (dg (ab (v)) 0), .int .u64 (dg (ab (v)) 1), .int .u64 (dg (ab (v)) 2), .int .u64 (dg (ab (v)) 3)], .int .i64 n]) ∧ Below w.heap.size w w' := by
  subst hv hn
  unfold mulRV mulRE
  by_cases h : ∀ p ∈ ps, okP p
  · rw [if_pos h, if_pos h]
    have e := vals_of h
    have hl : (vals ps).length = ps.length := by unfold vals; simp
    rw [← hl]
    exact mul_ok A c (vals ps) w (e ▸ hI)
  · rw [if_neg h, if_neg h]
    exact mul_bad A c ps w hI h
theorem ints_three {W : World} {b : Nat} {t : TypeId} {f : Nat × Nat} {p q r : Bool × Nat} (hp : p.2 < 2 ^ 256) (hq : q.2 < 2 ^ 256) (hr : r.2 < 2 ^ 256)
    (h : W.heap[b]? = some (.cells #[.bool p.1, .int .u64 (dg p.2 0), .int .u64 (dg p.2 1), .int .u64 (dg p.2 2), .int .u64 (dg p.2 3), .bool q.1, .int .u64 (dg q.2 0), .int .u64 (dg q.2 1), .int .u64 (dg q.2 2), .int .u64 (dg q.2 3), .bool r.1, .int .u64 (dg r.2 0), .int .u64 (dg r.2 1), .int .u64 (dg r.2 2), .int .u64 (dg r.2 3)] t f)) :
    IntsAt W (some ⟨b, 0, none⟩) [p, q, r] := by
  refine ⟨by intro s hs; simp at hs; rcases hs with rfl | rfl | rfl <;> assumption, by simp, fun _ => ⟨b, 0, rfl, fun j s hj i hi => ?_⟩⟩
  rw [cell_at h]
  obtain rfl | rfl | rfl | rfl | rfl : i = 0 ∨ i = 1 ∨ i = 2 ∨ i = 3 ∨ i = 4 := by omega
  all_goals
    cases j with
    | zero =>
      obtain rfl : p = s := by simpa using hj
      simp
    | succ j =>
      cases j with
      | zero =>
        obtain rfl : q = s := by simpa using hj
        simp
      | succ j =>
        cases j with
        | zero =>
          obtain rfl : r = s := by simpa using hj
          simp
        | succ j => simp at hj
theorem text_no (p : Bool × Nat) (h : ¬ okP p) (w : World) :
    Calls Try.prog 20 #[.agg #[.bool (p.1), .int .u64 (dg (p.2) 0), .int .u64 (dg (p.2) 1), .int .u64 (dg (p.2) 2), .int .u64 (dg (p.2) 3)]] w fun e w' => e = .returned (.tuple #[.string ⟨#[]⟩, .int .i64 2]) ∧ Below w.heap.size w w' := by
  obtain ⟨s, n⟩ := p
  obtain ⟨rfl, rfl⟩ : s = true ∧ n = 0 := by simpa [okP] using h
  exact text_bad w
theorem great_facts (m v : Int) (hm : ab m < 2 ^ 256) (hv : ab v < 2 ^ 256) (h0 : 0 < Nat.gcd (ab m) (ab v)) :
    ng ((Nat.gcd (ab m) (ab v) : Nat) : Int) = false ∧ (dg (ab ((Nat.gcd (ab m) (ab v) : Nat) : Int)) 0 = 0 → dg (ab ((Nat.gcd (ab m) (ab v) : Nat) : Int)) 1 = 0 → dg (ab ((Nat.gcd (ab m) (ab v) : Nat) : Int)) 2 = 0 → ¬ dg (ab ((Nat.gcd (ab m) (ab v) : Nat) : Int)) 3 = 0) ∧
    ab ((Nat.gcd (ab m) (ab v) : Nat) : Int) < 2 ^ 256 ∧ ((Nat.gcd (ab m) (ab v) : Nat) : Int) ≠ 0 ∧ m.tmod ((Nat.gcd (ab m) (ab v) : Nat) : Int) = 0 ∧ v.tmod ((Nat.gcd (ab m) (ab v) : Nat) : Int) = 0 ∧
    ab (m.tdiv ((Nat.gcd (ab m) (ab v) : Nat) : Int)) < 2 ^ 256 ∧ ab (v.tdiv ((Nat.gcd (ab m) (ab v) : Nat) : Int)) < 2 ^ 256 ∧
    ((Nat.gcd (ab (m.tdiv ((Nat.gcd (ab m) (ab v) : Nat) : Int))) (ab (v.tdiv ((Nat.gcd (ab m) (ab v) : Nat) : Int))) : Nat) : Int) = 1 := by
  have hgm : Nat.gcd (ab m) (ab v) ∣ ab m := Nat.gcd_dvd_left _ _
  have hgv : Nat.gcd (ab m) (ab v) ∣ ab v := Nat.gcd_dvd_right _ _
  have hone : Nat.gcd (ab m / Nat.gcd (ab m) (ab v)) (ab v / Nat.gcd (ab m) (ab v)) = 1 := Nat.coprime_div_gcd_div_gcd h0
  rw [ab_tdiv, ab_tdiv, ng_nat, ab_nat]
  have hlt : Nat.gcd (ab m) (ab v) < 2 ^ 256 := by
    rcases Nat.eq_zero_or_pos (ab m) with h | h
    · rw [h, Nat.gcd_zero_left]; exact hv
    · exact Nat.lt_of_le_of_lt (Nat.le_of_dvd h hgm) hm
  generalize Nat.gcd (ab m) (ab v) = g at *
  refine ⟨rfl, ?_, hlt, by omega, ?_, ?_, Nat.lt_of_le_of_lt (Nat.div_le_self _ _) hm, Nat.lt_of_le_of_lt (Nat.div_le_self _ _) hv, ?_⟩
  · intro z0 z1 z2 z3
    have := (dg_eq_zero hlt).1 ⟨z0, z1, z2, z3⟩
    omega
  · exact Int.tmod_eq_zero_of_dvd (Int.ofNat_dvd_left.2 hgm)
  · exact Int.tmod_eq_zero_of_dvd (Int.ofNat_dvd_left.2 hgv)
  · rw [hone]; rfl
theorem sgn_neg {z : Int} (h : z < 0) : sgn z = -1 := by
  unfold sgn
  rw [if_neg (by omega), if_pos h]
theorem divides_ok (m n : Int) (hm : ab m < 2 ^ 256) (hn : ab n < 2 ^ 256) (w : World) :
    Calls Try.prog 42 #[.agg #[.bool (ng (m)), .int .u64 (dg (ab (m)) 0), .int .u64 (dg (ab (m)) 1), .int .u64 (dg (ab (m)) 2), .int .u64 (dg (ab (m)) 3)], .agg #[.bool (ng (n)), .int .u64 (dg (ab (n)) 0), .int .u64 (dg (ab (n)) 1), .int .u64 (dg (ab (n)) 2), .int .u64 (dg (ab (n)) 3)]] w fun e w' => e = .returned (.bool true) ∧ Below w.heap.size w w' := by
  by_cases h0 : n = 0
  · by_cases h1 : m = 0
    · exact divides_c m n ⟨hm⟩ ⟨hn⟩ ⟨h0⟩ ⟨by rw [h0, h1]; rfl⟩ w
    · have hpos : 0 < Nat.gcd (ab m) (ab n) := Nat.gcd_pos_of_pos_left _ (by unfold ab; omega)
      obtain ⟨f1, f0, f2, f3, f4, f5, f6, f7, f8⟩ := great_facts m n hm hn hpos
      exact divides_b m n _ _ _ ⟨hm⟩ ⟨hn⟩ ⟨h0⟩ ⟨hn⟩ ⟨rfl⟩ ⟨f1⟩ ⟨f0⟩ ⟨f2⟩ ⟨f3⟩ ⟨rfl⟩ ⟨f4⟩ ⟨rfl⟩ ⟨f5⟩ ⟨f6⟩ ⟨f7⟩ ⟨f8⟩ w
  · have hn0 : 0 < ab n := by unfold ab; omega
    have hv : ab ((ab n : Nat) : Int) = ab n := ab_nat _
    have hv2 : ab ((ab n : Nat) : Int) < 2 ^ 256 := by rw [hv]; exact hn
    have hpos : 0 < Nat.gcd (ab m) (ab ((ab n : Nat) : Int)) := Nat.gcd_pos_of_pos_right _ (by rw [hv]; exact hn0)
    obtain ⟨f1, f0, f2, f3, f4, f5, f6, f7, f8⟩ := great_facts m ((ab n : Nat) : Int) hm hv2 hpos
    have hD : ab (m.tdiv n) < 2 ^ 256 := by rw [ab_tdiv]; exact Nat.lt_of_le_of_lt (Nat.div_le_self _ _) hm
    have hR : ab (m.tmod n) < 2 ^ 256 := by rw [ab_tmod]; exact Nat.lt_of_le_of_lt (Nat.mod_le _ _) hm
    have hP : ab (m.tdiv n * n) < 2 ^ 256 := by
      rw [ab_mul, ab_tdiv]
      exact Nat.lt_of_le_of_lt (Nat.div_mul_le_self _ _) hm
    have hsum : m.tdiv n * n + m.tmod n = m := by rw [Int.mul_comm]; exact Int.mul_tdiv_add_tmod m n
    have hM : mulV [m.tdiv n, n] = m.tdiv n * n ∧ mulE [m.tdiv n, n] = 0 := by
      rcases mul_cases (m.tdiv n) n hD with ⟨_, h2, h3⟩ | ⟨h1, _⟩
      · exact ⟨h2, h3⟩
      · exact absurd hP h1
    have hA : addV [m.tdiv n * n, m.tmod n] = m ∧ addE [m.tdiv n * n, m.tmod n] = 0 := by
      rcases add_cases (m.tdiv n * n) (m.tmod n) hP with ⟨_, h2, h3⟩ | ⟨h1, _⟩
      · exact ⟨h2.trans hsum, h3⟩
      · rw [hsum] at h1; exact absurd hm h1
    have hC : sgn (((ab (m.tmod n) : Nat) : Int) - ((ab n : Nat) : Int)) = -1 := by
      apply sgn_neg
      have : ab (m.tmod n) < ab n := by rw [ab_tmod]; exact Nat.mod_lt _ hn0
      omega
    exact divides_a m n _ _ _ _ _ ⟨hm⟩ ⟨hn⟩ ⟨h0⟩ ⟨rfl⟩ ⟨rfl⟩ ⟨hD⟩ ⟨hR⟩ ⟨hP⟩ ⟨hM.1⟩ ⟨hM.2⟩ ⟨hA.1⟩ ⟨hA.2⟩ ⟨by rw [ab_nat]; exact hR⟩ ⟨hv2⟩ ⟨hC⟩ ⟨hv2⟩ ⟨rfl⟩ ⟨f1⟩ ⟨f0⟩ ⟨f2⟩ ⟨f3⟩ ⟨rfl⟩ ⟨f4⟩ ⟨rfl⟩ ⟨f5⟩ ⟨f6⟩ ⟨f7⟩ ⟨f8⟩ w
theorem divides_any (p q : Bool × Nat) (hp : p.2 < 2 ^ 256) (hq : q.2 < 2 ^ 256) (w : World) :
    Calls Try.prog 42 #[.agg #[.bool (p.1), .int .u64 (dg (p.2) 0), .int .u64 (dg (p.2) 1), .int .u64 (dg (p.2) 2), .int .u64 (dg (p.2) 3)], .agg #[.bool (q.1), .int .u64 (dg (q.2) 0), .int .u64 (dg (q.2) 1), .int .u64 (dg (q.2) 2), .int .u64 (dg (q.2) 3)]] w fun e w' => e = .returned (.bool true) ∧ Below w.heap.size w w' := by
  by_cases h : okP p ∧ okP q
  · have e1 := pr_of h.1
    have e2 := pr_of h.2
    generalize zof p.1 p.2 = m at e1
    generalize zof q.1 q.2 = n at e2
    subst e1 e2
    exact divides_ok m n hp hq w
  · exact divides_d p q ⟨hp⟩ ⟨hq⟩ ⟨h⟩ w
end Go.Proofs.Yteibcklcegkbcaa
