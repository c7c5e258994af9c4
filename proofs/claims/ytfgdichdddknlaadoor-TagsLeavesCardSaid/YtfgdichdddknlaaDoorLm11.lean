/-
  Walks: right (are all of a list Ints that may be?). Conditions stand in each theorem.
-/
import Derived.Test.YtfgdichdddknlaaDoorBase4
import Derived.Test.YtfgdichdddknlaaDoorLm9
namespace Go.Proofs.YtfgdichdddknlaaDoor
open Go.RowKit Go.BigFrame

/-- The sign and the magnitude of a number. -/
def ng (z : Int) : Bool := decide (z < 0)
def ab (z : Int) : Nat := z.natAbs
theorem ng_nat (n : Nat) : ng (n : Int) = false := by unfold ng; simp
theorem ab_nat (n : Nat) : ab (n : Int) = n := by unfold ab; simp
theorem ng_neg (n : Nat) : ng (-(n : Int)) = decide (n ≠ 0) := by unfold ng; rw [Bool.eq_iff_iff]; simp; omega
theorem ab_neg (n : Nat) : ab (-(n : Int)) = n := by unfold ab; simp
theorem ng_zero_iff (z : Int) : ng z = true → ab z ≠ 0 := by unfold ng ab; simp; omega
/-- The number of a sign and a magnitude. -/
def zof (b : Bool) (n : Nat) : Int := if b then -(n : Int) else n
theorem zof_ng_ab (z : Int) : zof (ng z) (ab z) = z := by unfold zof ng ab; by_cases h : z < 0 <;> simp [h] <;> omega
theorem ng_zof (b : Bool) (n : Nat) : ng (zof b n) = (b && decide (n ≠ 0)) := by cases b <;> simp [zof, ng_nat, ng_neg]
theorem ab_zof (b : Bool) (n : Nat) : ab (zof b n) = n := by cases b <;> simp [zof, ab_nat, ab_neg]

theorem mag_zero {n : Nat} (hn : n < 2 ^ 256) : (dg n 0 == 0 && (dg n 1 == 0 && (dg n 2 == 0 && dg n 3 == 0))) = decide (n = 0) := by
  rw [Bool.eq_iff_iff]
  simp only [Bool.and_eq_true, beq_iff_eq, decide_eq_true_eq]
  exact dg_eq_zero hn

def SumPost (x y : Int) (w : World) (e : Ending) (w' : World) : Prop :=
  e = (if ab (x + y) < 2 ^ 256 then .returned (.agg #[.bool (ng (x + y)), .int .u64 (dg (ab (x + y)) 0), .int .u64 (dg (ab (x + y)) 1), .int .u64 (dg (ab (x + y)) 2), .int .u64 (dg (ab (x + y)) 3)]) else .panicked [{ v := .iface 27 (.int .i64 110), recovered := false }]) ∧ Below w.heap.size w w'
theorem sum_alike (x y : Int) (hs : ng x = ng y) : ab (x + y) = ab x + ab y ∧ zof (ng x) (ab x + ab y) = x + y := by
  unfold zof ng ab at *
  have h : (x < 0) ↔ (y < 0) := by simpa using hs
  by_cases h1 : x < 0
  · have h2 := h.1 h1
    simp [h1]; omega
  · have h2 : ¬ y < 0 := fun h3 => h1 (h.2 h3)
    simp [h1]; omega
theorem sum_apart (x y : Int) (hs : ng x ≠ ng y) : (ab y ≤ ab x → zof (ng x) (ab x - ab y) = x + y) ∧ (ab x < ab y → zof (ng y) (ab y - ab x) = x + y) ∧ (ab (x + y) ≤ ab x ∨ ab (x + y) ≤ ab y) := by
  unfold zof ng ab at *
  have h : ¬ ((x < 0) ↔ (y < 0)) := by simpa using hs
  by_cases h1 : x < 0
  · have h2 : ¬ y < 0 := fun h3 => h ⟨fun _ => h3, fun _ => h1⟩
    simp [h1, h2]; omega
  · have h2 : y < 0 := by
      rcases Int.lt_or_le y 0 with h3 | h3
      · exact h3
      · exact absurd ⟨fun h4 => absurd h4 h1, fun h4 => absurd h4 (by omega)⟩ h
    simp [h1, h2]; omega

end Go.Proofs.YtfgdichdddknlaaDoor

namespace Go.Proofs.YtfgdichdddknlaaDoor
open Go.RowKit Go.BigFrame

/-- A pair of a sign and a magnitude that may be. -/
def okP (p : Bool × Nat) : Prop := p.1 = true → p.2 ≠ 0
instance (p : Bool × Nat) : Decidable (okP p) := by unfold okP; infer_instance
/-- A row of Ints that is read. -/
def IntsAt (W : World) (A : Option Addr) (ps : List (Bool × Nat)) : Prop :=
  (∀ p ∈ ps, p.2 < 2 ^ 256) ∧ ps.length ≤ 28147497670246 ∧ (0 < ps.length → ∃ b off, A = some ⟨b, off, none⟩ ∧ ∀ j p, ps[j]? = some p → ∀ i, i < 5 → W.cell? ⟨b, off + j * 5 + i, none⟩ = (#[.bool (p.1), .int .u64 (dg (p.2) 0), .int .u64 (dg (p.2) 1), .int .u64 (dg (p.2) 2), .int .u64 (dg (p.2) 3)])[i]?)
theorem IntsAt.below {W W1 : World} {A : Option Addr} {ps : List (Bool × Nat)} (h : IntsAt W A ps) (hb : Below W.heap.size W W1) : IntsAt W1 A ps := by
  refine ⟨h.1, h.2.1, fun h0 => ?_⟩
  obtain ⟨b, off, e, hc⟩ := h.2.2 h0
  refine ⟨b, off, e, fun j p hj i hi => ?_⟩
  have h1 := hc j p hj i hi
  refine (hb.cell ?_).trans h1
  obtain ⟨v, hv⟩ : ∃ v, (#[.bool (p.1), .int .u64 (dg (p.2) 0), .int .u64 (dg (p.2) 1), .int .u64 (dg (p.2) 2), .int .u64 (dg (p.2) 3)] : Array Value)[i]? = some v := ⟨_, Array.getElem?_eq_getElem (by simpa using hi)⟩
  exact World.block_lt_of_cell? W ⟨b, off + j * 5 + i, none⟩ (h1.trans hv)

def errC (p : Bool × Nat) : Int := if okP p then 0 else 2
def RightPost (ps : List (Bool × Nat)) (w : World) (e : Ending) (w' : World) : Prop :=
  e = (if (∀ p ∈ ps, okP p) then .returned (.tuple #[]) else .panicked [{ v := .iface 27 (.int .i64 2), recovered := false }]) ∧ Below w.heap.size w w'
/-- A row just made. -/
theorem ints_one {W : World} {b : Nat} {t : TypeId} {f : Nat × Nat} {p : Bool × Nat} (hp : p.2 < 2 ^ 256) (h : W.heap[b]? = some (.cells #[.bool (p.1), .int .u64 (dg (p.2) 0), .int .u64 (dg (p.2) 1), .int .u64 (dg (p.2) 2), .int .u64 (dg (p.2) 3)] t f)) : IntsAt W (some ⟨b, 0, none⟩) [p] := by
  refine ⟨by simpa using hp, by simp, fun _ => ⟨b, 0, rfl, fun j q hj i hi => ?_⟩⟩
  cases j with
  | zero =>
    obtain rfl : p = q := by simpa using hj
    rw [cell_at h]
    simp
  | succ j => simp at hj
theorem ints_two {W : World} {b : Nat} {t : TypeId} {f : Nat × Nat} {p q : Bool × Nat} (hp : p.2 < 2 ^ 256) (hq : q.2 < 2 ^ 256)
    (h : W.heap[b]? = some (.cells #[.bool p.1, .int .u64 (dg p.2 0), .int .u64 (dg p.2 1), .int .u64 (dg p.2 2), .int .u64 (dg p.2 3), .bool q.1, .int .u64 (dg q.2 0), .int .u64 (dg q.2 1), .int .u64 (dg q.2 2), .int .u64 (dg q.2 3)] t f)) :
    IntsAt W (some ⟨b, 0, none⟩) [p, q] := by
  refine ⟨by intro r hr; simp at hr; rcases hr with rfl | rfl <;> assumption, by simp, fun _ => ⟨b, 0, rfl, fun j r hj i hi => ?_⟩⟩
  rw [cell_at h]
  obtain rfl | rfl | rfl | rfl | rfl : i = 0 ∨ i = 1 ∨ i = 2 ∨ i = 3 ∨ i = 4 := by omega
  all_goals
    cases j with
    | zero =>
      obtain rfl : p = r := by simpa using hj
      simp
    | succ j =>
      cases j with
      | zero =>
        obtain rfl : q = r := by simpa using hj
        simp
      | succ j => simp at hj
end Go.Proofs.YtfgdichdddknlaaDoor
