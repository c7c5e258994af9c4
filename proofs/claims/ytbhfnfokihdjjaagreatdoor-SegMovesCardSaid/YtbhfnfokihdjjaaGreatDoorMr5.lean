/-
  Plain: a point by its signs and magnitudes that may be is one by its numbers. Conditions stand in each theorem.
-/
import Derived.Test.YtbhfnfokihdjjaaGreatDoorWh1
namespace Go.Proofs.YtbhfnfokihdjjaaGreatDoor
open Go.RowKit Go.BigFrame
theorem okR_parts {p q : Bool × Nat} (h : okR p q) : ng (zof p.1 p.2) = p.1 ∧ ab (zof p.1 p.2) = p.2 ∧ q.1 = false ∧ 0 < q.2 ∧ Nat.gcd p.2 q.2 = 1 := by
  obtain ⟨h1, h2, h3, h4⟩ := h
  refine ⟨rat_ng h1, ab_zof _ _, ?_, ?_, h4⟩
  · obtain ⟨s, n⟩ := q
    cases s
    · rfl
    · simp [zof] at h3
      omega
  · obtain ⟨s, n⟩ := q
    cases s
    · simpa [zof] using h3
    · simp [zof] at h3
      omega
/-- The cells of such a point. -/
theorem pnt_value {p q r s : Bool × Nat} (h1 : okR p q) (h2 : okR r s) :
    (#[.bool p.1, .int .u64 (dg (p.2) 0), .int .u64 (dg (p.2) 1), .int .u64 (dg (p.2) 2), .int .u64 (dg (p.2) 3), .bool q.1, .int .u64 (dg (q.2) 0), .int .u64 (dg (q.2) 1), .int .u64 (dg (q.2) 2), .int .u64 (dg (q.2) 3), .bool r.1, .int .u64 (dg (r.2) 0), .int .u64 (dg (r.2) 1), .int .u64 (dg (r.2) 2), .int .u64 (dg (r.2) 3), .bool s.1, .int .u64 (dg (s.2) 0), .int .u64 (dg (s.2) 1), .int .u64 (dg (s.2) 2), .int .u64 (dg (s.2) 3)] : Array Value) = #[.bool (ng (zof p.1 p.2)), .int .u64 (dg (ab (zof p.1 p.2)) 0), .int .u64 (dg (ab (zof p.1 p.2)) 1), .int .u64 (dg (ab (zof p.1 p.2)) 2), .int .u64 (dg (ab (zof p.1 p.2)) 3), .bool false, .int .u64 (dg (q.2) 0), .int .u64 (dg (q.2) 1), .int .u64 (dg (q.2) 2), .int .u64 (dg (q.2) 3), .bool (ng (zof r.1 r.2)), .int .u64 (dg (ab (zof r.1 r.2)) 0), .int .u64 (dg (ab (zof r.1 r.2)) 1), .int .u64 (dg (ab (zof r.1 r.2)) 2), .int .u64 (dg (ab (zof r.1 r.2)) 3), .bool false, .int .u64 (dg (s.2) 0), .int .u64 (dg (s.2) 1), .int .u64 (dg (s.2) 2), .int .u64 (dg (s.2) 3)] := by
  obtain ⟨a1, a2, a3, _, _⟩ := okR_parts h1
  obtain ⟨b1, b2, b3, _, _⟩ := okR_parts h2
  rw [a1, a2, a3, b1, b2, b3]
theorem pt_of {p q r s : Bool × Nat} (hp : p.2 < 2 ^ 256) (hq : q.2 < 2 ^ 256) (hr : r.2 < 2 ^ 256) (hs : s.2 < 2 ^ 256) (h1 : okR p q) (h2 : okR r s) (f1 : fitsB p.2 q.2 = true) (f2 : fitsB r.2 s.2 = true) :
    Pt (zof p.1 p.2) q.2 (zof r.1 r.2) s.2 := by
  obtain ⟨_, a2, _, a4, a5⟩ := okR_parts h1
  obtain ⟨_, b2, _, b4, b5⟩ := okR_parts h2
  obtain ⟨c1, c2⟩ := (fits_iff hp hq).1 f1
  obtain ⟨d1, d2⟩ := (fits_iff hr hs).1 f2
  refine ⟨⟨a4, by rw [a2]; exact a5, by rw [a2]; exact c1, ?_⟩, ⟨b4, by rw [b2]; exact b5, by rw [b2]; exact d1, ?_⟩, c2, d2⟩
  · exact lt_pow_of c2 (by decide)
  · exact lt_pow_of d2 (by decide)
/-- May a point by signs and magnitudes be? -/
def okPt (p q r s : Bool × Nat) : Prop := okR p q ∧ okR r s ∧ fitsB p.2 q.2 = true ∧ fitsB r.2 s.2 = true
theorem pright_p (p q r s : Bool × Nat) (hp : p.2 < 2 ^ 256) (hq : q.2 < 2 ^ 256) (hr : r.2 < 2 ^ 256) (hs : s.2 < 2 ^ 256) (o : Bool) (ho : o = true ↔ okPt p q r s) (w : World) :
    Calls Tryz.prog 49 #[.agg #[.bool p.1, .int .u64 (dg (p.2) 0), .int .u64 (dg (p.2) 1), .int .u64 (dg (p.2) 2), .int .u64 (dg (p.2) 3), .bool q.1, .int .u64 (dg (q.2) 0), .int .u64 (dg (q.2) 1), .int .u64 (dg (q.2) 2), .int .u64 (dg (q.2) 3), .bool r.1, .int .u64 (dg (r.2) 0), .int .u64 (dg (r.2) 1), .int .u64 (dg (r.2) 2), .int .u64 (dg (r.2) 3), .bool s.1, .int .u64 (dg (s.2) 0), .int .u64 (dg (s.2) 1), .int .u64 (dg (s.2) 2), .int .u64 (dg (s.2) 3)]] w fun e w' => e = .returned (.int .i64 (if o then 0 else 2)) ∧ Below w.heap.size w w' := by
  obtain ⟨b, hb⟩ : ∃ b : Bool, b = true ↔ okR p q := ⟨@decide (okR p q) (Classical.propDecidable _), by simp⟩
  obtain ⟨c, hc⟩ : ∃ c : Bool, c = true ↔ okR r s := ⟨@decide (okR r s) (Classical.propDecidable _), by simp⟩
  have h := pright_any p q r s hp hq hr hs b c hb hc w
  have e : (b && (c && (fitsB p.2 q.2 && fitsB r.2 s.2))) = o := by
    rw [Bool.eq_iff_iff, ho]
    simp only [Bool.and_eq_true, hb, hc, okPt]
  rw [e] at h
  exact h
end Go.Proofs.YtbhfnfokihdjjaaGreatDoor
