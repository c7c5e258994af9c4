/-
  The law SegHolds: any segment, any node, any point. Conditions stand in each theorem.
-/
import Derived.Test.YtbhfnfokihdjjaaGreatDoorHl1
import Derived.Test.YtbhfnfokihdjjaaGreatDoorPi2
import Derived.Test.YtbhfnfokihdjjaaGreatDoorHl2
import Derived.Test.YtbhfnfokihdjjaaGreatDoorMr5
import Derived.Test.YtbhfnfokihdjjaaGreatDoorSd1
namespace Go.Proofs.YtbhfnfokihdjjaaGreatDoor
open Go.RowKit Go.BigFrame

/-- What Turn tells. -/
def turnV (ax ay bx by_ cx cy : Int) : Int := if nodeB ax ay && (nodeB bx by_ && nodeB cx cy) then turnZ ax ay bx by_ cx cy else 0
def turnE (ax ay bx by_ cx cy : Int) : Int := if nodeB ax ay && (nodeB bx by_ && nodeB cx cy) then 0 else 2
theorem and_round (a b c : Bool) : (b && (c && a)) = (a && (b && c)) := by cases a <;> cases b <;> cases c <;> rfl
theorem and_other (a b c : Bool) : (b && (a && c)) = (a && (b && c)) := by cases a <;> cases b <;> cases c <;> rfl
theorem turnV_round (ax ay bx by_ cx cy : Int) : turnV bx by_ cx cy ax ay = turnV ax ay bx by_ cx cy := by
  unfold turnV
  rw [and_round, turn_round]
theorem turnE_round (ax ay bx by_ cx cy : Int) : turnE bx by_ cx cy ax ay = turnE ax ay bx by_ cx cy := by
  unfold turnE
  rw [and_round]
theorem turnE_other (ax ay bx by_ cx cy : Int) : turnE bx by_ ax ay cx cy = turnE ax ay bx by_ cx cy := by
  unfold turnE
  rw [and_other]
theorem turnV_other (ax ay bx by_ cx cy : Int) : wrap64 (-turnV bx by_ ax ay cx cy) = turnV ax ay bx by_ cx cy := by
  unfold turnV
  rw [and_other]
  have h := turn_range ax ay bx by_ cx cy
  split
  · rw [turn_other, Int.neg_neg]
    unfold wrap64
    omega
  · unfold wrap64
    omega
theorem turn_v (ax ay bx by_ cx cy : Int) (w : World) :
    Calls Tryz.prog 10 #[.agg #[.int .i64 ax, .int .i64 ay], .agg #[.int .i64 bx, .int .i64 by_], .agg #[.int .i64 cx, .int .i64 cy]] w fun e w' => e = .returned (.tuple #[.int .i64 (turnV ax ay bx by_ cx cy), .int .i64 (turnE ax ay bx by_ cx cy)]) ∧ Below w.heap.size w w' := turn_any ax ay bx by_ cx cy w
/-- On, Side: of a segment that may be and any point. -/
theorem on_side_any (ax ay bx by_ : Int) (hg : segB ax ay bx by_ = true) (p q r s : Bool × Nat) (hp : p.2 < 2 ^ 256) (hq : q.2 < 2 ^ 256) (hr : r.2 < 2 ^ 256) (hs : s.2 < 2 ^ 256) :
    ∃ (o : Bool) (ep sd : Int), (o = true → sd = 0) ∧
    (∀ w, Vars w → Calls Tryz.prog 20 #[.agg #[.int .i64 ax, .int .i64 ay, .int .i64 bx, .int .i64 by_], .agg #[.bool p.1, .int .u64 (dg (p.2) 0), .int .u64 (dg (p.2) 1), .int .u64 (dg (p.2) 2), .int .u64 (dg (p.2) 3), .bool q.1, .int .u64 (dg (q.2) 0), .int .u64 (dg (q.2) 1), .int .u64 (dg (q.2) 2), .int .u64 (dg (q.2) 3), .bool r.1, .int .u64 (dg (r.2) 0), .int .u64 (dg (r.2) 1), .int .u64 (dg (r.2) 2), .int .u64 (dg (r.2) 3), .bool s.1, .int .u64 (dg (s.2) 0), .int .u64 (dg (s.2) 1), .int .u64 (dg (s.2) 2), .int .u64 (dg (s.2) 3)]] w fun e w' => e = .returned (.tuple #[.bool o, .int .i64 ep]) ∧ Below w.heap.size w w') ∧
    (∀ w, Vars w → Calls Tryz.prog 20 #[.agg #[.int .i64 bx, .int .i64 by_, .int .i64 ax, .int .i64 ay], .agg #[.bool p.1, .int .u64 (dg (p.2) 0), .int .u64 (dg (p.2) 1), .int .u64 (dg (p.2) 2), .int .u64 (dg (p.2) 3), .bool q.1, .int .u64 (dg (q.2) 0), .int .u64 (dg (q.2) 1), .int .u64 (dg (q.2) 2), .int .u64 (dg (q.2) 3), .bool r.1, .int .u64 (dg (r.2) 0), .int .u64 (dg (r.2) 1), .int .u64 (dg (r.2) 2), .int .u64 (dg (r.2) 3), .bool s.1, .int .u64 (dg (s.2) 0), .int .u64 (dg (s.2) 1), .int .u64 (dg (s.2) 2), .int .u64 (dg (s.2) 3)]] w fun e w' => e = .returned (.tuple #[.bool o, .int .i64 ep]) ∧ Below w.heap.size w w') ∧
    (∀ w, Vars w → Calls Tryz.prog 19 #[.agg #[.int .i64 ax, .int .i64 ay, .int .i64 bx, .int .i64 by_], .agg #[.bool p.1, .int .u64 (dg (p.2) 0), .int .u64 (dg (p.2) 1), .int .u64 (dg (p.2) 2), .int .u64 (dg (p.2) 3), .bool q.1, .int .u64 (dg (q.2) 0), .int .u64 (dg (q.2) 1), .int .u64 (dg (q.2) 2), .int .u64 (dg (q.2) 3), .bool r.1, .int .u64 (dg (r.2) 0), .int .u64 (dg (r.2) 1), .int .u64 (dg (r.2) 2), .int .u64 (dg (r.2) 3), .bool s.1, .int .u64 (dg (s.2) 0), .int .u64 (dg (s.2) 1), .int .u64 (dg (s.2) 2), .int .u64 (dg (s.2) 3)]] w fun e w' => e = .returned (.tuple #[.int .i64 sd, .int .i64 ep]) ∧ Below w.heap.size w w') := by
  have hg2 : segB bx by_ ax ay = true := by rw [segB_back]; exact hg
  by_cases ho : okPt p q r s
  · have hpt := pt_of hp hq hr hs ho.1 ho.2.1 ho.2.2.1 ho.2.2.2
    rw [pnt_value ho.1 ho.2.1]
    generalize zof p.1 p.2 = X at *
    generalize q.2 = D at *
    generalize zof r.1 r.2 = Y at *
    generalize s.2 = E at *
    refine ⟨onB ax ay bx by_ X D Y E, 0, sideV ax ay (bx - ax) (by_ - ay) X D Y E, on_side, fun w hw => seg_on_ok ax ay bx by_ X D Y E hg hpt w hw, fun w hw => ?_, fun w hw => seg_side_ok ax ay bx by_ X D Y E hg hpt w hw⟩
    have h := seg_on_ok bx by_ ax ay X D Y E hg2 hpt w hw
    rw [on_back] at h
    exact h
  · have hr0 := pright_p p q r s hp hq hr hs false ⟨fun h => (by cases h), fun h => absurd h ho⟩
    have hs1 := side_bad2 ax ay bx by_ _ rfl hg ⟨hr0⟩
    have hs2 := side_bad2 bx by_ ax ay _ rfl hg2 ⟨hr0⟩
    exact ⟨false, 2, 0, fun h => (by cases h), fun w _ => on_bad ax ay bx by_ _ rfl ⟨hs1⟩ w, fun w _ => on_bad bx by_ ax ay _ rfl ⟨hs2⟩ w, fun w _ => hs1 w⟩
theorem back_turned {ax ay bx by_ : Int} (_hg : segB ax ay bx by_ = true) (h : backB ax ay bx by_ = true) : backB bx by_ ax ay = false := by
  unfold backB at h ⊢
  simp at h ⊢
  grind
theorem same_self {ax ay bx by_ l0 l1 l2 l3 : Int} (hg : segB ax ay bx by_ = true) (hl : (if backB ax ay bx by_ then [bx, by_, ax, ay] else [ax, ay, bx, by_]) = [l0, l1, l2, l3]) (w : World) :
    Calls Tryz.prog 33 #[.agg #[.int .i64 l0, .int .i64 l1, .int .i64 l2, .int .i64 l3], .agg #[.int .i64 ax, .int .i64 ay, .int .i64 bx, .int .i64 by_]] w fun e w' => e = .returned (.bool true) ∧ Below w.heap.size w w' := by
  have h := same_any l0 l1 l2 l3 ax ay bx by_ w
  have e : (segB l0 l1 l2 l3 && (segB ax ay bx by_ && ((laidI l0 l1 l2 l3 0 == laidI ax ay bx by_ 0 && laidI l0 l1 l2 l3 1 == laidI ax ay bx by_ 1) && (laidI l0 l1 l2 l3 2 == laidI ax ay bx by_ 2 && laidI l0 l1 l2 l3 3 == laidI ax ay bx by_ 3)))) = true := by
    cases hb : backB ax ay bx by_ with
    | true =>
      rw [hb] at hl
      simp at hl
      obtain ⟨rfl, rfl, rfl, rfl⟩ := hl
      have hb2 := back_turned hg hb
      have hg2 : segB bx by_ ax ay = true := by rw [segB_back]; exact hg
      unfold laidI
      rw [hg, hg2, hb, hb2]
      simp
    | false =>
      rw [hb] at hl
      simp at hl
      obtain ⟨rfl, rfl, rfl, rfl⟩ := hl
      rw [hg]
      simp
  rw [e] at h
  exact h
theorem holds_any (ax ay bx by_ cx cy : Int) (p q r s : Bool × Nat) (hp : p.2 < 2 ^ 256) (hq : q.2 < 2 ^ 256) (hr : r.2 < 2 ^ 256) (hs : s.2 < 2 ^ 256) (w : World) (hV : Vars w) :
    Calls Tryz.prog 8 #[.agg #[.int .i64 ax, .int .i64 ay, .int .i64 bx, .int .i64 by_], .agg #[.int .i64 cx, .int .i64 cy], .agg #[.bool p.1, .int .u64 (dg (p.2) 0), .int .u64 (dg (p.2) 1), .int .u64 (dg (p.2) 2), .int .u64 (dg (p.2) 3), .bool q.1, .int .u64 (dg (q.2) 0), .int .u64 (dg (q.2) 1), .int .u64 (dg (q.2) 2), .int .u64 (dg (q.2) 3), .bool r.1, .int .u64 (dg (r.2) 0), .int .u64 (dg (r.2) 1), .int .u64 (dg (r.2) 2), .int .u64 (dg (r.2) 3), .bool s.1, .int .u64 (dg (s.2) 0), .int .u64 (dg (s.2) 1), .int .u64 (dg (s.2) 2), .int .u64 (dg (s.2) 3)]] w fun e w' => e = .returned (.bool true) ∧ Below w.heap.size w w' := by
  have h1 := turn_v ax ay bx by_ cx cy
  have h2 := turn_v bx by_ cx cy ax ay
  have h3 := turn_v bx by_ ax ay cx cy
  rw [turnV_round, turnE_round] at h2
  rw [turnE_other] at h3
  have hn := turnV_other ax ay bx by_ cx cy
  have hck := seg_check ax ay bx by_
  cases hg : segB ax ay bx by_ with
  | false =>
    rw [hg] at hck
    exact holds_w1 ax ay bx by_ cx cy _ rfl _ _ _ hn ⟨h1⟩ ⟨h2⟩ ⟨h3⟩ ⟨hck⟩ w ⟨hV⟩
  | true =>
    rw [hg] at hck
    have hs2 := hg
    unfold segB at hs2
    simp only [Bool.and_eq_true] at hs2
    obtain ⟨ha, hb, _⟩ := hs2
    have ra := node_range ha
    have rb := node_range hb
    obtain ⟨l0, l1, l2, l3, hl⟩ : ∃ l0 l1 l2 l3 : Int, (if backB ax ay bx by_ then [bx, by_, ax, ay] else [ax, ay, bx, by_]) = [l0, l1, l2, l3] := by split <;> exact ⟨_, _, _, _, rfl⟩
    obtain ⟨o, ep, sd, hsd, k1, k2, k3⟩ := on_side_any ax ay bx by_ hg p q r s hp hq hr hs
    have hla : ∀ w : World, Calls Tryz.prog 11 #[.agg #[.int .i64 ax, .int .i64 ay, .int .i64 bx, .int .i64 by_]] w fun e w' => e = .returned (.tuple #[.agg #[.int .i64 l0, .int .i64 l1, .int .i64 l2, .int .i64 l3], .int .i64 0]) ∧ Below w.heap.size w w' := fun w => by
      have h := laid_any ax ay bx by_ w
      rw [hg] at h
      cases hb : backB ax ay bx by_ with
      | true =>
        rw [hb] at h hl
        simp at hl
        obtain ⟨rfl, rfl, rfl, rfl⟩ := hl
        exact h
      | false =>
        rw [hb] at h hl
        simp at hl
        obtain ⟨rfl, rfl, rfl, rfl⟩ := hl
        exact h
    have hol : ∀ w, Vars w → Calls Tryz.prog 20 #[.agg #[.int .i64 l0, .int .i64 l1, .int .i64 l2, .int .i64 l3], .agg #[.bool p.1, .int .u64 (dg (p.2) 0), .int .u64 (dg (p.2) 1), .int .u64 (dg (p.2) 2), .int .u64 (dg (p.2) 3), .bool q.1, .int .u64 (dg (q.2) 0), .int .u64 (dg (q.2) 1), .int .u64 (dg (q.2) 2), .int .u64 (dg (q.2) 3), .bool r.1, .int .u64 (dg (r.2) 0), .int .u64 (dg (r.2) 1), .int .u64 (dg (r.2) 2), .int .u64 (dg (r.2) 3), .bool s.1, .int .u64 (dg (s.2) 0), .int .u64 (dg (s.2) 1), .int .u64 (dg (s.2) 2), .int .u64 (dg (s.2) 3)]] w fun e w' => e = .returned (.tuple #[.bool o, .int .i64 ep]) ∧ Below w.heap.size w w' := by
      cases hb : backB ax ay bx by_ with
      | true =>
        rw [hb] at hl
        simp at hl
        obtain ⟨rfl, rfl, rfl, rfl⟩ := hl
        exact k2
      | false =>
        rw [hb] at hl
        simp at hl
        obtain ⟨rfl, rfl, rfl, rfl⟩ := hl
        exact k1
    exact holds_w2 ax ay bx by_ cx cy l0 l1 l2 l3 _ rfl _ _ _ hn ⟨h1⟩ ⟨h2⟩ ⟨h3⟩ ⟨hck⟩ ⟨fun w => law_at ax ay ra.1 ra.2 w⟩ ⟨fun w => law_at bx by_ rb.1 rb.2 w⟩
      ⟨fun w hw => by have h := seg_on_ok ax ay bx by_ ax 1 ay 1 hg (node_pt ha) w hw; rw [on_first] at h; exact h⟩
      ⟨fun w hw => by have h := seg_on_ok ax ay bx by_ bx 1 by_ 1 hg (node_pt hb) w hw; rw [on_last] at h; exact h⟩
      ⟨hla⟩ (segS ax ay bx by_) ⟨fun w hw => seg_text_ok ax ay bx by_ hg w hw⟩ ⟨fun w hw => parse_text ax ay bx by_ hg w hw⟩ ⟨fun w => same_self hg hl w⟩ o ep sd hsd ⟨k1⟩ ⟨hol⟩ ⟨k3⟩ w ⟨hV⟩
end Go.Proofs.YtbhfnfokihdjjaaGreatDoor
