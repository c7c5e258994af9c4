/-
  The references: which point may be. Conditions stand in each theorem.
-/
import Derived.Test.YtbhfnfokihdjjaaGreatDoorMr4
import Derived.Test.YtbhfnfokihdjjaaGreatDoorMr8
namespace Go.Proofs.YtbhfnfokihdjjaaGreatDoor
open Go.RowKit Go.BigFrame
set_option maxRecDepth 20000 in
set_option maxHeartbeats 4000000 in
/-- A point by signs and magnitudes: may it be, by the references? -/
theorem rpright_any (p q r s : Bool × Nat) (hp : p.2 < 2 ^ 256) (hq : q.2 < 2 ^ 256) (hr : r.2 < 2 ^ 256) (hs : s.2 < 2 ^ 256) (b c : Bool) (hb : b = true ↔ okR p q) (hc : c = true ↔ okR r s) (w : World) :
    Calls Tryz.prog 21 #[.agg #[.bool p.1, .int .u64 (dg (p.2) 0), .int .u64 (dg (p.2) 1), .int .u64 (dg (p.2) 2), .int .u64 (dg (p.2) 3), .bool q.1, .int .u64 (dg (q.2) 0), .int .u64 (dg (q.2) 1), .int .u64 (dg (q.2) 2), .int .u64 (dg (q.2) 3), .bool r.1, .int .u64 (dg (r.2) 0), .int .u64 (dg (r.2) 1), .int .u64 (dg (r.2) 2), .int .u64 (dg (r.2) 3), .bool s.1, .int .u64 (dg (s.2) 0), .int .u64 (dg (s.2) 1), .int .u64 (dg (s.2) 2), .int .u64 (dg (s.2) 3)]] w fun e w' => e = .returned (.bool (b && (c && (fitsB p.2 q.2 && fitsB r.2 s.2)))) ∧ Below w.heap.size w w' := by
  obtain ⟨f, hf⟩ : ∃ f, fitsB p.2 q.2 = f := ⟨_, rfl⟩
  obtain ⟨g, hg⟩ : ∃ g, fitsB r.2 s.2 = g := ⟨_, rfl⟩
  have H1 := Hd.mk (fun w => rrat_right p q hp hq b hb w)
  have H2 := Hd.mk (fun w => rrat_right r s hr hs c hc w)
  have F1 : Hd (b = true → ∀ w, Calls Tryz.prog 55 #[.agg #[.bool (p.1), .int .u64 (dg (p.2) 0), .int .u64 (dg (p.2) 1), .int .u64 (dg (p.2) 2), .int .u64 (dg (p.2) 3), .bool (q.1), .int .u64 (dg (q.2) 0), .int .u64 (dg (q.2) 1), .int .u64 (dg (q.2) 2), .int .u64 (dg (q.2) 3)]] w fun e w' => ∃ v, e = .returned v ∧ RatAt w' v (zof p.1 p.2) ((q.2 : Nat) : Int) ∧ Below w.heap.size w w') := ⟨fun h w => rrfrom_ok p q hp hq (hb.1 h) w⟩
  have F2 : Hd (c = true → ∀ w, Calls Tryz.prog 55 #[.agg #[.bool (r.1), .int .u64 (dg (r.2) 0), .int .u64 (dg (r.2) 1), .int .u64 (dg (r.2) 2), .int .u64 (dg (r.2) 3), .bool (s.1), .int .u64 (dg (s.2) 0), .int .u64 (dg (s.2) 1), .int .u64 (dg (s.2) 2), .int .u64 (dg (s.2) 3)]] w fun e w' => ∃ v, e = .returned v ∧ RatAt w' v (zof r.1 r.2) ((s.2 : Nat) : Int) ∧ Below w.heap.size w w') := ⟨fun h w => rrfrom_ok r s hr hs (hc.1 h) w⟩
  have G1 : Hd (∀ u w, RatAt w u (zof p.1 p.2) ((q.2 : Nat) : Int) → Calls Tryz.prog 54 #[u] w fun e w' => e = .returned (.bool f) ∧ Below w.heap.size w w') := ⟨fun u w h => by
    have k := rfits_any _ _ u w h
    rw [rfits_q p q hp hq, hf] at k
    exact k⟩
  have G2 : Hd (∀ u w, RatAt w u (zof r.1 r.2) ((s.2 : Nat) : Int) → Calls Tryz.prog 54 #[u] w fun e w' => e = .returned (.bool g) ∧ Below w.heap.size w w') := ⟨fun u w h => by
    have k := rfits_any _ _ u w h
    rw [rfits_q r s hr hs, hg] at k
    exact k⟩
  rw [hf, hg]
  clear hp hq hr hs hb hc hf hg
  go_enter Tryz.func21, Tryz.ntmps21
  go_wp2_with fail
  refine (H1.out _).mono ?_
  rintro e wa ⟨rfl, hb⟩
  have z0 := heap_below hb (heap_new w (.cells #[.bool p.1, .int .u64 (dg (p.2) 0), .int .u64 (dg (p.2) 1), .int .u64 (dg (p.2) 2), .int .u64 (dg (p.2) 3), .bool q.1, .int .u64 (dg (q.2) 0), .int .u64 (dg (q.2) 1), .int .u64 (dg (q.2) 2), .int .u64 (dg (q.2) 3), .bool r.1, .int .u64 (dg (r.2) 0), .int .u64 (dg (r.2) 1), .int .u64 (dg (r.2) 2), .int .u64 (dg (r.2) 3), .bool s.1, .int .u64 (dg (s.2) 0), .int .u64 (dg (s.2) 1), .int .u64 (dg (s.2) 2), .int .u64 (dg (s.2) 3)] 46))
  have hB : Below w.heap.size w wa := below_on (by focus (repeat (first | (with_reducible exact Below.refl _ _) | (with_reducible assumption) | ((with_reducible refine Below.setCell ?_ ?_ _); rotate_left; (focus (first | omega | (simp; done) | (simp; omega)))) | ((with_reducible refine Below.alloc ?_ ?_ _); rotate_left; (focus (first | omega | (simp; done) | (simp; omega)))) | (with_reducible refine Below.drew ?_) | (refine below_on ?_ (by assumption))))) hb
  have c0 := cell_at z0
  clear hb H1
  cases b with
  | false =>
    go_wp2
    go_ret
    exact ⟨rfl, hB⟩
  | true =>
    go_wp2_with fail
    refine (H2.out _).mono ?_
    rintro e wb ⟨rfl, hb⟩
    have z1 := heap_below hb z0
    have hB1 := below_on hB hb
    have c1 := cell_at z1
    clear hb H2 z0 c0 hB
    cases c with
    | false =>
      go_wp2
      go_ret
      exact ⟨rfl, hB1⟩
    | true =>
      go_wp2_with fail
      refine (F1.out trivial _).mono ?_
      rintro e wc ⟨v1, rfl, hv1, hb⟩
      have z2 := heap_below hb z1
      have hB2 := below_on hB1 hb
      have HR := Hd.mk hv1
      clear hb F1 z1 c1 hB1 hv1
      go_wp2_with fail
      refine (G1.out _ _ HR.out).mono ?_
      rintro e wd ⟨rfl, hb⟩
      have z3 := heap_below hb z2
      have hB3 := below_on hB2 hb
      have c3 := cell_at z3
      clear hb G1 z2 hB2 HR
      cases f with
      | false =>
        go_wp2
        go_ret
        exact ⟨rfl, hB3⟩
      | true =>
        go_wp2_with fail
        refine (F2.out trivial _).mono ?_
        rintro e we ⟨v2, rfl, hv2, hb⟩
        have hB4 := below_on hB3 hb
        have HR := Hd.mk hv2
        clear hb F2 z3 c3 hB3 hv2
        go_wp2_with fail
        refine (G2.out _ _ HR.out).mono ?_
        rintro e wf ⟨rfl, hb⟩
        have hB5 := below_on hB4 hb
        clear hb G2 hB4 HR
        cases g
        all_goals
          go_wp2
          go_ret
          exact ⟨rfl, hB5⟩
theorem rpright_p (p q r s : Bool × Nat) (hp : p.2 < 2 ^ 256) (hq : q.2 < 2 ^ 256) (hr : r.2 < 2 ^ 256) (hs : s.2 < 2 ^ 256) (o : Bool) (ho : o = true ↔ okPt p q r s) (w : World) :
    Calls Tryz.prog 21 #[.agg #[.bool p.1, .int .u64 (dg (p.2) 0), .int .u64 (dg (p.2) 1), .int .u64 (dg (p.2) 2), .int .u64 (dg (p.2) 3), .bool q.1, .int .u64 (dg (q.2) 0), .int .u64 (dg (q.2) 1), .int .u64 (dg (q.2) 2), .int .u64 (dg (q.2) 3), .bool r.1, .int .u64 (dg (r.2) 0), .int .u64 (dg (r.2) 1), .int .u64 (dg (r.2) 2), .int .u64 (dg (r.2) 3), .bool s.1, .int .u64 (dg (s.2) 0), .int .u64 (dg (s.2) 1), .int .u64 (dg (s.2) 2), .int .u64 (dg (s.2) 3)]] w fun e w' => e = .returned (.bool o) ∧ Below w.heap.size w w' := by
  obtain ⟨b, hb⟩ : ∃ b : Bool, b = true ↔ okR p q := ⟨@decide (okR p q) (Classical.propDecidable _), by simp⟩
  obtain ⟨c, hc⟩ : ∃ c : Bool, c = true ↔ okR r s := ⟨@decide (okR r s) (Classical.propDecidable _), by simp⟩
  have h := rpright_any p q r s hp hq hr hs b c hb hc w
  have e : (b && (c && (fitsB p.2 q.2 && fitsB r.2 s.2))) = o := by
    rw [Bool.eq_iff_iff, ho]
    simp only [Bool.and_eq_true, hb, hc, okPt]
  rw [e] at h
  exact h
end Go.Proofs.YtbhfnfokihdjjaaGreatDoor
