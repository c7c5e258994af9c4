/-
  The references: the fraction of Ints as one of numbers of any size. Conditions stand in each theorem.
-/
import Derived.Test.YtbhfnfokihdjjaaGreatDoorRf8
import Derived.Test.YtbhfnfokihdjjaaGreatDoorRab
import Derived.Test.YtbhfnfokihdjjaaGreatDoorRb4
import Derived.Test.YtbhfnfokihdjjaaGreatDoorMr5
namespace Go.Proofs.YtbhfnfokihdjjaaGreatDoor
open Go.RowKit Go.BigFrame
set_option maxRecDepth 20000 in
set_option maxHeartbeats 4000000 in
theorem rrfrom_any (p q : Bool × Nat) (hp : p.2 < 2 ^ 256) (hq : q.2 < 2 ^ 256) (w : World) :
    Calls Tryz.prog 55 #[.agg #[.bool (p.1), .int .u64 (dg (p.2) 0), .int .u64 (dg (p.2) 1), .int .u64 (dg (p.2) 2), .int .u64 (dg (p.2) 3), .bool (q.1), .int .u64 (dg (q.2) 0), .int .u64 (dg (q.2) 1), .int .u64 (dg (q.2) 2), .int .u64 (dg (q.2) 3)]] w fun e w' => ∃ v, e = .returned v ∧ RatAt w' v (zof p.1 p.2) (zof q.1 q.2) ∧ Below w.heap.size w w' := by
  have HX := Hd.mk (fun w => from_any p hp w)
  have HY := Hd.mk (fun w => from_any q hq w)
  obtain ⟨m, hm⟩ : ∃ m, m = zof p.1 p.2 := ⟨_, rfl⟩
  obtain ⟨n, hn⟩ : ∃ n, n = zof q.1 q.2 := ⟨_, rfl⟩
  rw [← hm] at HX ⊢
  rw [← hn] at HY ⊢
  clear hp hq hm hn
  go_enter Tryz.func55, Tryz.ntmps55
  go_upto_region 1 with (fail)
  refine abs_wp (fun W => W.heap[w.heap.size]? = some (.cells #[.bool (p.1), .int .u64 (dg (p.2) 0), .int .u64 (dg (p.2) 1), .int .u64 (dg (p.2) 2), .int .u64 (dg (p.2) 3), .bool (q.1), .int .u64 (dg (q.2) 0), .int .u64 (dg (q.2) 1), .int .u64 (dg (q.2) 2), .int .u64 (dg (q.2) 3)] 44 (0, 0)) ∧ W.heap[w.heap.size + 1]? = some (.cells #[.bool false, .slice none 0 0, .bool false, .slice none 0 0] 55 (0, 0)) ∧ Below w.heap.size w W) ⟨heap_old (heap_new _ _) _, heap_at (by simp) _, by focus (repeat (first | (with_reducible exact Below.refl _ _) | (with_reducible assumption) | ((with_reducible refine Below.setCell ?_ ?_ _); rotate_left; (focus (first | omega | (simp; done) | (simp; omega)))) | ((with_reducible refine Below.alloc ?_ ?_ _); rotate_left; (focus (first | omega | (simp; done) | (simp; omega)))) | (with_reducible refine Below.drew ?_) | (refine below_on ?_ (by assumption))))⟩ fun W ⟨z0, z1, hB⟩ => ?_
  have HS : Hd (∀ W', Below (w.heap.size + 1) W W' → W'.cell? ⟨w.heap.size, 0, none⟩ = some (.bool p.1) ∧ W'.cell? ⟨w.heap.size, 1, none⟩ = some (.int .u64 (dg p.2 0)) ∧ W'.cell? ⟨w.heap.size, 2, none⟩ = some (.int .u64 (dg p.2 1)) ∧ W'.cell? ⟨w.heap.size, 3, none⟩ = some (.int .u64 (dg p.2 2)) ∧ W'.cell? ⟨w.heap.size, 4, none⟩ = some (.int .u64 (dg p.2 3)) ∧ W'.cell? ⟨w.heap.size, 5, none⟩ = some (.bool q.1) ∧ W'.cell? ⟨w.heap.size, 6, none⟩ = some (.int .u64 (dg q.2 0)) ∧ W'.cell? ⟨w.heap.size, 7, none⟩ = some (.int .u64 (dg q.2 1)) ∧ W'.cell? ⟨w.heap.size, 8, none⟩ = some (.int .u64 (dg q.2 2)) ∧ W'.cell? ⟨w.heap.size, 9, none⟩ = some (.int .u64 (dg q.2 3))) := ⟨fun W' h => ⟨(h.cell (Nat.lt_succ_self _)).trans (cell_at z0 0), (h.cell (Nat.lt_succ_self _)).trans (cell_at z0 1), (h.cell (Nat.lt_succ_self _)).trans (cell_at z0 2), (h.cell (Nat.lt_succ_self _)).trans (cell_at z0 3), (h.cell (Nat.lt_succ_self _)).trans (cell_at z0 4), (h.cell (Nat.lt_succ_self _)).trans (cell_at z0 5), (h.cell (Nat.lt_succ_self _)).trans (cell_at z0 6), (h.cell (Nat.lt_succ_self _)).trans (cell_at z0 7), (h.cell (Nat.lt_succ_self _)).trans (cell_at z0 8), (h.cell (Nat.lt_succ_self _)).trans (cell_at z0 9)⟩⟩
  have hD0 : Below (w.heap.size + 1) W W.drew := Below.drew (Below.refl _ _)
  have hB0 : Below w.heap.size w W.drew := Below.drew hB
  have y1 : W.drew.heap[w.heap.size + 1]? = some (.cells #[.bool false, .slice none 0 0, .bool false, .slice none 0 0] 55 (0, 0)) := z1
  have hsz : w.heap.size + 1 ≤ W.heap.size := Nat.le_of_lt (lt_of_block z1)
  clear z0 z1 hB
  go_region_held3 (fun W' => W'.cell? ⟨w.heap.size, 0, none⟩ = some (.bool p.1) ∧ W'.cell? ⟨w.heap.size, 1, none⟩ = some (.int .u64 (dg p.2 0)) ∧ W'.cell? ⟨w.heap.size, 2, none⟩ = some (.int .u64 (dg p.2 1)) ∧ W'.cell? ⟨w.heap.size, 3, none⟩ = some (.int .u64 (dg p.2 2)) ∧ W'.cell? ⟨w.heap.size, 4, none⟩ = some (.int .u64 (dg p.2 3)) ∧ W'.cell? ⟨w.heap.size, 5, none⟩ = some (.bool q.1) ∧ W'.cell? ⟨w.heap.size, 6, none⟩ = some (.int .u64 (dg q.2 0)) ∧ W'.cell? ⟨w.heap.size, 7, none⟩ = some (.int .u64 (dg q.2 1)) ∧ W'.cell? ⟨w.heap.size, 8, none⟩ = some (.int .u64 (dg q.2 2)) ∧ W'.cell? ⟨w.heap.size, 9, none⟩ = some (.int .u64 (dg q.2 3))) ((exact HS.out _ (by focus (repeat (first | (with_reducible exact Below.refl _ _) | (with_reducible assumption) | ((with_reducible refine Below.setCell ?_ ?_ _); rotate_left; (focus (first | omega | (simp; done) | (simp; omega)))) | ((with_reducible refine Below.alloc ?_ ?_ _); rotate_left; (focus (first | omega | (simp; done) | (simp; omega)))) | (with_reducible refine Below.drew ?_) | (refine below_on ?_ (by assumption)))))))
    ((first
      | (go_at_call 90; have hq := hV1; clear hq; refine (HY.out _).mono ?_; rintro e1 wb ⟨v2, rfl, ⟨A2, c2, rfl, g3, g4⟩, hb⟩; have hR1 := g2.below hb; have hD2 := below_upw hsz hD1 hb; have hB2 := below_on hB1 hb; have y3 := heap_below hb y2; have q1 := cell_at y3; have q2 := frozen_at y3; clear hb)
      | (go_at_call 90; refine (HX.out _).mono ?_; rintro e1 wa ⟨v1, rfl, ⟨A, c, rfl, g1, g2⟩, hb⟩; have hV1 := True.intro; have hD1 := below_upw hsz hD0 hb; have hB1 := below_on hB0 hb; have y2 := heap_below hb y1; clear hb)))
  obtain ⟨l1, l2, l3⟩ := laid_four (w.heap.size + 1) wb (.bool (ng m)) (.slice A (dd (ab m)).length c) (.bool (ng n)) (.slice A2 (dd (ab n)).length c2)
  have HR := Hd.mk (And.intro (hR1.other y3 no_int4 l2) (g4.other y3 no_int4 l2))
  have hF := hB2.trans (l3 _ (by omega))
  have k1 := l1 y3 rfl
  clear l1 l2 l3 HS hD0 hB0 y1 hV1 hD1 hB1 y2 g2 g4 hR1 hD2 hB2 y3 q1 q2
  generalize ((((wb.setCell ⟨w.heap.size + 1, 0, none⟩ (.bool (ng m))).setCell ⟨w.heap.size + 1, 1, none⟩ (.slice A (dd (ab m)).length c)).setCell ⟨w.heap.size + 1, 2, none⟩ (.bool (ng n))).setCell ⟨w.heap.size + 1, 3, none⟩ (.slice A2 (dd (ab n)).length c2)) = wz at *
  go_wp2
  refine bodyPost_ret (by simp [results, Tryz.results55, asAddr, load_rrat k1 rfl] <;> rfl) rfl ⟨_, rfl, ⟨A, c, A2, c2, rfl, g1, HR.out.1, g3, HR.out.2⟩, hF⟩
/-- Of a fraction that may be. -/
theorem rrfrom_ok (p q : Bool × Nat) (hp : p.2 < 2 ^ 256) (hq : q.2 < 2 ^ 256) (ho : okR p q) (w : World) :
    Calls Tryz.prog 55 #[.agg #[.bool (p.1), .int .u64 (dg (p.2) 0), .int .u64 (dg (p.2) 1), .int .u64 (dg (p.2) 2), .int .u64 (dg (p.2) 3), .bool (q.1), .int .u64 (dg (q.2) 0), .int .u64 (dg (q.2) 1), .int .u64 (dg (q.2) 2), .int .u64 (dg (q.2) 3)]] w fun e w' => ∃ v, e = .returned v ∧ RatAt w' v (zof p.1 p.2) ((q.2 : Nat) : Int) ∧ Below w.heap.size w w' := by
  have h := rrfrom_any p q hp hq w
  obtain ⟨_, _, a3, _, _⟩ := okR_parts ho
  rw [show zof q.1 q.2 = ((q.2 : Nat) : Int) by rw [a3]; rfl] at h
  exact h
theorem rfits_q (p q : Bool × Nat) (hp : p.2 < 2 ^ 256) (hq : q.2 < 2 ^ 256) : rfitsB (zof p.1 p.2) q.2 = fitsB p.2 q.2 := by
  rw [Bool.eq_iff_iff, rfits_iff, fits_iff hp hq, ab_zof]
end Go.Proofs.YtbhfnfokihdjjaaGreatDoor
