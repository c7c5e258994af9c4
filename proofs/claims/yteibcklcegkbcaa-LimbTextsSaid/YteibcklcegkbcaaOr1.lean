/-
  The walk of LimbOrders. Conditions stand in each theorem.
-/
import Derived.Test.YteibcklcegkbcaaRf6
import Derived.Deep.RegionHeld3
namespace Go.Proofs.Yteibcklcegkbcaa
open Go.RowKit Go.BigFrame

theorem from_z (z : Int) (hz : ab z < 2 ^ 256) (w : World) :
    Calls Try.prog 18 #[.agg #[.bool (ng (z)), .int .u64 (dg (ab (z)) 0), .int .u64 (dg (ab (z)) 1), .int .u64 (dg (ab (z)) 2), .int .u64 (dg (ab (z)) 3)]] w fun e w' => ∃ v, e = .returned v ∧ BigAt w' v z ∧ Below w.heap.size w w' := by
  have h := from_any (ng z, ab z) hz w
  rw [zof_ng_ab] at h
  exact h
def ZAt (W : World) (b : Nat) (z : Int) : Prop :=
  W.cell? ⟨b, 0, none⟩ = some (.bool (ng z)) ∧ W.cell? ⟨b, 1, none⟩ = some (.int .u64 (dg (ab z) 0)) ∧ W.cell? ⟨b, 2, none⟩ = some (.int .u64 (dg (ab z) 1)) ∧
    W.cell? ⟨b, 3, none⟩ = some (.int .u64 (dg (ab z) 2)) ∧ W.cell? ⟨b, 4, none⟩ = some (.int .u64 (dg (ab z) 3))
theorem z_at {W : World} {b : Nat} {z : Int} {t : TypeId} {f : Nat × Nat} (h : W.heap[b]? = some (.cells #[.bool (ng (z)), .int .u64 (dg (ab (z)) 0), .int .u64 (dg (ab (z)) 1), .int .u64 (dg (ab (z)) 2), .int .u64 (dg (ab (z)) 3)] t f)) : ZAt W b z := ⟨cell_at h 0, cell_at h 1, cell_at h 2, cell_at h 3, cell_at h 4⟩
theorem ZAt.below {W W1 : World} {b : Nat} {z : Int} (h : ZAt W b z) (hb : Below W.heap.size W W1) : ZAt W1 b z := by
  obtain ⟨h0, h1, h2, h3, h4⟩ := h
  exact ⟨(hb.cell (World.block_lt_of_cell? W _ h0)).trans h0, (hb.cell (World.block_lt_of_cell? W _ h1)).trans h1, (hb.cell (World.block_lt_of_cell? W _ h2)).trans h2, (hb.cell (World.block_lt_of_cell? W _ h3)).trans h3, (hb.cell (World.block_lt_of_cell? W _ h4)).trans h4⟩
set_option maxRecDepth 100000 in
set_option maxHeartbeats 1000000 in
theorem orders_ok (m n : Int) (HX : Hd (ab m < 2 ^ 256)) (HY : Hd (ab n < 2 ^ 256)) (w : World) :
    Calls Try.prog 9 #[.agg #[.bool (ng (m)), .int .u64 (dg (ab (m)) 0), .int .u64 (dg (ab (m)) 1), .int .u64 (dg (ab (m)) 2), .int .u64 (dg (ab (m)) 3)], .agg #[.bool (ng (n)), .int .u64 (dg (ab (n)) 0), .int .u64 (dg (ab (n)) 1), .int .u64 (dg (ab (n)) 2), .int .u64 (dg (ab (n)) 3)]] w fun e w' => e = .returned (.bool true) ∧ Below w.heap.size w w' := by
  go_enter Try.func9, Try.ntmps9
  go_wp2_with fail
  refine (cmp_ok m n HX.out HY.out _).mono ?_
  rintro e w1 ⟨rfl, hb⟩
  have y0 := heap_below hb (heap_old (heap_new w _) _)
  have y1 := heap_below hb (heap_at (n := w.heap.size + 1) (by simp) _)
  have hB : Below w.heap.size w w1 := by focus (repeat (first | (with_reducible exact Below.refl _ _) | (with_reducible assumption) | ((with_reducible refine Below.setCell ?_ ?_ _); rotate_left; (focus (first | omega | (simp; done) | (simp; omega)))) | ((with_reducible refine Below.alloc ?_ ?_ _); rotate_left; (focus (first | omega | (simp; done) | (simp; omega)))) | (with_reducible refine Below.drew ?_) | (refine below_on ?_ (by assumption))))
  have c0 := cell_at y0
  have c1 := cell_at y1
  clear hb
  go_wp2_with fail
  refine (rright_ok m HX.out _).mono ?_
  rintro e w2 ⟨rfl, hb⟩
  have hs1 := hB.size
  have z0 := heap_below hb y0
  have z1 := heap_below hb y1
  have hB2 : Below w.heap.size w w2 := below_on hB hb
  clear hb hB y0 y1 c0 c1
  have c0 := cell_at z0
  have c1 := cell_at z1
  go_wp2_with fail
  refine (rright_ok n HY.out _).mono ?_
  rintro e w3 ⟨rfl, hb⟩
  have hs2 := hB2.size
  have y0 := heap_below hb z0
  have y1 := heap_below hb z1
  have hB3 : Below w.heap.size w w3 := below_on hB2 hb
  clear hb hB2 z0 z1 c0 c1
  go_upto_region 4 with (fail)
  have HS : Hd (∀ W', Below w3.heap.size w3 W' → (W'.cell? ⟨w.heap.size, 0, none⟩ = some (.bool (ng (m))) ∧ W'.cell? ⟨w.heap.size, 1, none⟩ = some (.int .u64 (dg (ab (m)) 0)) ∧ W'.cell? ⟨w.heap.size, 2, none⟩ = some (.int .u64 (dg (ab (m)) 1)) ∧ W'.cell? ⟨w.heap.size, 3, none⟩ = some (.int .u64 (dg (ab (m)) 2)) ∧ W'.cell? ⟨w.heap.size, 4, none⟩ = some (.int .u64 (dg (ab (m)) 3))) ∧ W'.cell? ⟨w.heap.size + 1, 0, none⟩ = some (.bool (ng (n))) ∧ W'.cell? ⟨w.heap.size + 1, 1, none⟩ = some (.int .u64 (dg (ab (n)) 0)) ∧ W'.cell? ⟨w.heap.size + 1, 2, none⟩ = some (.int .u64 (dg (ab (n)) 1)) ∧ W'.cell? ⟨w.heap.size + 1, 3, none⟩ = some (.int .u64 (dg (ab (n)) 2)) ∧ W'.cell? ⟨w.heap.size + 1, 4, none⟩ = some (.int .u64 (dg (ab (n)) 3))) := ⟨fun W' h => ⟨(z_at y0).below h, (z_at y1).below h⟩⟩
  have hD : Below w3.heap.size w3 w3.drew := Below.drew (Below.refl _ _)
  clear y0 y1
  go_region_held3 (fun W' => (W'.cell? ⟨w.heap.size, 0, none⟩ = some (.bool (ng (m))) ∧ W'.cell? ⟨w.heap.size, 1, none⟩ = some (.int .u64 (dg (ab (m)) 0)) ∧ W'.cell? ⟨w.heap.size, 2, none⟩ = some (.int .u64 (dg (ab (m)) 1)) ∧ W'.cell? ⟨w.heap.size, 3, none⟩ = some (.int .u64 (dg (ab (m)) 2)) ∧ W'.cell? ⟨w.heap.size, 4, none⟩ = some (.int .u64 (dg (ab (m)) 3))) ∧ W'.cell? ⟨w.heap.size + 1, 0, none⟩ = some (.bool (ng (n))) ∧ W'.cell? ⟨w.heap.size + 1, 1, none⟩ = some (.int .u64 (dg (ab (n)) 0)) ∧ W'.cell? ⟨w.heap.size + 1, 2, none⟩ = some (.int .u64 (dg (ab (n)) 1)) ∧ W'.cell? ⟨w.heap.size + 1, 3, none⟩ = some (.int .u64 (dg (ab (n)) 2)) ∧ W'.cell? ⟨w.heap.size + 1, 4, none⟩ = some (.int .u64 (dg (ab (n)) 3))) ((exact HS.out _ (by assumption)))
    ((first
      | (go_at_call 18; have hq := hVa; clear hq; refine (from_z n HY.out _).mono ?_; rintro e wb ⟨vb, rfl, hVb, hb⟩; have hD2 := below_on hD1 hb; have hVa2 := hVa.below hb; clear hb)
      | (go_at_call 18; refine (from_z m HX.out _).mono ?_; rintro e wa ⟨va, rfl, hVa, hb⟩; have hD1 := below_on hD hb; clear hb)
      | (go_at_call 41; refine (rcmp_any m n _ _ _ hVa2 hVb).mono ?_; rintro e wc ⟨rfl, hb⟩; have hD3 := below_on hD2 hb; clear hb)
      | (go_at_call 14; refine (num_s _ _).mono ?_; rintro e wd ⟨rfl, rfl⟩)
      | (go_at_call 15; refine (works_any _).mono ?_; rintro e wd ⟨rfl, hb⟩; have hD4 := below_on hD3 hb; clear hb)))
  go_wp2
  go_ret
  refine ⟨rfl, ?_⟩
  focus (repeat (first | (with_reducible exact Below.refl _ _) | (with_reducible assumption) | ((with_reducible refine Below.setCell ?_ ?_ _); rotate_left; (focus (first | omega | (simp; done) | (simp; omega)))) | ((with_reducible refine Below.alloc ?_ ?_ _); rotate_left; (focus (first | omega | (simp; done) | (simp; omega)))) | (with_reducible refine Below.drew ?_) | (refine below_on ?_ (by assumption))))

theorem ng_okP {p : Bool × Nat} (h : okP p) : ng (zof p.1 p.2) = p.1 := by
  obtain ⟨s, n⟩ := p
  rw [ng_zof]
  cases s
  · rfl
  · simp [okP] at h; simp [h]
theorem rright_any (p : Bool × Nat) (hp : p.2 < 2 ^ 256) (w : World) :
    Calls Try.prog 13 #[.agg #[.bool (p.1), .int .u64 (dg (p.2) 0), .int .u64 (dg (p.2) 1), .int .u64 (dg (p.2) 2), .int .u64 (dg (p.2) 3)]] w fun e w' => e = .returned (.bool (decide (okP p))) ∧ Below w.heap.size w w' := by
  obtain ⟨s, n⟩ := p
  by_cases h : okP (s, n)
  · have h1 : ng (zof s n) = s := by
      rw [ng_zof]
      cases s
      · rfl
      · simp [okP] at h; simp [h]
    have h2 := rright_ok (zof s n) (by rw [ab_zof]; exact hp) w
    rw [h1, ab_zof] at h2
    rw [decide_eq_true h]
    exact h2
  · rw [decide_eq_false h]
    obtain ⟨rfl, rfl⟩ : s = true ∧ n = 0 := by simpa [okP] using h
    exact rright_bad w
set_option maxRecDepth 100000 in
set_option maxHeartbeats 1000000 in
theorem orders_bad (p q : Bool × Nat) (HP : Hd (p.2 < 2 ^ 256)) (HQ : Hd (q.2 < 2 ^ 256)) (HO : Hd (¬ (okP p ∧ okP q))) (w : World) :
    Calls Try.prog 9 #[.agg #[.bool (p.1), .int .u64 (dg (p.2) 0), .int .u64 (dg (p.2) 1), .int .u64 (dg (p.2) 2), .int .u64 (dg (p.2) 3)], .agg #[.bool (q.1), .int .u64 (dg (q.2) 0), .int .u64 (dg (q.2) 1), .int .u64 (dg (q.2) 2), .int .u64 (dg (q.2) 3)]] w fun e w' => e = .returned (.bool true) ∧ Below w.heap.size w w' := by
  by_cases h : okP p
  · have H1 : Hd (decide (okP p) = true) := ⟨decide_eq_true h⟩
    have H2 : Hd (decide (okP q) = false) := ⟨decide_eq_false fun h2 => HO.out ⟨h, h2⟩⟩
    clear h
    go_enter Try.func9, Try.ntmps9
    go_wp2_with fail
    refine (cmp_bad p q HP.out HQ.out HO.out _).mono ?_
    rintro e w1 ⟨rfl, hb⟩
    have y0 := heap_below hb (heap_old (heap_new w _) _)
    have y1 := heap_below hb (heap_at (n := w.heap.size + 1) (by simp) _)
    have hB : Below w.heap.size w w1 := by focus (repeat (first | (with_reducible exact Below.refl _ _) | (with_reducible assumption) | ((with_reducible refine Below.setCell ?_ ?_ _); rotate_left; (focus (first | omega | (simp; done) | (simp; omega)))) | ((with_reducible refine Below.alloc ?_ ?_ _); rotate_left; (focus (first | omega | (simp; done) | (simp; omega)))) | (with_reducible refine Below.drew ?_) | (refine below_on ?_ (by assumption))))
    have c0 := cell_at y0
    have c1 := cell_at y1
    clear hb
    go_wp2_with fail
    refine (rright_any p HP.out _).mono ?_
    rintro e w2 ⟨rfl, hb⟩
    have hs1 := hB.size
    have z0 := heap_below hb y0
    have z1 := heap_below hb y1
    have hB2 : Below w.heap.size w w2 := below_on hB hb
    clear hb hB y0 y1 c0 c1
    have c0 := cell_at z0
    have c1 := cell_at z1
    rw [H1.out]
    go_wp2_with fail
    refine (rright_any q HQ.out _).mono ?_
    rintro e w3 ⟨rfl, hb⟩
    have hs2 := hB2.size
    have hB3 : Below w.heap.size w w3 := below_on hB2 hb
    clear hb hB2 z0 z1 c0 c1
    rw [H2.out]
    go_wp2_with (go_at_call 14; refine (num_s _ _).mono ?_; rintro e wd ⟨rfl, rfl⟩)
    refine (works_any _).mono ?_
    rintro e wd ⟨rfl, hb⟩
    go_wp2
    go_ret
    refine ⟨rfl, ?_⟩
    focus (repeat (first | (with_reducible exact Below.refl _ _) | (with_reducible assumption) | ((with_reducible refine Below.setCell ?_ ?_ _); rotate_left; (focus (first | omega | (simp; done) | (simp; omega)))) | ((with_reducible refine Below.alloc ?_ ?_ _); rotate_left; (focus (first | omega | (simp; done) | (simp; omega)))) | (with_reducible refine Below.drew ?_) | (refine below_on ?_ (by assumption))))
  · have H1 : Hd (decide (okP p) = false) := ⟨decide_eq_false h⟩
    clear h
    go_enter Try.func9, Try.ntmps9
    go_wp2_with fail
    refine (cmp_bad p q HP.out HQ.out HO.out _).mono ?_
    rintro e w1 ⟨rfl, hb⟩
    have y0 := heap_below hb (heap_old (heap_new w _) _)
    have y1 := heap_below hb (heap_at (n := w.heap.size + 1) (by simp) _)
    have hB : Below w.heap.size w w1 := by focus (repeat (first | (with_reducible exact Below.refl _ _) | (with_reducible assumption) | ((with_reducible refine Below.setCell ?_ ?_ _); rotate_left; (focus (first | omega | (simp; done) | (simp; omega)))) | ((with_reducible refine Below.alloc ?_ ?_ _); rotate_left; (focus (first | omega | (simp; done) | (simp; omega)))) | (with_reducible refine Below.drew ?_) | (refine below_on ?_ (by assumption))))
    have c0 := cell_at y0
    have c1 := cell_at y1
    clear hb
    go_wp2_with fail
    refine (rright_any p HP.out _).mono ?_
    rintro e w2 ⟨rfl, hb⟩
    have hs1 := hB.size
    have z0 := heap_below hb y0
    have z1 := heap_below hb y1
    have hB2 : Below w.heap.size w w2 := below_on hB hb
    clear hb hB y0 y1 c0 c1
    have c0 := cell_at z0
    have c1 := cell_at z1
    rw [H1.out]
    go_wp2_with (go_at_call 14; refine (num_s _ _).mono ?_; rintro e wd ⟨rfl, rfl⟩)
    refine (works_any _).mono ?_
    rintro e wd ⟨rfl, hb⟩
    go_wp2
    go_ret
    refine ⟨rfl, ?_⟩
    focus (repeat (first | (with_reducible exact Below.refl _ _) | (with_reducible assumption) | ((with_reducible refine Below.setCell ?_ ?_ _); rotate_left; (focus (first | omega | (simp; done) | (simp; omega)))) | ((with_reducible refine Below.alloc ?_ ?_ _); rotate_left; (focus (first | omega | (simp; done) | (simp; omega)))) | (with_reducible refine Below.drew ?_) | (refine below_on ?_ (by assumption))))
theorem orders_any (p q : Bool × Nat) (hp : p.2 < 2 ^ 256) (hq : q.2 < 2 ^ 256) (w : World) :
    Calls Try.prog 9 #[.agg #[.bool (p.1), .int .u64 (dg (p.2) 0), .int .u64 (dg (p.2) 1), .int .u64 (dg (p.2) 2), .int .u64 (dg (p.2) 3)], .agg #[.bool (q.1), .int .u64 (dg (q.2) 0), .int .u64 (dg (q.2) 1), .int .u64 (dg (q.2) 2), .int .u64 (dg (q.2) 3)]] w fun e w' => e = .returned (.bool true) ∧ Below w.heap.size w w' := by
  by_cases h : okP p ∧ okP q
  · have h1 := orders_ok (zof p.1 p.2) (zof q.1 q.2) ⟨by rw [ab_zof]; exact hp⟩ ⟨by rw [ab_zof]; exact hq⟩ w
    rw [ab_zof, ab_zof, ng_okP h.1, ng_okP h.2] at h1
    exact h1
  · exact orders_bad p q ⟨hp⟩ ⟨hq⟩ ⟨h⟩ w
end Go.Proofs.Yteibcklcegkbcaa
