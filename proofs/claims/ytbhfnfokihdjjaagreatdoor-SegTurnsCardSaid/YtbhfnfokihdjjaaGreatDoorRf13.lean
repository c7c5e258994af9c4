/-
  Walks of the references: Mul. Conditions stand in each theorem.
-/
import Derived.Test.YtbhfnfokihdjjaaGreatDoorOr1
import Derived.Test.YtbhfnfokihdjjaaGreatDoorRf10
namespace Go.Proofs.YtbhfnfokihdjjaaGreatDoor
open Go.RowKit Go.BigFrame

theorem below_up {n : Nat} {w S W1 : World} (hn : n ≤ w.heap.size) (h : Below n w S) (k : Below S.heap.size S W1) : Below n w W1 := h.trans (k.mono (Nat.le_trans hn h.size))
set_option maxHeartbeats 1000000 in
theorem rneg_any (x y : Int) (hy : -x = y) (u : Value) (w : World) (hu : BigAt w u x) :
    Calls Tryz.prog 75 #[u] w fun e w' => ∃ v, e = .returned v ∧ BigAt w' v y ∧ Below w.heap.size w w' := by
  obtain ⟨A, c, rfl, hc, hA⟩ := hu
  have HA := Hd.mk hA
  have HV : Hd (zof (!ng x) (val (dd (ab x))) = y) := ⟨by
    rw [val_of_dd, ← hy]
    unfold zof ng ab
    by_cases h : x < 0 <;> simp [h] <;> omega⟩
  clear hA hy
  go_enter Tryz.func75, Tryz.ntmps75
  go_wp2_with fail
  refine (rof_any (!ng x) A c _ hc (dd_range _) _ (HA.out.below (by focus (repeat (first | (with_reducible exact Below.refl _ _) | (with_reducible assumption) | ((with_reducible refine Below.setCell ?_ ?_ _); rotate_left; (focus (first | omega | (simp; done) | (simp; omega)))) | ((with_reducible refine Below.alloc ?_ ?_ _); rotate_left; (focus (first | omega | (simp; done) | (simp; omega)))) | (with_reducible refine Below.drew ?_) | (refine below_on ?_ (by assumption))))))).mono ?_
  rintro e w2 ⟨v, rfl, hV, hb⟩
  rw [HV.out] at hV
  have hw : Below w.heap.size w w2 := by focus (repeat (first | (with_reducible exact Below.refl _ _) | (with_reducible assumption) | ((with_reducible refine Below.setCell ?_ ?_ _); rotate_left; (focus (first | omega | (simp; done) | (simp; omega)))) | ((with_reducible refine Below.alloc ?_ ?_ _); rotate_left; (focus (first | omega | (simp; done) | (simp; omega)))) | (with_reducible refine Below.drew ?_) | (refine below_on ?_ (by assumption))))
  have z1 := heap_below hb (heap_at (n := w.heap.size + 1) (by simp) _)
  clear hb
  obtain ⟨A', c', rfl, h1, h2⟩ := hV
  have hs2 := lt_of_block z1
  have q1 := cell_at z1
  have q2 := frozen_at z1
  have HD := Hd.mk (h2.laid z1)
  clear h2
  go_wp2
  have z2 := laid_both (w.heap.size + 1) w2 (.bool (ng (y))) (.slice A' (dd (ab (y))).length c') z1 rfl
  have c1 := cell_at z2
  refine bodyPost_ret (by simp [results, Tryz.results75, go_sem, c1]) rfl ⟨_, rfl, ⟨A', c', rfl, h1, HD.out _ _⟩, by focus (repeat (first | (with_reducible exact Below.refl _ _) | (with_reducible assumption) | ((with_reducible refine Below.setCell ?_ ?_ _); rotate_left; (focus (first | omega | (simp; done) | (simp; omega)))) | ((with_reducible refine Below.alloc ?_ ?_ _); rotate_left; (focus (first | omega | (simp; done) | (simp; omega)))) | (with_reducible refine Below.drew ?_) | (refine below_on ?_ (by assumption))))⟩
set_option maxHeartbeats 1000000 in
theorem radd_any (x y : Int) (u v : Value) (hlx : (dd (ab x)).length ≤ 1000) (hly : (dd (ab y)).length ≤ 1000) (w : World) (hu : BigAt w u x) (hv : BigAt w v y) :
    Calls Tryz.prog 93 #[u, v] w fun e w' => ∃ v, e = .returned v ∧ BigAt w' v (x + y) ∧ Below w.heap.size w w' := by
  obtain ⟨A, c, rfl, hc, hA⟩ := hu
  obtain ⟨B, d, rfl, hd, hB⟩ := hv
  have HA := Hd.mk hA
  have HB := Hd.mk hB
  clear hA hB
  by_cases hs : ng x = ng y
  · have hq : (ng x == ng y) = true := by rw [hs]; simp
    have HV : Hd (zof (ng x) (ab x + ab y) = x + y) := ⟨(sum_alike x y hs).2⟩
    clear hs
    go_enter Tryz.func93, Tryz.ntmps93
    go_upto_region 2 with (fail)
    refine abs_wp (fun W => W.heap[w.heap.size]? = some (.cells #[.bool (ng x), .slice A (dd (ab x)).length c] 53 (0, 0)) ∧ W.heap[w.heap.size + 1]? = some (.cells #[.bool (ng y), .slice B (dd (ab y)).length d] 53 (0, 0)) ∧ W.heap[w.heap.size + 1 + 1]? = some (.cells #[.bool false, .slice none 0 0] 53 (0, 0)) ∧ Below w.heap.size w W) ⟨heap_old (heap_old (heap_new _ _) _) _, heap_old (heap_at (by simp) _) _, heap_at (by simp) _, by focus (repeat (first | (with_reducible exact Below.refl _ _) | (with_reducible assumption) | ((with_reducible refine Below.setCell ?_ ?_ _); rotate_left; (focus (first | omega | (simp; done) | (simp; omega)))) | ((with_reducible refine Below.alloc ?_ ?_ _); rotate_left; (focus (first | omega | (simp; done) | (simp; omega)))) | (with_reducible refine Below.drew ?_) | (refine below_on ?_ (by assumption))))⟩ fun W ⟨y0, y1, y2, hB⟩ => ?_
    clear hq
    have HS : Hd (∀ W', Below (w.heap.size + 1 + 1) W W' → (W'.cell? ⟨w.heap.size, 0, none⟩ = some (.bool (ng x)) ∧ W'.cell? ⟨w.heap.size, 1, none⟩ = some (.slice A (dd (ab x)).length c)) ∧ W'.cell? ⟨w.heap.size + 1, 0, none⟩ = some (.bool (ng y)) ∧ W'.cell? ⟨w.heap.size + 1, 1, none⟩ = some (.slice B (dd (ab y)).length d)) :=
      ⟨fun W' h => ⟨⟨(h.cell (show w.heap.size < w.heap.size + 1 + 1 by omega)).trans (cell_at y0 0), (h.cell (show w.heap.size < w.heap.size + 1 + 1 by omega)).trans (cell_at y0 1)⟩, (h.cell (show w.heap.size + 1 < w.heap.size + 1 + 1 by omega)).trans (cell_at y1 0), (h.cell (show w.heap.size + 1 < w.heap.size + 1 + 1 by omega)).trans (cell_at y1 1)⟩⟩
    have hD0 : Below (w.heap.size + 1 + 1) W W.drew := Below.drew (Below.refl _ _)
    have hB0 : Below w.heap.size w W.drew := Below.drew hB
    have z0 : W.drew.heap[w.heap.size + 1 + 1]? = some (.cells #[.bool false, .slice none 0 0] 53 (0, 0)) := y2
    have hsz : w.heap.size + 1 + 1 ≤ W.heap.size := Nat.le_of_lt (lt_of_block y2)
    clear y0 y1 y2 hB
    go_region_held3 (fun W' => (W'.cell? ⟨w.heap.size, 0, none⟩ = some (.bool (ng x)) ∧ W'.cell? ⟨w.heap.size, 1, none⟩ = some (.slice A (dd (ab x)).length c)) ∧ W'.cell? ⟨w.heap.size + 1, 0, none⟩ = some (.bool (ng y)) ∧ W'.cell? ⟨w.heap.size + 1, 1, none⟩ = some (.slice B (dd (ab y)).length d)) ((exact HS.out _ (by focus (repeat (first | (with_reducible exact Below.refl _ _) | (with_reducible assumption) | ((with_reducible refine Below.setCell ?_ ?_ _); rotate_left; (focus (first | omega | (simp; done) | (simp; omega)))) | ((with_reducible refine Below.alloc ?_ ?_ _); rotate_left; (focus (first | omega | (simp; done) | (simp; omega)))) | (with_reducible refine Below.drew ?_) | (refine below_on ?_ (by assumption)))))))
      ((first
        | (go_at_call 103; refine (rplus_any (ab x) (ab y) A B c d hc hd hlx hly _ (HA.out.below hB0) (HB.out.below hB0)).mono ?_; rintro e wa ⟨va, rfl, ⟨A1, c1, rfl, hc1, hD1, _⟩, hb⟩; have hB1 := below_on hB0 hb; have z1 := heap_below hb z0; have hD2 := below_up hsz hD0 hb; clear hb)
        | (go_at_call 100; refine (rof_any (ng x) A1 c1 _ hc1 (dd_range _) _ hD1).mono ?_; rintro e wb ⟨vb, rfl, hV, hb⟩; rw [val_of_dd, HV.out] at hV; obtain ⟨A', c', rfl, h1, h2⟩ := hV; have hB2 := below_on hB1 hb; have z2 := heap_below hb z1; have hD3 := below_up hsz hD2 hb; have q1 := cell_at z2; have q2 := frozen_at z2; clear hb)))
    have h3 := h2.laid z2 (.bool (ng (x + y))) (.slice A' (dd (ab (x + y))).length c')
    have z3 := laid_both (w.heap.size + 1 + 1) wb (.bool (ng (x + y))) (.slice A' (dd (ab (x + y))).length c') z2 rfl
    have HBB : Hd (Below w.heap.size w ((wb.setCell ⟨w.heap.size + 1 + 1, 0, none⟩ (.bool (ng (x + y)))).setCell ⟨w.heap.size + 1 + 1, 1, none⟩ (.slice A' (dd (ab (x + y))).length c'))) := ⟨by focus (repeat (first | (with_reducible exact Below.refl _ _) | (with_reducible assumption) | ((with_reducible refine Below.setCell ?_ ?_ _); rotate_left; (focus (first | omega | (simp; done) | (simp; omega)))) | ((with_reducible refine Below.alloc ?_ ?_ _); rotate_left; (focus (first | omega | (simp; done) | (simp; omega)))) | (with_reducible refine Below.drew ?_) | (refine below_on ?_ (by assumption))))⟩
    clear HS hD0 hB0 z0 hD1 hB1 z1 hD2 q1 q2 hD3 hB2 z2 h2
    generalize (wb.setCell ⟨w.heap.size + 1 + 1, 0, none⟩ (.bool (ng (x + y)))).setCell ⟨w.heap.size + 1 + 1, 1, none⟩ (.slice A' (dd (ab (x + y))).length c') = wz at *
    have HD3 := Hd.mk h3
    have c1 := cell_at z3
    go_wp2
    refine bodyPost_ret (by simp [results, Tryz.results93, go_sem, c1]) rfl ⟨_, rfl, ⟨A', c', rfl, h1, HD3.out⟩, HBB.out⟩
  · have hq : (ng x == ng y) = false := by simpa using hs
    obtain ⟨k1, k2, _⟩ := sum_apart x y hs
    clear hs
    by_cases hle : ab y ≤ ab x
    · have HV : Hd (zof (ng x) (ab x - ab y) = x + y) := ⟨k1 hle⟩
      have hC : decide (cmpN (ab x) (ab y) ≥ 0) = true := by unfold cmpN; rw [if_neg (by omega)]; split <;> rfl
      have HL := Hd.mk hle
      clear k1 k2 hle
      go_enter Tryz.func93, Tryz.ntmps93
      go_wp2_with fail
      refine (rmags_any (ab x) (ab y) A B c d hc hd _ (HA.out.below (by focus (repeat (first | (with_reducible exact Below.refl _ _) | (with_reducible assumption) | ((with_reducible refine Below.setCell ?_ ?_ _); rotate_left; (focus (first | omega | (simp; done) | (simp; omega)))) | ((with_reducible refine Below.alloc ?_ ?_ _); rotate_left; (focus (first | omega | (simp; done) | (simp; omega)))) | (with_reducible refine Below.drew ?_) | (refine below_on ?_ (by assumption)))))) (HB.out.below (by focus (repeat (first | (with_reducible exact Below.refl _ _) | (with_reducible assumption) | ((with_reducible refine Below.setCell ?_ ?_ _); rotate_left; (focus (first | omega | (simp; done) | (simp; omega)))) | ((with_reducible refine Below.alloc ?_ ?_ _); rotate_left; (focus (first | omega | (simp; done) | (simp; omega)))) | (with_reducible refine Below.drew ?_) | (refine below_on ?_ (by assumption))))))).mono ?_
      rintro e W ⟨rfl, hb⟩
      have y0 := heap_below hb (heap_old (heap_old (heap_new w _) _) _)
      have y1 := heap_below hb (heap_old (heap_at (n := w.heap.size + 1) (by simp) _) _)
      have y2 := heap_below hb (heap_at (n := w.heap.size + 1 + 1) (by simp) _)
      have hB : Below w.heap.size w W := by focus (repeat (first | (with_reducible exact Below.refl _ _) | (with_reducible assumption) | ((with_reducible refine Below.setCell ?_ ?_ _); rotate_left; (focus (first | omega | (simp; done) | (simp; omega)))) | ((with_reducible refine Below.alloc ?_ ?_ _); rotate_left; (focus (first | omega | (simp; done) | (simp; omega)))) | (with_reducible refine Below.drew ?_) | (refine below_on ?_ (by assumption))))
      clear hb
      have c0 := cell_at y0
      have c1 := cell_at y1
      go_upto_region 4 with (fail)
      clear hq hC c0 c1
      have HS : Hd (∀ W', Below (w.heap.size + 1 + 1) W W' → (W'.cell? ⟨w.heap.size, 0, none⟩ = some (.bool (ng x)) ∧ W'.cell? ⟨w.heap.size, 1, none⟩ = some (.slice A (dd (ab x)).length c)) ∧ W'.cell? ⟨w.heap.size + 1, 0, none⟩ = some (.bool (ng y)) ∧ W'.cell? ⟨w.heap.size + 1, 1, none⟩ = some (.slice B (dd (ab y)).length d)) :=
        ⟨fun W' h => ⟨⟨(h.cell (show w.heap.size < w.heap.size + 1 + 1 by omega)).trans (cell_at y0 0), (h.cell (show w.heap.size < w.heap.size + 1 + 1 by omega)).trans (cell_at y0 1)⟩, (h.cell (show w.heap.size + 1 < w.heap.size + 1 + 1 by omega)).trans (cell_at y1 0), (h.cell (show w.heap.size + 1 < w.heap.size + 1 + 1 by omega)).trans (cell_at y1 1)⟩⟩
      have hD0 : Below (w.heap.size + 1 + 1) W W.drew := Below.drew (Below.refl _ _)
      have hB0 : Below w.heap.size w W.drew := Below.drew hB
      have z0 : W.drew.heap[w.heap.size + 1 + 1]? = some (.cells #[.bool false, .slice none 0 0] 53 (0, 0)) := y2
      have hsz : w.heap.size + 1 + 1 ≤ W.heap.size := Nat.le_of_lt (lt_of_block y2)
      clear y0 y1 y2 hB
      go_region_held3 (fun W' => (W'.cell? ⟨w.heap.size, 0, none⟩ = some (.bool (ng x)) ∧ W'.cell? ⟨w.heap.size, 1, none⟩ = some (.slice A (dd (ab x)).length c)) ∧ W'.cell? ⟨w.heap.size + 1, 0, none⟩ = some (.bool (ng y)) ∧ W'.cell? ⟨w.heap.size + 1, 1, none⟩ = some (.slice B (dd (ab y)).length d)) ((exact HS.out _ (by focus (repeat (first | (with_reducible exact Below.refl _ _) | (with_reducible assumption) | ((with_reducible refine Below.setCell ?_ ?_ _); rotate_left; (focus (first | omega | (simp; done) | (simp; omega)))) | ((with_reducible refine Below.alloc ?_ ?_ _); rotate_left; (focus (first | omega | (simp; done) | (simp; omega)))) | (with_reducible refine Below.drew ?_) | (refine below_on ?_ (by assumption)))))))
        ((first
          | (go_at_call 105; refine (rless_any (ab x) (ab y) HL.out A B c d hc hd hlx hly _ (HA.out.below hB0) (HB.out.below hB0)).mono ?_; rintro e wa ⟨va, rfl, ⟨A1, c1, rfl, hc1, hD1, _⟩, hb⟩; have hB1 := below_on hB0 hb; have z1 := heap_below hb z0; have hD2 := below_up hsz hD0 hb; clear hb)
          | (go_at_call 100; refine (rof_any (ng x) A1 c1 _ hc1 (dd_range _) _ hD1).mono ?_; rintro e wb ⟨vb, rfl, hV, hb⟩; rw [val_of_dd, HV.out] at hV; obtain ⟨A', c', rfl, h1, h2⟩ := hV; have hB2 := below_on hB1 hb; have z2 := heap_below hb z1; have hD3 := below_up hsz hD2 hb; have q1 := cell_at z2; have q2 := frozen_at z2; clear hb)))
      have h3 := h2.laid z2 (.bool (ng (x + y))) (.slice A' (dd (ab (x + y))).length c')
      have z3 := laid_both (w.heap.size + 1 + 1) wb (.bool (ng (x + y))) (.slice A' (dd (ab (x + y))).length c') z2 rfl
      have HBB : Hd (Below w.heap.size w ((wb.setCell ⟨w.heap.size + 1 + 1, 0, none⟩ (.bool (ng (x + y)))).setCell ⟨w.heap.size + 1 + 1, 1, none⟩ (.slice A' (dd (ab (x + y))).length c'))) := ⟨by focus (repeat (first | (with_reducible exact Below.refl _ _) | (with_reducible assumption) | ((with_reducible refine Below.setCell ?_ ?_ _); rotate_left; (focus (first | omega | (simp; done) | (simp; omega)))) | ((with_reducible refine Below.alloc ?_ ?_ _); rotate_left; (focus (first | omega | (simp; done) | (simp; omega)))) | (with_reducible refine Below.drew ?_) | (refine below_on ?_ (by assumption))))⟩
      clear HS hD0 hB0 z0 hD1 hB1 z1 hD2 q1 q2 hD3 hB2 z2 h2
      generalize (wb.setCell ⟨w.heap.size + 1 + 1, 0, none⟩ (.bool (ng (x + y)))).setCell ⟨w.heap.size + 1 + 1, 1, none⟩ (.slice A' (dd (ab (x + y))).length c') = wz at *
      have HD3 := Hd.mk h3
      have c1 := cell_at z3
      go_wp2
      refine bodyPost_ret (by simp [results, Tryz.results93, go_sem, c1]) rfl ⟨_, rfl, ⟨A', c', rfl, h1, HD3.out⟩, HBB.out⟩
    · have HV : Hd (zof (ng y) (ab y - ab x) = x + y) := ⟨k2 (by omega)⟩
      have hC : decide (cmpN (ab x) (ab y) ≥ 0) = false := by unfold cmpN; rw [if_pos (by omega)]; rfl
      have HL : Hd (ab x ≤ ab y) := ⟨by omega⟩
      clear k1 k2 hle
      go_enter Tryz.func93, Tryz.ntmps93
      go_wp2_with fail
      refine (rmags_any (ab x) (ab y) A B c d hc hd _ (HA.out.below (by focus (repeat (first | (with_reducible exact Below.refl _ _) | (with_reducible assumption) | ((with_reducible refine Below.setCell ?_ ?_ _); rotate_left; (focus (first | omega | (simp; done) | (simp; omega)))) | ((with_reducible refine Below.alloc ?_ ?_ _); rotate_left; (focus (first | omega | (simp; done) | (simp; omega)))) | (with_reducible refine Below.drew ?_) | (refine below_on ?_ (by assumption)))))) (HB.out.below (by focus (repeat (first | (with_reducible exact Below.refl _ _) | (with_reducible assumption) | ((with_reducible refine Below.setCell ?_ ?_ _); rotate_left; (focus (first | omega | (simp; done) | (simp; omega)))) | ((with_reducible refine Below.alloc ?_ ?_ _); rotate_left; (focus (first | omega | (simp; done) | (simp; omega)))) | (with_reducible refine Below.drew ?_) | (refine below_on ?_ (by assumption))))))).mono ?_
      rintro e W ⟨rfl, hb⟩
      have y0 := heap_below hb (heap_old (heap_old (heap_new w _) _) _)
      have y1 := heap_below hb (heap_old (heap_at (n := w.heap.size + 1) (by simp) _) _)
      have y2 := heap_below hb (heap_at (n := w.heap.size + 1 + 1) (by simp) _)
      have hB : Below w.heap.size w W := by focus (repeat (first | (with_reducible exact Below.refl _ _) | (with_reducible assumption) | ((with_reducible refine Below.setCell ?_ ?_ _); rotate_left; (focus (first | omega | (simp; done) | (simp; omega)))) | ((with_reducible refine Below.alloc ?_ ?_ _); rotate_left; (focus (first | omega | (simp; done) | (simp; omega)))) | (with_reducible refine Below.drew ?_) | (refine below_on ?_ (by assumption))))
      clear hb
      have c0 := cell_at y0
      have c1 := cell_at y1
      go_upto_region 5 with (fail)
      clear hq hC c0 c1
      have HS : Hd (∀ W', Below (w.heap.size + 1 + 1) W W' → (W'.cell? ⟨w.heap.size, 0, none⟩ = some (.bool (ng x)) ∧ W'.cell? ⟨w.heap.size, 1, none⟩ = some (.slice A (dd (ab x)).length c)) ∧ W'.cell? ⟨w.heap.size + 1, 0, none⟩ = some (.bool (ng y)) ∧ W'.cell? ⟨w.heap.size + 1, 1, none⟩ = some (.slice B (dd (ab y)).length d)) :=
        ⟨fun W' h => ⟨⟨(h.cell (show w.heap.size < w.heap.size + 1 + 1 by omega)).trans (cell_at y0 0), (h.cell (show w.heap.size < w.heap.size + 1 + 1 by omega)).trans (cell_at y0 1)⟩, (h.cell (show w.heap.size + 1 < w.heap.size + 1 + 1 by omega)).trans (cell_at y1 0), (h.cell (show w.heap.size + 1 < w.heap.size + 1 + 1 by omega)).trans (cell_at y1 1)⟩⟩
      have hD0 : Below (w.heap.size + 1 + 1) W W.drew := Below.drew (Below.refl _ _)
      have hB0 : Below w.heap.size w W.drew := Below.drew hB
      have z0 : W.drew.heap[w.heap.size + 1 + 1]? = some (.cells #[.bool false, .slice none 0 0] 53 (0, 0)) := y2
      have hsz : w.heap.size + 1 + 1 ≤ W.heap.size := Nat.le_of_lt (lt_of_block y2)
      clear y0 y1 y2 hB
      go_region_held3 (fun W' => (W'.cell? ⟨w.heap.size, 0, none⟩ = some (.bool (ng x)) ∧ W'.cell? ⟨w.heap.size, 1, none⟩ = some (.slice A (dd (ab x)).length c)) ∧ W'.cell? ⟨w.heap.size + 1, 0, none⟩ = some (.bool (ng y)) ∧ W'.cell? ⟨w.heap.size + 1, 1, none⟩ = some (.slice B (dd (ab y)).length d)) ((exact HS.out _ (by focus (repeat (first | (with_reducible exact Below.refl _ _) | (with_reducible assumption) | ((with_reducible refine Below.setCell ?_ ?_ _); rotate_left; (focus (first | omega | (simp; done) | (simp; omega)))) | ((with_reducible refine Below.alloc ?_ ?_ _); rotate_left; (focus (first | omega | (simp; done) | (simp; omega)))) | (with_reducible refine Below.drew ?_) | (refine below_on ?_ (by assumption)))))))
        ((first
          | (go_at_call 105; refine (rless_any (ab y) (ab x) HL.out B A d c hd hc hly hlx _ (HB.out.below hB0) (HA.out.below hB0)).mono ?_; rintro e wa ⟨va, rfl, ⟨A1, c1, rfl, hc1, hD1, _⟩, hb⟩; have hB1 := below_on hB0 hb; have z1 := heap_below hb z0; have hD2 := below_up hsz hD0 hb; clear hb)
          | (go_at_call 100; refine (rof_any (ng y) A1 c1 _ hc1 (dd_range _) _ hD1).mono ?_; rintro e wb ⟨vb, rfl, hV, hb⟩; rw [val_of_dd, HV.out] at hV; obtain ⟨A', c', rfl, h1, h2⟩ := hV; have hB2 := below_on hB1 hb; have z2 := heap_below hb z1; have hD3 := below_up hsz hD2 hb; have q1 := cell_at z2; have q2 := frozen_at z2; clear hb)))
      have h3 := h2.laid z2 (.bool (ng (x + y))) (.slice A' (dd (ab (x + y))).length c')
      have z3 := laid_both (w.heap.size + 1 + 1) wb (.bool (ng (x + y))) (.slice A' (dd (ab (x + y))).length c') z2 rfl
      have HBB : Hd (Below w.heap.size w ((wb.setCell ⟨w.heap.size + 1 + 1, 0, none⟩ (.bool (ng (x + y)))).setCell ⟨w.heap.size + 1 + 1, 1, none⟩ (.slice A' (dd (ab (x + y))).length c'))) := ⟨by focus (repeat (first | (with_reducible exact Below.refl _ _) | (with_reducible assumption) | ((with_reducible refine Below.setCell ?_ ?_ _); rotate_left; (focus (first | omega | (simp; done) | (simp; omega)))) | ((with_reducible refine Below.alloc ?_ ?_ _); rotate_left; (focus (first | omega | (simp; done) | (simp; omega)))) | (with_reducible refine Below.drew ?_) | (refine below_on ?_ (by assumption))))⟩
      clear HS hD0 hB0 z0 hD1 hB1 z1 hD2 q1 q2 hD3 hB2 z2 h2
      generalize (wb.setCell ⟨w.heap.size + 1 + 1, 0, none⟩ (.bool (ng (x + y)))).setCell ⟨w.heap.size + 1 + 1, 1, none⟩ (.slice A' (dd (ab (x + y))).length c') = wz at *
      have HD3 := Hd.mk h3
      have c1 := cell_at z3
      go_wp2
      refine bodyPost_ret (by simp [results, Tryz.results93, go_sem, c1]) rfl ⟨_, rfl, ⟨A', c', rfl, h1, HD3.out⟩, HBB.out⟩
open Go.RowKit Go.BigFrame

/-- The Int of a number, or that it is too great. -/
def outV (z : Int) : Int := if ab z < 2 ^ 256 then z else 0
def outE (z : Int) : Int := if ab z < 2 ^ 256 then 0 else 110
set_option maxHeartbeats 1000000 in
theorem rout_ok (x : Int) (hx : ab x < 2 ^ 256) (u : Value) (w : World) (hu : BigAt w u x) :
    Calls Tryz.prog 74 #[u] w fun e w' => e = .returned (.tuple #[.agg #[.bool (ng (x)), .int .u64 (dg (ab (x)) 0), .int .u64 (dg (ab (x)) 1), .int .u64 (dg (ab (x)) 2), .int .u64 (dg (ab (x)) 3)], .int .i64 0]) ∧ Below w.heap.size w w' := by
  have HU := Hd.mk hu
  have HX := Hd.mk hx
  obtain ⟨A, c, rfl, hc, hA⟩ := hu
  clear hA hx
  go_enter Tryz.func74, Tryz.ntmps74
  go_wp2_with fail
  refine (rto_ok x HX.out _ _ (HU.out.below (by focus (repeat (first | (with_reducible exact Below.refl _ _) | (with_reducible assumption) | ((with_reducible refine Below.setCell ?_ ?_ _); rotate_left; (focus (first | omega | (simp; done) | (simp; omega)))) | ((with_reducible refine Below.alloc ?_ ?_ _); rotate_left; (focus (first | omega | (simp; done) | (simp; omega)))) | (with_reducible refine Below.drew ?_) | (refine below_on ?_ (by assumption))))))).mono ?_
  rintro e w1 ⟨rfl, hb⟩
  have y1 := heap_below hb (heap_at (n := w.heap.size + 1) (by simp) _)
  have hB : Below w.heap.size w w1 := by focus (repeat (first | (with_reducible exact Below.refl _ _) | (with_reducible assumption) | ((with_reducible refine Below.setCell ?_ ?_ _); rotate_left; (focus (first | omega | (simp; done) | (simp; omega)))) | ((with_reducible refine Below.alloc ?_ ?_ _); rotate_left; (focus (first | omega | (simp; done) | (simp; omega)))) | (with_reducible refine Below.drew ?_) | (refine below_on ?_ (by assumption))))
  have hs1 := lt_of_block y1
  have q1 := cell_at y1
  have q2 := frozen_at y1
  clear hb
  go_wp2
  refine abs_post (fun W => W.heap[w.heap.size + 1]? = some (.cells #[.bool (ng (x)), .int .u64 (dg (ab (x)) 0), .int .u64 (dg (ab (x)) 1), .int .u64 (dg (ab (x)) 2), .int .u64 (dg (ab (x)) 3)] 42 (0, 0)) ∧ Below w.heap.size w W) ?_ fun W ⟨k1, hB⟩ => ?_
  · obtain ⟨l1, l2, l3⟩ := laid_five (w.heap.size + 1) w1 (.bool (ng x)) (.int .u64 (dg (ab x) 0)) (.int .u64 (dg (ab x) 1)) (.int .u64 (dg (ab x) 2)) (.int .u64 (dg (ab x) 3))
    exact ⟨heap_old (l1 y1 rfl) _, Below.alloc (hB.trans (l3 _ (by omega))) (by have := hB.size; simp; omega) _⟩
  · have k2 := cell_at k1
    refine bodyPost_ret (by simp [results, Tryz.results74, go_sem, k2]) rfl ⟨rfl, hB⟩
set_option maxHeartbeats 1000000 in
theorem rout_no (x : Int) (hx : ¬ ab x < 2 ^ 256) (u : Value) (w : World) (hu : BigAt w u x) :
    Calls Tryz.prog 74 #[u] w fun e w' => e = .returned (.tuple #[.agg #[.bool (ng (0)), .int .u64 (dg (ab (0)) 0), .int .u64 (dg (ab (0)) 1), .int .u64 (dg (ab (0)) 2), .int .u64 (dg (ab (0)) 3)], .int .i64 110]) ∧ Below w.heap.size w w' := by
  have HU := Hd.mk hu
  have HX := Hd.mk hx
  obtain ⟨A, c, rfl, hc, hA⟩ := hu
  clear hA hx
  go_enter Tryz.func74, Tryz.ntmps74
  go_wp2_with fail
  refine (rto_no x HX.out _ _ (HU.out.below (by focus (repeat (first | (with_reducible exact Below.refl _ _) | (with_reducible assumption) | ((with_reducible refine Below.setCell ?_ ?_ _); rotate_left; (focus (first | omega | (simp; done) | (simp; omega)))) | ((with_reducible refine Below.alloc ?_ ?_ _); rotate_left; (focus (first | omega | (simp; done) | (simp; omega)))) | (with_reducible refine Below.drew ?_) | (refine below_on ?_ (by assumption))))))).mono ?_
  rintro e w1 ⟨rfl, hb⟩
  have y1 := heap_below hb (heap_at (n := w.heap.size + 1) (by simp) _)
  have hB : Below w.heap.size w w1 := by focus (repeat (first | (with_reducible exact Below.refl _ _) | (with_reducible assumption) | ((with_reducible refine Below.setCell ?_ ?_ _); rotate_left; (focus (first | omega | (simp; done) | (simp; omega)))) | ((with_reducible refine Below.alloc ?_ ?_ _); rotate_left; (focus (first | omega | (simp; done) | (simp; omega)))) | (with_reducible refine Below.drew ?_) | (refine below_on ?_ (by assumption))))
  have hs1 := lt_of_block y1
  have q1 := cell_at y1
  have q2 := frozen_at y1
  clear hb
  go_wp2
  refine abs_post (fun W => W.heap[w.heap.size + 1]? = some (.cells #[.bool (ng (0)), .int .u64 (dg (ab (0)) 0), .int .u64 (dg (ab (0)) 1), .int .u64 (dg (ab (0)) 2), .int .u64 (dg (ab (0)) 3)] 42 (0, 0)) ∧ Below w.heap.size w W) ?_ fun W ⟨k1, hB⟩ => ?_
  · obtain ⟨l1, l2, l3⟩ := laid_five (w.heap.size + 1) w1 (.bool false) (.int .u64 0) (.int .u64 0) (.int .u64 0) (.int .u64 0)
    exact ⟨by rw [zero_cells]; exact heap_old (l1 y1 rfl) _, Below.alloc (hB.trans (l3 _ (by omega))) (by have := hB.size; simp; omega) _⟩
  · have k2 := cell_at k1
    refine bodyPost_ret (by simp [results, Tryz.results74, go_sem, k2]) rfl ⟨rfl, hB⟩
theorem rout_any (x : Int) (u : Value) (w : World) (hu : BigAt w u x) :
    Calls Tryz.prog 74 #[u] w fun e w' => e = .returned (.tuple #[.agg #[.bool (ng (outV x)), .int .u64 (dg (ab (outV x)) 0), .int .u64 (dg (ab (outV x)) 1), .int .u64 (dg (ab (outV x)) 2), .int .u64 (dg (ab (outV x)) 3)], .int .i64 (outE x)]) ∧ Below w.heap.size w w' := by
  by_cases hx : ab x < 2 ^ 256
  · rw [outV, outE, if_pos hx, if_pos hx]
    exact rout_ok x hx u w hu
  · rw [outV, outE, if_neg hx, if_neg hx]
    exact rout_no x hx u w hu
end Go.Proofs.YtbhfnfokihdjjaaGreatDoor

namespace Go.Proofs.YtbhfnfokihdjjaaGreatDoor
open Go.RowKit Go.BigFrame

theorem val_set : ∀ (ds : List Int) (j : Nat) (x v : Int), ds[j]? = some x → val (ds.set j v) + x.toNat * 65536 ^ j = val ds + v.toNat * 65536 ^ j
  | [], j, x, v, h => by simp at h
  | y :: ds, 0, x, v, h => by
    simp only [List.getElem?_cons_zero, Option.some.injEq] at h
    subst h
    simp only [List.set_cons_zero, val, Nat.pow_zero, Nat.mul_one]
    omega
  | y :: ds, j + 1, x, v, h => by
    rw [List.getElem?_cons_succ] at h
    have ih := val_set ds j x v h
    simp only [List.set_cons_succ, val, Nat.pow_succ, ← Nat.mul_assoc]
    omega
theorem dg_set {ds : List Int} (h : Dg ds) {j : Nat} {v : Int} (h0 : 0 ≤ v) (h1 : v < 65536) : Dg (ds.set j v) := by
  intro x hx
  rcases List.mem_or_eq_of_mem_set hx with h2 | rfl
  · exact h x h2
  · exact ⟨h0, h1⟩
theorem val_zeros : ∀ k : Nat, val (List.replicate k 0) = 0
  | 0 => rfl
  | k + 1 => by simp only [List.replicate_succ, val, val_zeros k]; rfl
/-- A row of digits under way: the product of the digits below i by n, and of digit i by those of n below k; C is carried. -/
def MulRow (m n L lb i k C : Nat) (ds : List Int) : Prop :=
  ds.length = L ∧ Dg ds ∧ val ds + C * 65536 ^ (i + k) = m % 65536 ^ i * n + 65536 ^ i * ((d16 m i).toNat * (n % 65536 ^ k)) ∧ ∀ j, i + lb ≤ j → j < L → ds[j]? = some 0
theorem mul_start (m n L lb : Nat) : MulRow m n L lb 0 0 0 (List.replicate L 0) := by
  refine ⟨by simp, ?_, ?_, ?_⟩
  · intro x hx
    have := (List.mem_replicate.1 hx).2
    omega
  · rw [val_zeros]
    simp [Nat.mod_one]
  · intro j _ hj
    simp [hj]
theorem mul_step {m n L lb i k C : Nat} {ds : List Int} (h : MulRow m n L lb i k C ds) {o : Int} (ho : ds[i + k]? = some o) (hk : k < lb) {s : Int} (h0 : 0 ≤ s) (hs : s = o + d16 m i * d16 n k + C) :
    MulRow m n L lb i (k + 1) (s / 65536).toNat (ds.set (i + k) (s % 65536)) := by
  obtain ⟨h1, h2, h3, h4⟩ := h
  refine ⟨by simp [h1], dg_set h2 (by omega) (by omega), ?_, ?_⟩
  · have hv := val_set ds (i + k) o (s % 65536) ho
    have ho1 := h2 o (List.mem_of_getElem? ho)
    obtain ⟨O, rfl⟩ := Int.eq_ofNat_of_zero_le ho1.1
    obtain ⟨S, rfl⟩ := Int.eq_ofNat_of_zero_le h0
    obtain ⟨X, hX⟩ : ∃ X : Nat, d16 m i = X := ⟨_, rfl⟩
    obtain ⟨Y, hY⟩ : ∃ Y : Nat, d16 n k = Y := ⟨_, rfl⟩
    have hY' : Y = n / 65536 ^ k % 65536 := by
      have : ((n / 65536 ^ k % 65536 : Nat) : Int) = Y := hY
      omega
    rw [hX] at h3 hs ⊢
    rw [hY] at hs
    have hS : S = O + X * Y + C := by
      have : ((S : Nat) : Int) = ((O + X * Y + C : Nat) : Int) := by rw [hs]; push_cast; rfl
      omega
    have e1 : (((S : Nat) : Int) % 65536).toNat = S % 65536 := by omega
    have e2 : (((S : Nat) : Int) / 65536).toNat = S / 65536 := by omega
    rw [e1, Int.toNat_natCast] at hv
    rw [e2, Int.toNat_natCast]
    rw [Int.toNat_natCast] at h3
    have hn : n % 65536 ^ (k + 1) = 65536 ^ k * Y + n % 65536 ^ k := by rw [Nat.pow_succ, mod_step, ← hY']
    rw [hn]
    have hp : 65536 ^ (i + (k + 1)) = 65536 ^ (i + k) * 65536 := by rw [← Nat.add_assoc, Nat.pow_succ]
    rw [hp]
    have hq : 65536 ^ i * (X * (65536 ^ k * Y + n % 65536 ^ k)) = 65536 ^ i * (X * (n % 65536 ^ k)) + X * Y * 65536 ^ (i + k) := by
      rw [Nat.mul_add, Nat.mul_add, Nat.pow_add, Nat.add_comm]
      congr 1
      rw [Nat.mul_left_comm X (65536 ^ k) Y, ← Nat.mul_assoc, Nat.mul_comm (X * Y)]
    rw [hq]
    have hS2 : S % 65536 + 65536 * (S / 65536) = S := by omega
    generalize 65536 ^ (i + k) = P at *
    have e3 : S / 65536 * (P * 65536) = 65536 * (S / 65536) * P := by rw [Nat.mul_comm P, ← Nat.mul_assoc, Nat.mul_comm (S / 65536)]
    rw [e3]
    have e4 : (S % 65536 + 65536 * (S / 65536)) * P = S * P := by rw [hS2]
    rw [Nat.add_mul] at e4
    have e5 : S * P = O * P + X * Y * P + C * P := by rw [hS, Nat.add_mul, Nat.add_mul]
    omega
  · intro j hj hjL
    rw [List.getElem?_set_ne (by omega)]
    exact h4 j hj hjL
theorem mul_next {m n L lb i C : Nat} {ds : List Int} (h : MulRow m n L lb i lb C ds) (hL : i + lb < L) (hn : n < 65536 ^ lb) (hC : C < 65536) :
    MulRow m n L lb (i + 1) 0 0 (ds.set (i + lb) (C : Int)) := by
  obtain ⟨h1, h2, h3, h4⟩ := h
  have h0 := h4 (i + lb) (Nat.le_refl _) hL
  have hv := val_set ds (i + lb) 0 C h0
  refine ⟨by simp [h1], dg_set h2 (by omega) (by omega), ?_, ?_⟩
  · rw [Nat.mod_eq_of_lt hn] at h3
    have e : m % 65536 ^ (i + 1) = 65536 ^ i * (d16 m i).toNat + m % 65536 ^ i := by
      rw [Nat.pow_succ, mod_step]; rfl
    rw [e, Nat.add_mul, Nat.pow_zero, Nat.mod_one, Nat.mul_zero, Nat.mul_zero, Nat.mul_assoc]
    have e0 : (0 : Int).toNat = 0 := rfl
    rw [e0, Int.toNat_natCast] at hv
    omega
  · intro j hj hjL
    rw [List.getElem?_set_ne (by omega)]
    exact h4 j (by omega) hjL
theorem mul_end {m n L lb i : Nat} {ds : List Int} (h : MulRow m n L lb i 0 0 ds) (hm : m < 65536 ^ i) : val ds = m * n := by
  have := h.2.2.1
  rw [Nat.mod_eq_of_lt hm, Nat.pow_zero, Nat.mod_one] at this
  simpa using this
/-- A row of digits in a block of its own. -/
def RowAt (W : World) (g : Nat) (ds : List Int) : Prop := W.heap[g]? = some (.cells (longV ds).toArray 2 (0, 0))
theorem RowAt.cell {W : World} {g : Nat} {ds : List Int} (h : RowAt W g ds) {j : Nat} {x : Int} (hx : ds[j]? = some x) : W.cell? ⟨g, j, none⟩ = some (.int .i64 x) := by
  rw [cell_at h]
  simp [longV, hx]
theorem RowAt.set {W : World} {g : Nat} {ds : List Int} (h : RowAt W g ds) (j : Nat) (v : Int) : RowAt (W.setCell ⟨g, j, none⟩ (.int .i64 v)) g (ds.set j v) := by
  unfold RowAt at *
  rw [heap_set h]
  congr 2
  simp [longV, List.map_set]
theorem RowAt.dig {W : World} {g : Nat} {ds : List Int} (h : RowAt W g ds) (hl : ds.length ≤ 1000000) : DigAt W (some ⟨g, 0, none⟩) ds :=
  ⟨hl, fun _ => ⟨g, 0, rfl, fun k x hk => by rw [Nat.zero_add]; exact h.cell hk⟩⟩
theorem row_own {W : World} {base g n : Nat} (h : W.ownsRow base 2 1 (.slice (some ⟨g, 0, none⟩) n n) n (madeCells #[.int .i64 0] n).toList) : RowAt W g (List.replicate n 0) := by
  rcases h.2 with ⟨h0, _⟩ | ⟨g', cap, cur, h1, _, h3, _, _, h5, h6⟩
  · cases h0
  · simp only [Value.slice.injEq, Option.some.injEq, Addr.mk.injEq] at h1
    obtain ⟨⟨rfl, _, _⟩, _, rfl⟩ := h1
    unfold RowAt
    rw [h3]
    congr 2
    have h7 : cur.toList = (madeCells #[.int .i64 0] n).toList := by
      rw [← h6, List.take_of_length_le (by simp [h5])]
    apply Array.ext'
    rw [h7]
    rw [toList_madeCells_one]
    simp [longV]
theorem zof_mul2 (x y : Int) : zof (ng x != ng y) (ab x * ab y) = x * y := zof_mul x y
theorem d16_mul (m n i k : Nat) : 0 ≤ d16 m i * d16 n k ∧ d16 m i * d16 n k ≤ 4294836225 := by
  have a1 := d16_lt m i
  have b1 := d16_lt n k
  refine ⟨Int.mul_nonneg (d16_nonneg _ _) (d16_nonneg _ _), ?_⟩
  have h1 : d16 m i * d16 n k ≤ 65535 * 65535 := Int.mul_le_mul (by omega) (by omega) (d16_nonneg _ _) (by omega)
  omega
/-- The blocks of a product under way. -/
def MulW (x y : Int) (A B : Option Addr) (c d la lb g : Nat) (ds : List Int) (w W : World) : Prop :=
  W.heap[w.heap.size]? = some (.cells #[.bool (ng x), .slice A la c] 53 (0, 0)) ∧ W.heap[w.heap.size + 1]? = some (.cells #[.bool (ng y), .slice B lb d] 53 (0, 0)) ∧
    W.heap[w.heap.size + 1 + 1]? = some (.cells #[.bool false, .slice none 0 0] 53 (0, 0)) ∧ RowAt W g ds ∧ Below w.heap.size w W
theorem MulW.below {x y : Int} {A B : Option Addr} {c d la lb g : Nat} {ds : List Int} {w W W1 : World} (h : MulW x y A B c d la lb g ds w W) (hb : Below W.heap.size W W1) : MulW x y A B c d la lb g ds w W1 :=
  ⟨heap_below hb h.1, heap_below hb h.2.1, heap_below hb h.2.2.1, heap_below hb h.2.2.2.1, below_on h.2.2.2.2 hb⟩
theorem MulW.set {x y : Int} {A B : Option Addr} {c d la lb : Nat} {ds : List Int} {w W : World} (h : MulW x y A B c d la lb (w.heap.size + 1 + 1 + 1) ds w W) (j : Nat) (v : Int) :
    MulW x y A B c d la lb (w.heap.size + 1 + 1 + 1) (ds.set j v) w (W.setCell ⟨w.heap.size + 1 + 1 + 1, j, none⟩ (.int .i64 v)) :=
  ⟨heap_set_other h.1 (by simp; omega) _, heap_set_other h.2.1 (by simp) _, heap_set_other h.2.2.1 (by simp) _, h.2.2.2.1.set j v, Below.setCell h.2.2.2.2 (by simp; omega) _⟩
set_option maxRecDepth 20000 in
set_option maxHeartbeats 2000000 in
theorem rmul_any (x y : Int) (u v : Value) (hlx : (dd (ab x)).length ≤ 1000) (hly : (dd (ab y)).length ≤ 1000) (w : World) (hu : BigAt w u x) (hv : BigAt w v y) :
    Calls Tryz.prog 92 #[u, v] w fun e w' => ∃ v, e = .returned v ∧ BigAt w' v (x * y) ∧ Below w.heap.size w w' := by
  obtain ⟨A, c, rfl, hc, hA⟩ := hu
  obtain ⟨B, d, rfl, hd, hB⟩ := hv
  have HA := Hd.mk hA
  have HB := Hd.mk hB
  clear hA hB
  obtain ⟨la, hla⟩ : ∃ la, (dd (ab x)).length = la := ⟨_, rfl⟩
  obtain ⟨lb, hlb⟩ : ∃ lb, (dd (ab y)).length = lb := ⟨_, rfl⟩
  have HLA := Hd.mk hla
  have HLB := Hd.mk hlb
  obtain ⟨i0, hi, hz0, hz1, hz2⟩ := info_parts infoLong
  have hu : Tryz.prog.underlying 51 = some (.slice 2) := by kernel_rfl
  rw [hla] at hlx
  rw [hlb] at hly
  rw [hla, hlb]
  clear hla hlb
  go_enter Tryz.func92, Tryz.ntmps92
  go_wp2_with (at_make; refine wpList_make_full _ rfl _ _ 51 rfl 0 2 i0 (.int .i64 0) 1 hu hi hz0 hz1 _ _ _ _ (la + lb + 1) rfl rfl (by omega) (by omega) (by rw [hz2]; omega) (by unfold maxLen; omega) (Nat.zero_le _) ?_)
  intro w1 hown hgrow
  have M0 : MulW x y A B c d la lb (w.heap.size + 1 + 1 + 1) (List.replicate (la + lb + 1) 0) w w1 := by
    refine ⟨(hgrow.block _ (by simp; omega) (by simp)).trans (heap_old (heap_old (heap_new w _) _) _), (hgrow.block _ (by simp) (by simp)).trans (heap_old (heap_at (by simp) _) _), (hgrow.block _ (by simp) (by simp)).trans (heap_at (by simp) _), row_own hown, ?_⟩
    refine Below.trans (b := ((w.alloc (.cells #[.bool (ng x), .slice A la c] 53)).alloc (.cells #[.bool (ng y), .slice B lb d] 53)).alloc (.cells #[.bool false, .slice none 0 0] 53)) ?_ (below_grown hgrow (fun k hk => by cases hk) (by simp; omega))
    focus (repeat (first | (with_reducible exact Below.refl _ _) | (with_reducible assumption) | ((with_reducible refine Below.setCell ?_ ?_ _); rotate_left; (focus (first | omega | (simp; done) | (simp; omega)))) | ((with_reducible refine Below.alloc ?_ ?_ _); rotate_left; (focus (first | omega | (simp; done) | (simp; omega)))) | (with_reducible refine Below.drew ?_) | (refine below_on ?_ (by assumption))))
  clear hown hgrow
  go_wp2
  go_loopw [6] (fun iv wr => ∃ (i : Nat) (ds : List Int), i ≤ la ∧ iv = .int .i64 i ∧ Hd (MulRow (ab x) (ab y) (la + lb + 1) lb i 0 0 ds) ∧ MulW x y A B c d la lb (w.heap.size + 1 + 1 + 1) ds w wr) (fun iv _ => la - (intOf iv).toNat)
  case atStart => exact ⟨0, _, Nat.zero_le _, rfl, ⟨mul_start _ _ _ _⟩, M0⟩
  case round =>
    clear M0
    obtain ⟨i, ds, hil, rfl, HR, M⟩ := hrel
    have HM := Hd.mk M
    have c0 := cell_at M.1
    have c1 := cell_at M.2.1
    clear M
    by_cases hlt : i < la
    · have hd1 : decide (i < la) = true := by simpa using hlt
      go_wp2
      go_loopw [7, 8] (fun cv kv wr => ∃ (k C : Nat) (ds : List Int), k ≤ lb ∧ kv = .int .i64 k ∧ cv = .int .i64 C ∧ C < 65536 ∧ Hd (MulRow (ab x) (ab y) (la + lb + 1) lb i k C ds) ∧ MulW x y A B c d la lb (w.heap.size + 1 + 1 + 1) ds w wr) (fun _ kv _ => lb - (intOf kv).toNat)
      case atStart => exact ⟨0, 0, ds, Nat.zero_le _, rfl, rfl, by omega, HR, HM.out⟩
      case round =>
        clear HR HM c0 c1
        obtain ⟨k, C, ds, hkl, rfl, rfl, hC, HR, M⟩ := hrel
        have HM := Hd.mk M
        have hB := M.2.2.2.2
        have y0 := M.1
        have y1 := M.2.1
        have c1 := cell_at y1
        by_cases hlk : k < lb
        · have hd2 : decide (k < lb) = true := by simpa using hlk
          obtain ⟨gA, oA, rfl, fA⟩ := (HA.out.below hB).2 (by rw [HLA.out]; omega)
          obtain ⟨gB, oB, rfl, fB⟩ := (HB.out.below hB).2 (by rw [HLB.out]; omega)
          obtain ⟨X, hX⟩ : ∃ X, (dd (ab x))[i]? = some X := ⟨_, List.getElem?_eq_getElem (by rw [HLA.out]; omega)⟩
          obtain ⟨Y, hY⟩ : ∃ Y, (dd (ab y))[k]? = some Y := ⟨_, List.getElem?_eq_getElem (by rw [HLB.out]; omega)⟩
          obtain ⟨o, ho⟩ : ∃ o, ds[i + k]? = some o := ⟨_, List.getElem?_eq_getElem (by rw [HR.out.1]; omega)⟩
          have g1 := fA i X hX
          have g2 := fB k Y hY
          have g3 := M.2.2.2.1.cell ho
          have l1 := World.block_lt_of_cell? _ _ g1
          have l2 := World.block_lt_of_cell? _ _ g2
          have l3 := World.block_lt_of_cell? _ _ g3
          have o1 := HR.out.2.1 o (List.mem_of_getElem? ho)
          have o2 := o1.2
          have o1 := o1.1
          obtain ⟨p1, p2⟩ := d16_mul (ab x) (ab y) i k
          rw [← dd_get _ _ _ hX, ← dd_get _ _ _ hY] at p1 p2
          obtain ⟨P, hP⟩ : ∃ P, X * Y = P := ⟨_, rfl⟩
          rw [hP] at p1 p2
          have HST := Hd.mk (mul_step HR.out ho hlk (s := o + P + C) (by omega) (by rw [← dd_get _ _ _ hX, ← dd_get _ _ _ hY, hP]))
          clear fA fB hX hY ho M HR
          go_wp2
          refine region_mix 20 (by kernel_rfl) (by kernel_rfl) (fun _ _ _ _ h => h) fun X _ mk hmk hcl => ?_
          have c0 := mk_cell hmk y0
          have c1 := mk_cell hmk y1
          have e1 := fun x => ((hmk x).cell l1).trans g1
          have e2 := fun x => ((hmk x).cell l2).trans g2
          have e3 := fun x => ((hmk x).cell l3).trans g3
          simp only [List.take_succ_cons, List.take_zero, List.drop_succ_cons, List.drop_zero]
          repeat (go_big_quiet_step (skip))
          refine wpQuiet_nil ?_
          rintro _ ⟨x, rfl⟩
          have hw1 := hmk x
          have M1 := HM.out.below hw1
          have k3 := e3 x
          clear hcl hmk c0 c1 e1 e2 e3 HM hB y0 y1 g1 g2 g3 l1 l2 l3
          generalize mk x = W1 at hw1 M1 k3
          clear hw1
          have f3 := frozen_at M1.2.2.2.1
          have l3 := World.block_lt_of_cell? _ _ k3
          have HM1 := Hd.mk M1
          clear M1
          go_wp2
          go_roundw
          case rel =>
            refine ⟨k + 1, ((o + P + C) / 65536).toNat, _, by omega, by go_num, ?_, by omega, HST, HM1.out.set _ _⟩
            rw [Int.toNat_of_nonneg (by omega)]
          case measure => simp [intOf]; omega
        · obtain rfl : k = lb := by omega
          have hd2 : decide (k < k) = false := by simp
          obtain ⟨o, ho⟩ : ∃ o, o = (0 : Int) := ⟨_, rfl⟩
          have g3 := M.2.2.2.1.cell (HR.out.2.2.2 (i + k) (Nat.le_refl _) (by omega))
          have l3 := World.block_lt_of_cell? _ _ g3
          have HST := Hd.mk (mul_next HR.out (by omega) ((dd_len _ _).1 (by rw [HLB.out]; exact Nat.le_refl _)) hC)
          clear M HR ho
          go_wp2
          refine region_mix 17 (by kernel_rfl) (by kernel_rfl) (fun _ _ _ _ h => h) fun X _ mk hmk hcl => ?_
          have c1 := mk_cell hmk y1
          have e3 := fun x => ((hmk x).cell l3).trans g3
          simp only [List.take_succ_cons, List.take_zero, List.drop_succ_cons, List.drop_zero]
          repeat (go_big_quiet_step (skip))
          refine wpQuiet_nil ?_
          rintro _ ⟨x, rfl⟩
          have hw1 := hmk x
          have M1 := HM.out.below hw1
          have k3 := e3 x
          clear hcl hmk c1 e3 HM hB y0 y1 g3 l3
          generalize mk x = W1 at hw1 M1 k3
          clear hw1
          have f3 := frozen_at M1.2.2.2.1
          have l3 := World.block_lt_of_cell? _ _ k3
          have HM1 := Hd.mk M1
          clear M1
          go_wp2
          go_roundw
          case rel => exact ⟨i + 1, _, by omega, by go_num, HST, HM1.out.set _ _⟩
          case measure => simp [intOf]; omega
    · obtain rfl : i = la := by omega
      have hd1 : decide (i < i) = false := by simp
      have M := HM.out
      have y2 := M.2.2.1
      have hB := Hd.mk M.2.2.2.2
      have hL : ds.length = i + lb + 1 := HR.out.1
      have hof := rof_any (ng x != ng y) (some ⟨w.heap.size + 1 + 1 + 1, 0, none⟩) (i + lb + 1) ds (Nat.le_of_eq hL) HR.out.2.1 wr (M.2.2.2.1.dig (by omega))
      rw [hL, mul_end HR.out ((dd_len _ _).1 (by rw [HLA.out]; exact Nat.le_refl _)), zof_mul2] at hof
      clear M HM hL HR
      go_wp2_with fail
      refine hof.mono ?_
      rintro e w2 ⟨v, rfl, hV, hb⟩
      have hw := below_on hB.out hb
      have z1 := heap_below hb y2
      clear hb y2 hB c0 c1
      obtain ⟨A', c', rfl, h1, h2⟩ := hV
      have hs2 := lt_of_block z1
      have q1 := cell_at z1
      have q2 := frozen_at z1
      have HD := Hd.mk (h2.laid z1)
      clear h2
      go_wp2
      have z2 := laid_both (w.heap.size + 1 + 1) w2 (.bool (ng (x * y))) (.slice A' (dd (ab (x * y))).length c') z1 rfl
      have c1 := cell_at z2
      refine bodyPost_ret (by simp [results, Tryz.results92, go_sem, c1]) rfl ⟨_, rfl, ⟨A', c', rfl, h1, HD.out _ _⟩, by focus (repeat (first | (with_reducible exact Below.refl _ _) | (with_reducible assumption) | ((with_reducible refine Below.setCell ?_ ?_ _); rotate_left; (focus (first | omega | (simp; done) | (simp; omega)))) | ((with_reducible refine Below.alloc ?_ ?_ _); rotate_left; (focus (first | omega | (simp; done) | (simp; omega)))) | (with_reducible refine Below.drew ?_) | (refine below_on ?_ (by assumption))))⟩
end Go.Proofs.YtbhfnfokihdjjaaGreatDoor
