/-
  Walks of the references: Sub, Out. Conditions stand in each theorem.
-/
import Derived.Test.YteibcklcegkbcaaRf10
import Derived.Test.YteibcklcegkbcaaOr1
namespace Go.Proofs.Yteibcklcegkbcaa
open Go.RowKit Go.BigFrame

theorem below_up {n : Nat} {w S W1 : World} (hn : n ≤ w.heap.size) (h : Below n w S) (k : Below S.heap.size S W1) : Below n w W1 := h.trans (k.mono (Nat.le_trans hn h.size))
set_option maxHeartbeats 1000000 in
theorem rneg_any (x y : Int) (hy : -x = y) (u : Value) (w : World) (hu : BigAt w u x) :
    Calls Try.prog 38 #[u] w fun e w' => ∃ v, e = .returned v ∧ BigAt w' v y ∧ Below w.heap.size w w' := by
  obtain ⟨A, c, rfl, hc, hA⟩ := hu
  have HA := Hd.mk hA
  have HV : Hd (zof (!ng x) (val (dd (ab x))) = y) := ⟨by
    rw [val_of_dd, ← hy]
    unfold zof ng ab
    by_cases h : x < 0 <;> simp [h] <;> omega⟩
  clear hA hy
  go_enter Try.func38, Try.ntmps38
  go_wp2_with fail
  refine (rof_any (!ng x) A c _ hc (dd_range _) _ (HA.out.below (by focus (repeat (first | (with_reducible exact Below.refl _ _) | (with_reducible assumption) | ((with_reducible refine Below.setCell ?_ ?_ _); rotate_left; (focus (first | omega | (simp; done) | (simp; omega)))) | ((with_reducible refine Below.alloc ?_ ?_ _); rotate_left; (focus (first | omega | (simp; done) | (simp; omega)))) | (with_reducible refine Below.drew ?_) | (refine below_on ?_ (by assumption))))))).mono ?_
  rintro e w2 ⟨v, rfl, hV, hb⟩
  rw [HV.out] at hV
  have hw : Below w.heap.size w w2 := by focus (repeat (first | (with_reducible exact Below.refl _ _) | (with_reducible assumption) | ((with_reducible refine Below.setCell ?_ ?_ _); rotate_left; (focus (first | omega | (simp; done) | (simp; omega)))) | ((with_reducible refine Below.alloc ?_ ?_ _); rotate_left; (focus (first | omega | (simp; done) | (simp; omega)))) | (with_reducible refine Below.drew ?_) | (refine below_on ?_ (by assumption))))
  have z1 := heap_below hb (heap_at (n := w.heap.size + 1) (by simp) _)
  clear hb
  obtain ⟨A', c', rfl, h1, h2⟩ := hV
  have hs2 := lt_of_block z1
  have q1 := cell_at z1
  have q2 := frozen_at z1
  have HD := Hd.mk (h2.laid z1)
  clear h2
  go_wp2
  have z2 := laid_both (w.heap.size + 1) w2 (.bool (ng (y))) (.slice A' (dd (ab (y))).length c') z1 rfl
  have c1 := cell_at z2
  refine bodyPost_ret (by simp [results, Try.results38, go_sem, c1]) rfl ⟨_, rfl, ⟨A', c', rfl, h1, HD.out _ _⟩, by focus (repeat (first | (with_reducible exact Below.refl _ _) | (with_reducible assumption) | ((with_reducible refine Below.setCell ?_ ?_ _); rotate_left; (focus (first | omega | (simp; done) | (simp; omega)))) | ((with_reducible refine Below.alloc ?_ ?_ _); rotate_left; (focus (first | omega | (simp; done) | (simp; omega)))) | (with_reducible refine Below.drew ?_) | (refine below_on ?_ (by assumption))))⟩
set_option maxHeartbeats 1000000 in
theorem radd_any (x y : Int) (u v : Value) (hlx : (dd (ab x)).length ≤ 1000) (hly : (dd (ab y)).length ≤ 1000) (w : World) (hu : BigAt w u x) (hv : BigAt w v y) :
    Calls Try.prog 63 #[u, v] w fun e w' => ∃ v, e = .returned v ∧ BigAt w' v (x + y) ∧ Below w.heap.size w w' := by
  obtain ⟨A, c, rfl, hc, hA⟩ := hu
  obtain ⟨B, d, rfl, hd, hB⟩ := hv
  have HA := Hd.mk hA
  have HB := Hd.mk hB
  clear hA hB
  by_cases hs : ng x = ng y
  · have hq : (ng x == ng y) = true := by rw [hs]; simp
    have HV : Hd (zof (ng x) (ab x + ab y) = x + y) := ⟨(sum_alike x y hs).2⟩
    clear hs
    go_enter Try.func63, Try.ntmps63
    go_upto_region 2 with (fail)
    refine abs_wp (fun W => W.heap[w.heap.size]? = some (.cells #[.bool (ng x), .slice A (dd (ab x)).length c] 38 (0, 0)) ∧ W.heap[w.heap.size + 1]? = some (.cells #[.bool (ng y), .slice B (dd (ab y)).length d] 38 (0, 0)) ∧ W.heap[w.heap.size + 1 + 1]? = some (.cells #[.bool false, .slice none 0 0] 38 (0, 0)) ∧ Below w.heap.size w W) ⟨heap_old (heap_old (heap_new _ _) _) _, heap_old (heap_at (by simp) _) _, heap_at (by simp) _, by focus (repeat (first | (with_reducible exact Below.refl _ _) | (with_reducible assumption) | ((with_reducible refine Below.setCell ?_ ?_ _); rotate_left; (focus (first | omega | (simp; done) | (simp; omega)))) | ((with_reducible refine Below.alloc ?_ ?_ _); rotate_left; (focus (first | omega | (simp; done) | (simp; omega)))) | (with_reducible refine Below.drew ?_) | (refine below_on ?_ (by assumption))))⟩ fun W ⟨y0, y1, y2, hB⟩ => ?_
    clear hq
    have HS : Hd (∀ W', Below (w.heap.size + 1 + 1) W W' → (W'.cell? ⟨w.heap.size, 0, none⟩ = some (.bool (ng x)) ∧ W'.cell? ⟨w.heap.size, 1, none⟩ = some (.slice A (dd (ab x)).length c)) ∧ W'.cell? ⟨w.heap.size + 1, 0, none⟩ = some (.bool (ng y)) ∧ W'.cell? ⟨w.heap.size + 1, 1, none⟩ = some (.slice B (dd (ab y)).length d)) :=
      ⟨fun W' h => ⟨⟨(h.cell (show w.heap.size < w.heap.size + 1 + 1 by omega)).trans (cell_at y0 0), (h.cell (show w.heap.size < w.heap.size + 1 + 1 by omega)).trans (cell_at y0 1)⟩, (h.cell (show w.heap.size + 1 < w.heap.size + 1 + 1 by omega)).trans (cell_at y1 0), (h.cell (show w.heap.size + 1 < w.heap.size + 1 + 1 by omega)).trans (cell_at y1 1)⟩⟩
    have hD0 : Below (w.heap.size + 1 + 1) W W.drew := Below.drew (Below.refl _ _)
    have hB0 : Below w.heap.size w W.drew := Below.drew hB
    have z0 : W.drew.heap[w.heap.size + 1 + 1]? = some (.cells #[.bool false, .slice none 0 0] 38 (0, 0)) := y2
    have hsz : w.heap.size + 1 + 1 ≤ W.heap.size := Nat.le_of_lt (lt_of_block y2)
    clear y0 y1 y2 hB
    go_region_held3 (fun W' => (W'.cell? ⟨w.heap.size, 0, none⟩ = some (.bool (ng x)) ∧ W'.cell? ⟨w.heap.size, 1, none⟩ = some (.slice A (dd (ab x)).length c)) ∧ W'.cell? ⟨w.heap.size + 1, 0, none⟩ = some (.bool (ng y)) ∧ W'.cell? ⟨w.heap.size + 1, 1, none⟩ = some (.slice B (dd (ab y)).length d)) ((exact HS.out _ (by focus (repeat (first | (with_reducible exact Below.refl _ _) | (with_reducible assumption) | ((with_reducible refine Below.setCell ?_ ?_ _); rotate_left; (focus (first | omega | (simp; done) | (simp; omega)))) | ((with_reducible refine Below.alloc ?_ ?_ _); rotate_left; (focus (first | omega | (simp; done) | (simp; omega)))) | (with_reducible refine Below.drew ?_) | (refine below_on ?_ (by assumption)))))))
      ((first
        | (go_at_call 52; refine (rplus_any (ab x) (ab y) A B c d hc hd hlx hly _ (HA.out.below hB0) (HB.out.below hB0)).mono ?_; rintro e wa ⟨va, rfl, ⟨A1, c1, rfl, hc1, hD1, _⟩, hb⟩; have hB1 := below_on hB0 hb; have z1 := heap_below hb z0; have hD2 := below_up hsz hD0 hb; clear hb)
        | (go_at_call 50; refine (rof_any (ng x) A1 c1 _ hc1 (dd_range _) _ hD1).mono ?_; rintro e wb ⟨vb, rfl, hV, hb⟩; rw [val_of_dd, HV.out] at hV; obtain ⟨A', c', rfl, h1, h2⟩ := hV; have hB2 := below_on hB1 hb; have z2 := heap_below hb z1; have hD3 := below_up hsz hD2 hb; have q1 := cell_at z2; have q2 := frozen_at z2; clear hb)))
    have h3 := h2.laid z2 (.bool (ng (x + y))) (.slice A' (dd (ab (x + y))).length c')
    have z3 := laid_both (w.heap.size + 1 + 1) wb (.bool (ng (x + y))) (.slice A' (dd (ab (x + y))).length c') z2 rfl
    have HBB : Hd (Below w.heap.size w ((wb.setCell ⟨w.heap.size + 1 + 1, 0, none⟩ (.bool (ng (x + y)))).setCell ⟨w.heap.size + 1 + 1, 1, none⟩ (.slice A' (dd (ab (x + y))).length c'))) := ⟨by focus (repeat (first | (with_reducible exact Below.refl _ _) | (with_reducible assumption) | ((with_reducible refine Below.setCell ?_ ?_ _); rotate_left; (focus (first | omega | (simp; done) | (simp; omega)))) | ((with_reducible refine Below.alloc ?_ ?_ _); rotate_left; (focus (first | omega | (simp; done) | (simp; omega)))) | (with_reducible refine Below.drew ?_) | (refine below_on ?_ (by assumption))))⟩
    clear HS hD0 hB0 z0 hD1 hB1 z1 hD2 q1 q2 hD3 hB2 z2 h2
    generalize (wb.setCell ⟨w.heap.size + 1 + 1, 0, none⟩ (.bool (ng (x + y)))).setCell ⟨w.heap.size + 1 + 1, 1, none⟩ (.slice A' (dd (ab (x + y))).length c') = wz at *
    have HD3 := Hd.mk h3
    have c1 := cell_at z3
    go_wp2
    refine bodyPost_ret (by simp [results, Try.results63, go_sem, c1]) rfl ⟨_, rfl, ⟨A', c', rfl, h1, HD3.out⟩, HBB.out⟩
  · have hq : (ng x == ng y) = false := by simpa using hs
    obtain ⟨k1, k2, _⟩ := sum_apart x y hs
    clear hs
    by_cases hle : ab y ≤ ab x
    · have HV : Hd (zof (ng x) (ab x - ab y) = x + y) := ⟨k1 hle⟩
      have hC : decide (cmpN (ab x) (ab y) ≥ 0) = true := by unfold cmpN; rw [if_neg (by omega)]; split <;> rfl
      have HL := Hd.mk hle
      clear k1 k2 hle
      go_enter Try.func63, Try.ntmps63
      go_wp2_with fail
      refine (rmags_any (ab x) (ab y) A B c d hc hd _ (HA.out.below (by focus (repeat (first | (with_reducible exact Below.refl _ _) | (with_reducible assumption) | ((with_reducible refine Below.setCell ?_ ?_ _); rotate_left; (focus (first | omega | (simp; done) | (simp; omega)))) | ((with_reducible refine Below.alloc ?_ ?_ _); rotate_left; (focus (first | omega | (simp; done) | (simp; omega)))) | (with_reducible refine Below.drew ?_) | (refine below_on ?_ (by assumption)))))) (HB.out.below (by focus (repeat (first | (with_reducible exact Below.refl _ _) | (with_reducible assumption) | ((with_reducible refine Below.setCell ?_ ?_ _); rotate_left; (focus (first | omega | (simp; done) | (simp; omega)))) | ((with_reducible refine Below.alloc ?_ ?_ _); rotate_left; (focus (first | omega | (simp; done) | (simp; omega)))) | (with_reducible refine Below.drew ?_) | (refine below_on ?_ (by assumption))))))).mono ?_
      rintro e W ⟨rfl, hb⟩
      have y0 := heap_below hb (heap_old (heap_old (heap_new w _) _) _)
      have y1 := heap_below hb (heap_old (heap_at (n := w.heap.size + 1) (by simp) _) _)
      have y2 := heap_below hb (heap_at (n := w.heap.size + 1 + 1) (by simp) _)
      have hB : Below w.heap.size w W := by focus (repeat (first | (with_reducible exact Below.refl _ _) | (with_reducible assumption) | ((with_reducible refine Below.setCell ?_ ?_ _); rotate_left; (focus (first | omega | (simp; done) | (simp; omega)))) | ((with_reducible refine Below.alloc ?_ ?_ _); rotate_left; (focus (first | omega | (simp; done) | (simp; omega)))) | (with_reducible refine Below.drew ?_) | (refine below_on ?_ (by assumption))))
      clear hb
      have c0 := cell_at y0
      have c1 := cell_at y1
      go_upto_region 4 with (fail)
      clear hq hC c0 c1
      have HS : Hd (∀ W', Below (w.heap.size + 1 + 1) W W' → (W'.cell? ⟨w.heap.size, 0, none⟩ = some (.bool (ng x)) ∧ W'.cell? ⟨w.heap.size, 1, none⟩ = some (.slice A (dd (ab x)).length c)) ∧ W'.cell? ⟨w.heap.size + 1, 0, none⟩ = some (.bool (ng y)) ∧ W'.cell? ⟨w.heap.size + 1, 1, none⟩ = some (.slice B (dd (ab y)).length d)) :=
        ⟨fun W' h => ⟨⟨(h.cell (show w.heap.size < w.heap.size + 1 + 1 by omega)).trans (cell_at y0 0), (h.cell (show w.heap.size < w.heap.size + 1 + 1 by omega)).trans (cell_at y0 1)⟩, (h.cell (show w.heap.size + 1 < w.heap.size + 1 + 1 by omega)).trans (cell_at y1 0), (h.cell (show w.heap.size + 1 < w.heap.size + 1 + 1 by omega)).trans (cell_at y1 1)⟩⟩
      have hD0 : Below (w.heap.size + 1 + 1) W W.drew := Below.drew (Below.refl _ _)
      have hB0 : Below w.heap.size w W.drew := Below.drew hB
      have z0 : W.drew.heap[w.heap.size + 1 + 1]? = some (.cells #[.bool false, .slice none 0 0] 38 (0, 0)) := y2
      have hsz : w.heap.size + 1 + 1 ≤ W.heap.size := Nat.le_of_lt (lt_of_block y2)
      clear y0 y1 y2 hB
      go_region_held3 (fun W' => (W'.cell? ⟨w.heap.size, 0, none⟩ = some (.bool (ng x)) ∧ W'.cell? ⟨w.heap.size, 1, none⟩ = some (.slice A (dd (ab x)).length c)) ∧ W'.cell? ⟨w.heap.size + 1, 0, none⟩ = some (.bool (ng y)) ∧ W'.cell? ⟨w.heap.size + 1, 1, none⟩ = some (.slice B (dd (ab y)).length d)) ((exact HS.out _ (by focus (repeat (first | (with_reducible exact Below.refl _ _) | (with_reducible assumption) | ((with_reducible refine Below.setCell ?_ ?_ _); rotate_left; (focus (first | omega | (simp; done) | (simp; omega)))) | ((with_reducible refine Below.alloc ?_ ?_ _); rotate_left; (focus (first | omega | (simp; done) | (simp; omega)))) | (with_reducible refine Below.drew ?_) | (refine below_on ?_ (by assumption)))))))
        ((first
          | (go_at_call 55; refine (rless_any (ab x) (ab y) HL.out A B c d hc hd hlx hly _ (HA.out.below hB0) (HB.out.below hB0)).mono ?_; rintro e wa ⟨va, rfl, ⟨A1, c1, rfl, hc1, hD1, _⟩, hb⟩; have hB1 := below_on hB0 hb; have z1 := heap_below hb z0; have hD2 := below_up hsz hD0 hb; clear hb)
          | (go_at_call 50; refine (rof_any (ng x) A1 c1 _ hc1 (dd_range _) _ hD1).mono ?_; rintro e wb ⟨vb, rfl, hV, hb⟩; rw [val_of_dd, HV.out] at hV; obtain ⟨A', c', rfl, h1, h2⟩ := hV; have hB2 := below_on hB1 hb; have z2 := heap_below hb z1; have hD3 := below_up hsz hD2 hb; have q1 := cell_at z2; have q2 := frozen_at z2; clear hb)))
      have h3 := h2.laid z2 (.bool (ng (x + y))) (.slice A' (dd (ab (x + y))).length c')
      have z3 := laid_both (w.heap.size + 1 + 1) wb (.bool (ng (x + y))) (.slice A' (dd (ab (x + y))).length c') z2 rfl
      have HBB : Hd (Below w.heap.size w ((wb.setCell ⟨w.heap.size + 1 + 1, 0, none⟩ (.bool (ng (x + y)))).setCell ⟨w.heap.size + 1 + 1, 1, none⟩ (.slice A' (dd (ab (x + y))).length c'))) := ⟨by focus (repeat (first | (with_reducible exact Below.refl _ _) | (with_reducible assumption) | ((with_reducible refine Below.setCell ?_ ?_ _); rotate_left; (focus (first | omega | (simp; done) | (simp; omega)))) | ((with_reducible refine Below.alloc ?_ ?_ _); rotate_left; (focus (first | omega | (simp; done) | (simp; omega)))) | (with_reducible refine Below.drew ?_) | (refine below_on ?_ (by assumption))))⟩
      clear HS hD0 hB0 z0 hD1 hB1 z1 hD2 q1 q2 hD3 hB2 z2 h2
      generalize (wb.setCell ⟨w.heap.size + 1 + 1, 0, none⟩ (.bool (ng (x + y)))).setCell ⟨w.heap.size + 1 + 1, 1, none⟩ (.slice A' (dd (ab (x + y))).length c') = wz at *
      have HD3 := Hd.mk h3
      have c1 := cell_at z3
      go_wp2
      refine bodyPost_ret (by simp [results, Try.results63, go_sem, c1]) rfl ⟨_, rfl, ⟨A', c', rfl, h1, HD3.out⟩, HBB.out⟩
    · have HV : Hd (zof (ng y) (ab y - ab x) = x + y) := ⟨k2 (by omega)⟩
      have hC : decide (cmpN (ab x) (ab y) ≥ 0) = false := by unfold cmpN; rw [if_pos (by omega)]; rfl
      have HL : Hd (ab x ≤ ab y) := ⟨by omega⟩
      clear k1 k2 hle
      go_enter Try.func63, Try.ntmps63
      go_wp2_with fail
      refine (rmags_any (ab x) (ab y) A B c d hc hd _ (HA.out.below (by focus (repeat (first | (with_reducible exact Below.refl _ _) | (with_reducible assumption) | ((with_reducible refine Below.setCell ?_ ?_ _); rotate_left; (focus (first | omega | (simp; done) | (simp; omega)))) | ((with_reducible refine Below.alloc ?_ ?_ _); rotate_left; (focus (first | omega | (simp; done) | (simp; omega)))) | (with_reducible refine Below.drew ?_) | (refine below_on ?_ (by assumption)))))) (HB.out.below (by focus (repeat (first | (with_reducible exact Below.refl _ _) | (with_reducible assumption) | ((with_reducible refine Below.setCell ?_ ?_ _); rotate_left; (focus (first | omega | (simp; done) | (simp; omega)))) | ((with_reducible refine Below.alloc ?_ ?_ _); rotate_left; (focus (first | omega | (simp; done) | (simp; omega)))) | (with_reducible refine Below.drew ?_) | (refine below_on ?_ (by assumption))))))).mono ?_
      rintro e W ⟨rfl, hb⟩
      have y0 := heap_below hb (heap_old (heap_old (heap_new w _) _) _)
      have y1 := heap_below hb (heap_old (heap_at (n := w.heap.size + 1) (by simp) _) _)
      have y2 := heap_below hb (heap_at (n := w.heap.size + 1 + 1) (by simp) _)
      have hB : Below w.heap.size w W := by focus (repeat (first | (with_reducible exact Below.refl _ _) | (with_reducible assumption) | ((with_reducible refine Below.setCell ?_ ?_ _); rotate_left; (focus (first | omega | (simp; done) | (simp; omega)))) | ((with_reducible refine Below.alloc ?_ ?_ _); rotate_left; (focus (first | omega | (simp; done) | (simp; omega)))) | (with_reducible refine Below.drew ?_) | (refine below_on ?_ (by assumption))))
      clear hb
      have c0 := cell_at y0
      have c1 := cell_at y1
      go_upto_region 5 with (fail)
      clear hq hC c0 c1
      have HS : Hd (∀ W', Below (w.heap.size + 1 + 1) W W' → (W'.cell? ⟨w.heap.size, 0, none⟩ = some (.bool (ng x)) ∧ W'.cell? ⟨w.heap.size, 1, none⟩ = some (.slice A (dd (ab x)).length c)) ∧ W'.cell? ⟨w.heap.size + 1, 0, none⟩ = some (.bool (ng y)) ∧ W'.cell? ⟨w.heap.size + 1, 1, none⟩ = some (.slice B (dd (ab y)).length d)) :=
        ⟨fun W' h => ⟨⟨(h.cell (show w.heap.size < w.heap.size + 1 + 1 by omega)).trans (cell_at y0 0), (h.cell (show w.heap.size < w.heap.size + 1 + 1 by omega)).trans (cell_at y0 1)⟩, (h.cell (show w.heap.size + 1 < w.heap.size + 1 + 1 by omega)).trans (cell_at y1 0), (h.cell (show w.heap.size + 1 < w.heap.size + 1 + 1 by omega)).trans (cell_at y1 1)⟩⟩
      have hD0 : Below (w.heap.size + 1 + 1) W W.drew := Below.drew (Below.refl _ _)
      have hB0 : Below w.heap.size w W.drew := Below.drew hB
      have z0 : W.drew.heap[w.heap.size + 1 + 1]? = some (.cells #[.bool false, .slice none 0 0] 38 (0, 0)) := y2
      have hsz : w.heap.size + 1 + 1 ≤ W.heap.size := Nat.le_of_lt (lt_of_block y2)
      clear y0 y1 y2 hB
      go_region_held3 (fun W' => (W'.cell? ⟨w.heap.size, 0, none⟩ = some (.bool (ng x)) ∧ W'.cell? ⟨w.heap.size, 1, none⟩ = some (.slice A (dd (ab x)).length c)) ∧ W'.cell? ⟨w.heap.size + 1, 0, none⟩ = some (.bool (ng y)) ∧ W'.cell? ⟨w.heap.size + 1, 1, none⟩ = some (.slice B (dd (ab y)).length d)) ((exact HS.out _ (by focus (repeat (first | (with_reducible exact Below.refl _ _) | (with_reducible assumption) | ((with_reducible refine Below.setCell ?_ ?_ _); rotate_left; (focus (first | omega | (simp; done) | (simp; omega)))) | ((with_reducible refine Below.alloc ?_ ?_ _); rotate_left; (focus (first | omega | (simp; done) | (simp; omega)))) | (with_reducible refine Below.drew ?_) | (refine below_on ?_ (by assumption)))))))
        ((first
          | (go_at_call 55; refine (rless_any (ab y) (ab x) HL.out B A d c hd hc hly hlx _ (HB.out.below hB0) (HA.out.below hB0)).mono ?_; rintro e wa ⟨va, rfl, ⟨A1, c1, rfl, hc1, hD1, _⟩, hb⟩; have hB1 := below_on hB0 hb; have z1 := heap_below hb z0; have hD2 := below_up hsz hD0 hb; clear hb)
          | (go_at_call 50; refine (rof_any (ng y) A1 c1 _ hc1 (dd_range _) _ hD1).mono ?_; rintro e wb ⟨vb, rfl, hV, hb⟩; rw [val_of_dd, HV.out] at hV; obtain ⟨A', c', rfl, h1, h2⟩ := hV; have hB2 := below_on hB1 hb; have z2 := heap_below hb z1; have hD3 := below_up hsz hD2 hb; have q1 := cell_at z2; have q2 := frozen_at z2; clear hb)))
      have h3 := h2.laid z2 (.bool (ng (x + y))) (.slice A' (dd (ab (x + y))).length c')
      have z3 := laid_both (w.heap.size + 1 + 1) wb (.bool (ng (x + y))) (.slice A' (dd (ab (x + y))).length c') z2 rfl
      have HBB : Hd (Below w.heap.size w ((wb.setCell ⟨w.heap.size + 1 + 1, 0, none⟩ (.bool (ng (x + y)))).setCell ⟨w.heap.size + 1 + 1, 1, none⟩ (.slice A' (dd (ab (x + y))).length c'))) := ⟨by focus (repeat (first | (with_reducible exact Below.refl _ _) | (with_reducible assumption) | ((with_reducible refine Below.setCell ?_ ?_ _); rotate_left; (focus (first | omega | (simp; done) | (simp; omega)))) | ((with_reducible refine Below.alloc ?_ ?_ _); rotate_left; (focus (first | omega | (simp; done) | (simp; omega)))) | (with_reducible refine Below.drew ?_) | (refine below_on ?_ (by assumption))))⟩
      clear HS hD0 hB0 z0 hD1 hB1 z1 hD2 q1 q2 hD3 hB2 z2 h2
      generalize (wb.setCell ⟨w.heap.size + 1 + 1, 0, none⟩ (.bool (ng (x + y)))).setCell ⟨w.heap.size + 1 + 1, 1, none⟩ (.slice A' (dd (ab (x + y))).length c') = wz at *
      have HD3 := Hd.mk h3
      have c1 := cell_at z3
      go_wp2
      refine bodyPost_ret (by simp [results, Try.results63, go_sem, c1]) rfl ⟨_, rfl, ⟨A', c', rfl, h1, HD3.out⟩, HBB.out⟩
open Go.RowKit Go.BigFrame

set_option maxHeartbeats 1000000 in
theorem rsub_any (x y : Int) (u v : Value) (hlx : (dd (ab x)).length ≤ 1000) (hly : (dd (ab y)).length ≤ 1000) (w : World) (hu : BigAt w u x) (hv : BigAt w v y) :
    Calls Try.prog 39 #[u, v] w fun e w' => ∃ v, e = .returned v ∧ BigAt w' v (x - y) ∧ Below w.heap.size w w' := by
  have HU := Hd.mk hu
  have HV := Hd.mk hv
  obtain ⟨A, c, rfl, hc, hA⟩ := hu
  obtain ⟨B, d, rfl, hd, hB⟩ := hv
  have HN : Hd ((dd (ab (-y))).length ≤ 1000) := ⟨by rw [show ab (-y) = ab y by unfold ab; omega]; exact hly⟩
  clear hA hB
  go_enter Try.func39, Try.ntmps39
  go_upto_region 1 with (fail)
  refine abs_wp (fun W => W.heap[w.heap.size]? = some (.cells #[.bool (ng x), .slice A (dd (ab x)).length c] 38 (0, 0)) ∧ W.heap[w.heap.size + 1]? = some (.cells #[.bool (ng y), .slice B (dd (ab y)).length d] 38 (0, 0)) ∧ W.heap[w.heap.size + 1 + 1]? = some (.cells #[.bool false, .slice none 0 0] 38 (0, 0)) ∧ Below w.heap.size w W) ⟨heap_old (heap_old (heap_new _ _) _) _, heap_old (heap_at (by simp) _) _, heap_at (by simp) _, by focus (repeat (first | (with_reducible exact Below.refl _ _) | (with_reducible assumption) | ((with_reducible refine Below.setCell ?_ ?_ _); rotate_left; (focus (first | omega | (simp; done) | (simp; omega)))) | ((with_reducible refine Below.alloc ?_ ?_ _); rotate_left; (focus (first | omega | (simp; done) | (simp; omega)))) | (with_reducible refine Below.drew ?_) | (refine below_on ?_ (by assumption))))⟩ fun W ⟨y0, y1, y2, hB⟩ => ?_
  have HS : Hd (∀ W', Below (w.heap.size + 1 + 1) W W' → (W'.cell? ⟨w.heap.size, 0, none⟩ = some (.bool (ng x)) ∧ W'.cell? ⟨w.heap.size, 1, none⟩ = some (.slice A (dd (ab x)).length c)) ∧ W'.cell? ⟨w.heap.size + 1, 0, none⟩ = some (.bool (ng y)) ∧ W'.cell? ⟨w.heap.size + 1, 1, none⟩ = some (.slice B (dd (ab y)).length d)) :=
    ⟨fun W' h => ⟨⟨(h.cell (show w.heap.size < w.heap.size + 1 + 1 by omega)).trans (cell_at y0 0), (h.cell (show w.heap.size < w.heap.size + 1 + 1 by omega)).trans (cell_at y0 1)⟩, (h.cell (show w.heap.size + 1 < w.heap.size + 1 + 1 by omega)).trans (cell_at y1 0), (h.cell (show w.heap.size + 1 < w.heap.size + 1 + 1 by omega)).trans (cell_at y1 1)⟩⟩
  have hD0 : Below (w.heap.size + 1 + 1) W W.drew := Below.drew (Below.refl _ _)
  have hB0 : Below w.heap.size w W.drew := Below.drew hB
  have z0 : W.drew.heap[w.heap.size + 1 + 1]? = some (.cells #[.bool false, .slice none 0 0] 38 (0, 0)) := y2
  have hsz : w.heap.size + 1 + 1 ≤ W.heap.size := Nat.le_of_lt (lt_of_block y2)
  clear y0 y1 y2 hB
  go_region_held3 (fun W' => (W'.cell? ⟨w.heap.size, 0, none⟩ = some (.bool (ng x)) ∧ W'.cell? ⟨w.heap.size, 1, none⟩ = some (.slice A (dd (ab x)).length c)) ∧ W'.cell? ⟨w.heap.size + 1, 0, none⟩ = some (.bool (ng y)) ∧ W'.cell? ⟨w.heap.size + 1, 1, none⟩ = some (.slice B (dd (ab y)).length d)) ((exact HS.out _ (by focus (repeat (first | (with_reducible exact Below.refl _ _) | (with_reducible assumption) | ((with_reducible refine Below.setCell ?_ ?_ _); rotate_left; (focus (first | omega | (simp; done) | (simp; omega)))) | ((with_reducible refine Below.alloc ?_ ?_ _); rotate_left; (focus (first | omega | (simp; done) | (simp; omega)))) | (with_reducible refine Below.drew ?_) | (refine below_on ?_ (by assumption)))))))
    ((first
      | (go_at_call 38; refine (rneg_any y (-y) rfl _ _ (HV.out.below hB0)).mono ?_; rintro e wa ⟨va, rfl, hVa, hb⟩; have hB1 := below_on hB0 hb; have z1 := heap_below hb z0; have hD2 := below_up hsz hD0 hb; clear hb)
      | (go_at_call 63; refine (radd_any x (-y) _ _ hlx HN.out _ (HU.out.below hB1) hVa).mono ?_; rintro e wb ⟨vb, rfl, hV, hb⟩; rw [← Int.sub_eq_add_neg] at hV; obtain ⟨A', c', rfl, h1, h2⟩ := hV; have hB2 := below_on hB1 hb; have z2 := heap_below hb z1; have hD3 := below_up hsz hD2 hb; have q1 := cell_at z2; have q2 := frozen_at z2; clear hb)))
  have h3 := h2.laid z2 (.bool (ng (x - y))) (.slice A' (dd (ab (x - y))).length c')
  have z3 := laid_both (w.heap.size + 1 + 1) wb (.bool (ng (x - y))) (.slice A' (dd (ab (x - y))).length c') z2 rfl
  have HBB : Hd (Below w.heap.size w ((wb.setCell ⟨w.heap.size + 1 + 1, 0, none⟩ (.bool (ng (x - y)))).setCell ⟨w.heap.size + 1 + 1, 1, none⟩ (.slice A' (dd (ab (x - y))).length c'))) := ⟨by focus (repeat (first | (with_reducible exact Below.refl _ _) | (with_reducible assumption) | ((with_reducible refine Below.setCell ?_ ?_ _); rotate_left; (focus (first | omega | (simp; done) | (simp; omega)))) | ((with_reducible refine Below.alloc ?_ ?_ _); rotate_left; (focus (first | omega | (simp; done) | (simp; omega)))) | (with_reducible refine Below.drew ?_) | (refine below_on ?_ (by assumption))))⟩
  clear HS hD0 hB0 z0 hVa hB1 z1 hD2 q1 q2 hD3 hB2 z2 h2
  generalize (wb.setCell ⟨w.heap.size + 1 + 1, 0, none⟩ (.bool (ng (x - y)))).setCell ⟨w.heap.size + 1 + 1, 1, none⟩ (.slice A' (dd (ab (x - y))).length c') = wz at *
  have HD3 := Hd.mk h3
  have c1 := cell_at z3
  go_wp2
  refine bodyPost_ret (by simp [results, Try.results39, go_sem, c1]) rfl ⟨_, rfl, ⟨A', c', rfl, h1, HD3.out⟩, HBB.out⟩
/-- The Int of a number, or that it is too great. -/
def outV (z : Int) : Int := if ab z < 2 ^ 256 then z else 0
def outE (z : Int) : Int := if ab z < 2 ^ 256 then 0 else 110
set_option maxHeartbeats 1000000 in
theorem rout_ok (x : Int) (hx : ab x < 2 ^ 256) (u : Value) (w : World) (hu : BigAt w u x) :
    Calls Try.prog 16 #[u] w fun e w' => e = .returned (.tuple #[.agg #[.bool (ng (x)), .int .u64 (dg (ab (x)) 0), .int .u64 (dg (ab (x)) 1), .int .u64 (dg (ab (x)) 2), .int .u64 (dg (ab (x)) 3)], .int .i64 0]) ∧ Below w.heap.size w w' := by
  have HU := Hd.mk hu
  have HX := Hd.mk hx
  obtain ⟨A, c, rfl, hc, hA⟩ := hu
  clear hA hx
  go_enter Try.func16, Try.ntmps16
  go_wp2_with fail
  refine (rto_ok x HX.out _ _ (HU.out.below (by focus (repeat (first | (with_reducible exact Below.refl _ _) | (with_reducible assumption) | ((with_reducible refine Below.setCell ?_ ?_ _); rotate_left; (focus (first | omega | (simp; done) | (simp; omega)))) | ((with_reducible refine Below.alloc ?_ ?_ _); rotate_left; (focus (first | omega | (simp; done) | (simp; omega)))) | (with_reducible refine Below.drew ?_) | (refine below_on ?_ (by assumption))))))).mono ?_
  rintro e w1 ⟨rfl, hb⟩
  have y1 := heap_below hb (heap_at (n := w.heap.size + 1) (by simp) _)
  have hB : Below w.heap.size w w1 := by focus (repeat (first | (with_reducible exact Below.refl _ _) | (with_reducible assumption) | ((with_reducible refine Below.setCell ?_ ?_ _); rotate_left; (focus (first | omega | (simp; done) | (simp; omega)))) | ((with_reducible refine Below.alloc ?_ ?_ _); rotate_left; (focus (first | omega | (simp; done) | (simp; omega)))) | (with_reducible refine Below.drew ?_) | (refine below_on ?_ (by assumption))))
  have hs1 := lt_of_block y1
  have q1 := cell_at y1
  have q2 := frozen_at y1
  clear hb
  go_wp2
  refine abs_post (fun W => W.heap[w.heap.size + 1]? = some (.cells #[.bool (ng (x)), .int .u64 (dg (ab (x)) 0), .int .u64 (dg (ab (x)) 1), .int .u64 (dg (ab (x)) 2), .int .u64 (dg (ab (x)) 3)] 25 (0, 0)) ∧ Below w.heap.size w W) ?_ fun W ⟨k1, hB⟩ => ?_
  · obtain ⟨l1, l2, l3⟩ := laid_five (w.heap.size + 1) w1 (.bool (ng x)) (.int .u64 (dg (ab x) 0)) (.int .u64 (dg (ab x) 1)) (.int .u64 (dg (ab x) 2)) (.int .u64 (dg (ab x) 3))
    exact ⟨heap_old (l1 y1 rfl) _, Below.alloc (hB.trans (l3 _ (by omega))) (by have := hB.size; simp; omega) _⟩
  · have k2 := cell_at k1
    refine bodyPost_ret (by simp [results, Try.results16, go_sem, k2]) rfl ⟨rfl, hB⟩
set_option maxHeartbeats 1000000 in
theorem rout_no (x : Int) (hx : ¬ ab x < 2 ^ 256) (u : Value) (w : World) (hu : BigAt w u x) :
    Calls Try.prog 16 #[u] w fun e w' => e = .returned (.tuple #[.agg #[.bool (ng (0)), .int .u64 (dg (ab (0)) 0), .int .u64 (dg (ab (0)) 1), .int .u64 (dg (ab (0)) 2), .int .u64 (dg (ab (0)) 3)], .int .i64 110]) ∧ Below w.heap.size w w' := by
  have HU := Hd.mk hu
  have HX := Hd.mk hx
  obtain ⟨A, c, rfl, hc, hA⟩ := hu
  clear hA hx
  go_enter Try.func16, Try.ntmps16
  go_wp2_with fail
  refine (rto_no x HX.out _ _ (HU.out.below (by focus (repeat (first | (with_reducible exact Below.refl _ _) | (with_reducible assumption) | ((with_reducible refine Below.setCell ?_ ?_ _); rotate_left; (focus (first | omega | (simp; done) | (simp; omega)))) | ((with_reducible refine Below.alloc ?_ ?_ _); rotate_left; (focus (first | omega | (simp; done) | (simp; omega)))) | (with_reducible refine Below.drew ?_) | (refine below_on ?_ (by assumption))))))).mono ?_
  rintro e w1 ⟨rfl, hb⟩
  have y1 := heap_below hb (heap_at (n := w.heap.size + 1) (by simp) _)
  have hB : Below w.heap.size w w1 := by focus (repeat (first | (with_reducible exact Below.refl _ _) | (with_reducible assumption) | ((with_reducible refine Below.setCell ?_ ?_ _); rotate_left; (focus (first | omega | (simp; done) | (simp; omega)))) | ((with_reducible refine Below.alloc ?_ ?_ _); rotate_left; (focus (first | omega | (simp; done) | (simp; omega)))) | (with_reducible refine Below.drew ?_) | (refine below_on ?_ (by assumption))))
  have hs1 := lt_of_block y1
  have q1 := cell_at y1
  have q2 := frozen_at y1
  clear hb
  go_wp2
  refine abs_post (fun W => W.heap[w.heap.size + 1]? = some (.cells #[.bool (ng (0)), .int .u64 (dg (ab (0)) 0), .int .u64 (dg (ab (0)) 1), .int .u64 (dg (ab (0)) 2), .int .u64 (dg (ab (0)) 3)] 25 (0, 0)) ∧ Below w.heap.size w W) ?_ fun W ⟨k1, hB⟩ => ?_
  · obtain ⟨l1, l2, l3⟩ := laid_five (w.heap.size + 1) w1 (.bool false) (.int .u64 0) (.int .u64 0) (.int .u64 0) (.int .u64 0)
    exact ⟨by rw [zero_cells]; exact heap_old (l1 y1 rfl) _, Below.alloc (hB.trans (l3 _ (by omega))) (by have := hB.size; simp; omega) _⟩
  · have k2 := cell_at k1
    refine bodyPost_ret (by simp [results, Try.results16, go_sem, k2]) rfl ⟨rfl, hB⟩
theorem rout_any (x : Int) (u : Value) (w : World) (hu : BigAt w u x) :
    Calls Try.prog 16 #[u] w fun e w' => e = .returned (.tuple #[.agg #[.bool (ng (outV x)), .int .u64 (dg (ab (outV x)) 0), .int .u64 (dg (ab (outV x)) 1), .int .u64 (dg (ab (outV x)) 2), .int .u64 (dg (ab (outV x)) 3)], .int .i64 (outE x)]) ∧ Below w.heap.size w w' := by
  by_cases hx : ab x < 2 ^ 256
  · rw [outV, outE, if_pos hx, if_pos hx]
    exact rout_ok x hx u w hu
  · rw [outV, outE, if_neg hx, if_neg hx]
    exact rout_no x hx u w hu
end Go.Proofs.Yteibcklcegkbcaa
