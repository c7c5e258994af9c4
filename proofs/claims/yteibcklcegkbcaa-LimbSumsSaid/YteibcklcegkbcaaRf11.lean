/-
  Walks of the references: Neg, Add, Sub. Conditions stand in each theorem.
-/
import Derived.Test.YteibcklcegkbcaaRf10
import Derived.Test.YteibcklcegkbcaaOr1
namespace Go.Proofs.Yteibcklcegkbcaa
open Go.RowKit Go.BigFrame

theorem below_up {n : Nat} {w S W1 : World} (hn : n ≤ w.heap.size) (h : Below n w S) (k : Below S.heap.size S W1) : Below n w W1 := h.trans (k.mono (Nat.le_trans hn h.size))
set_option maxHeartbeats 1000000 in
theorem rneg_any (x y : Int) (hy : -x = y) (u : Value) (w : World) (hu : BigAt w u x) :
    Calls Try.prog 38 #[u] w fun e w' => ∃ v, e = .returned v ∧ BigAt w' v y ∧ Below w.heap.size w w' := by
  obtain ⟨A, c, rfl, hc, hA⟩ := hu
  have HA := Hd.mk hA
  have HV : Hd (zof (!ng x) (val (dd (ab x))) = y) := ⟨by
    rw [val_of_dd, ← hy]
    unfold zof ng ab
    by_cases h : x < 0 <;> simp [h] <;> omega⟩
  clear hA hy
  go_enter Try.func38, Try.ntmps38
  go_wp2_with fail
  refine (rof_any (!ng x) A c _ hc (dd_range _) _ (HA.out.below (by focus (repeat (first | (with_reducible exact Below.refl _ _) | (with_reducible assumption) | ((with_reducible refine Below.setCell ?_ ?_ _); rotate_left; (focus (first | omega | (simp; done) | (simp; omega)))) | ((with_reducible refine Below.alloc ?_ ?_ _); rotate_left; (focus (first | omega | (simp; done) | (simp; omega)))) | (with_reducible refine Below.drew ?_) | (refine below_on ?_ (by assumption))))))).mono ?_
  rintro e w2 ⟨v, rfl, hV, hb⟩
  rw [HV.out] at hV
  have hw : Below w.heap.size w w2 := by focus (repeat (first | (with_reducible exact Below.refl _ _) | (with_reducible assumption) | ((with_reducible refine Below.setCell ?_ ?_ _); rotate_left; (focus (first | omega | (simp; done) | (simp; omega)))) | ((with_reducible refine Below.alloc ?_ ?_ _); rotate_left; (focus (first | omega | (simp; done) | (simp; omega)))) | (with_reducible refine Below.drew ?_) | (refine below_on ?_ (by assumption))))
  have z1 := heap_below hb (heap_at (n := w.heap.size + 1) (by simp) _)
  clear hb
  obtain ⟨A', c', rfl, h1, h2⟩ := hV
  have hs2 := lt_of_block z1
  have q1 := cell_at z1
  have q2 := frozen_at z1
  have HD := Hd.mk (h2.laid z1)
  clear h2
  go_wp2
  have z2 := laid_both (w.heap.size + 1) w2 (.bool (ng (y))) (.slice A' (dd (ab (y))).length c') z1 rfl
  have c1 := cell_at z2
  refine bodyPost_ret (by simp [results, Try.results38, go_sem, c1]) rfl ⟨_, rfl, ⟨A', c', rfl, h1, HD.out _ _⟩, by focus (repeat (first | (with_reducible exact Below.refl _ _) | (with_reducible assumption) | ((with_reducible refine Below.setCell ?_ ?_ _); rotate_left; (focus (first | omega | (simp; done) | (simp; omega)))) | ((with_reducible refine Below.alloc ?_ ?_ _); rotate_left; (focus (first | omega | (simp; done) | (simp; omega)))) | (with_reducible refine Below.drew ?_) | (refine below_on ?_ (by assumption))))⟩
set_option maxHeartbeats 1000000 in
theorem radd_any (x y : Int) (u v : Value) (hlx : (dd (ab x)).length ≤ 1000) (hly : (dd (ab y)).length ≤ 1000) (w : World) (hu : BigAt w u x) (hv : BigAt w v y) :
    Calls Try.prog 63 #[u, v] w fun e w' => ∃ v, e = .returned v ∧ BigAt w' v (x + y) ∧ Below w.heap.size w w' := by
  obtain ⟨A, c, rfl, hc, hA⟩ := hu
  obtain ⟨B, d, rfl, hd, hB⟩ := hv
  have HA := Hd.mk hA
  have HB := Hd.mk hB
  clear hA hB
  by_cases hs : ng x = ng y
  · have hq : (ng x == ng y) = true := by rw [hs]; simp
    have HV : Hd (zof (ng x) (ab x + ab y) = x + y) := ⟨(sum_alike x y hs).2⟩
    clear hs
    go_enter Try.func63, Try.ntmps63
    go_upto_region 2 with (fail)
    refine abs_wp (fun W => W.heap[w.heap.size]? = some (.cells #[.bool (ng x), .slice A (dd (ab x)).length c] 38 (0, 0)) ∧ W.heap[w.heap.size + 1]? = some (.cells #[.bool (ng y), .slice B (dd (ab y)).length d] 38 (0, 0)) ∧ W.heap[w.heap.size + 1 + 1]? = some (.cells #[.bool false, .slice none 0 0] 38 (0, 0)) ∧ Below w.heap.size w W) ⟨heap_old (heap_old (heap_new _ _) _) _, heap_old (heap_at (by simp) _) _, heap_at (by simp) _, by focus (repeat (first | (with_reducible exact Below.refl _ _) | (with_reducible assumption) | ((with_reducible refine Below.setCell ?_ ?_ _); rotate_left; (focus (first | omega | (simp; done) | (simp; omega)))) | ((with_reducible refine Below.alloc ?_ ?_ _); rotate_left; (focus (first | omega | (simp; done) | (simp; omega)))) | (with_reducible refine Below.drew ?_) | (refine below_on ?_ (by assumption))))⟩ fun W ⟨y0, y1, y2, hB⟩ => ?_
    clear hq
    have HS : Hd (∀ W', Below (w.heap.size + 1 + 1) W W' → (W'.cell? ⟨w.heap.size, 0, none⟩ = some (.bool (ng x)) ∧ W'.cell? ⟨w.heap.size, 1, none⟩ = some (.slice A (dd (ab x)).length c)) ∧ W'.cell? ⟨w.heap.size + 1, 0, none⟩ = some (.bool (ng y)) ∧ W'.cell? ⟨w.heap.size + 1, 1, none⟩ = some (.slice B (dd (ab y)).length d)) :=
      ⟨fun W' h => ⟨⟨(h.cell (show w.heap.size < w.heap.size + 1 + 1 by omega)).trans (cell_at y0 0), (h.cell (show w.heap.size < w.heap.size + 1 + 1 by omega)).trans (cell_at y0 1)⟩, (h.cell (show w.heap.size + 1 < w.heap.size + 1 + 1 by omega)).trans (cell_at y1 0), (h.cell (show w.heap.size + 1 < w.heap.size + 1 + 1 by omega)).trans (cell_at y1 1)⟩⟩
    have hD0 : Below (w.heap.size + 1 + 1) W W.drew := Below.drew (Below.refl _ _)
    have hB0 : Below w.heap.size w W.drew := Below.drew hB
    have z0 : W.drew.heap[w.heap.size + 1 + 1]? = some (.cells #[.bool false, .slice none 0 0] 38 (0, 0)) := y2
    have hsz : w.heap.size + 1 + 1 ≤ W.heap.size := Nat.le_of_lt (lt_of_block y2)
    clear y0 y1 y2 hB
    go_region_held3 (fun W' => (W'.cell? ⟨w.heap.size, 0, none⟩ = some (.bool (ng x)) ∧ W'.cell? ⟨w.heap.size, 1, none⟩ = some (.slice A (dd (ab x)).length c)) ∧ W'.cell? ⟨w.heap.size + 1, 0, none⟩ = some (.bool (ng y)) ∧ W'.cell? ⟨w.heap.size + 1, 1, none⟩ = some (.slice B (dd (ab y)).length d)) ((exact HS.out _ (by focus (repeat (first | (with_reducible exact Below.refl _ _) | (with_reducible assumption) | ((with_reducible refine Below.setCell ?_ ?_ _); rotate_left; (focus (first | omega | (simp; done) | (simp; omega)))) | ((with_reducible refine Below.alloc ?_ ?_ _); rotate_left; (focus (first | omega | (simp; done) | (simp; omega)))) | (with_reducible refine Below.drew ?_) | (refine below_on ?_ (by assumption)))))))
      ((first
        | (go_at_call 52; refine (rplus_any (ab x) (ab y) A B c d hc hd hlx hly _ (HA.out.below hB0) (HB.out.below hB0)).mono ?_; rintro e wa ⟨va, rfl, ⟨A1, c1, rfl, hc1, hD1, _⟩, hb⟩; have hB1 := below_on hB0 hb; have z1 := heap_below hb z0; have hD2 := below_up hsz hD0 hb; clear hb)
        | (go_at_call 50; refine (rof_any (ng x) A1 c1 _ hc1 (dd_range _) _ hD1).mono ?_; rintro e wb ⟨vb, rfl, hV, hb⟩; rw [val_of_dd, HV.out] at hV; obtain ⟨A', c', rfl, h1, h2⟩ := hV; have hB2 := below_on hB1 hb; have z2 := heap_below hb z1; have hD3 := below_up hsz hD2 hb; have q1 := cell_at z2; have q2 := frozen_at z2; clear hb)))
    have h3 := h2.laid z2 (.bool (ng (x + y))) (.slice A' (dd (ab (x + y))).length c')
    have z3 := laid_both (w.heap.size + 1 + 1) wb (.bool (ng (x + y))) (.slice A' (dd (ab (x + y))).length c') z2 rfl
    have HBB : Hd (Below w.heap.size w ((wb.setCell ⟨w.heap.size + 1 + 1, 0, none⟩ (.bool (ng (x + y)))).setCell ⟨w.heap.size + 1 + 1, 1, none⟩ (.slice A' (dd (ab (x + y))).length c'))) := ⟨by focus (repeat (first | (with_reducible exact Below.refl _ _) | (with_reducible assumption) | ((with_reducible refine Below.setCell ?_ ?_ _); rotate_left; (focus (first | omega | (simp; done) | (simp; omega)))) | ((with_reducible refine Below.alloc ?_ ?_ _); rotate_left; (focus (first | omega | (simp; done) | (simp; omega)))) | (with_reducible refine Below.drew ?_) | (refine below_on ?_ (by assumption))))⟩
    clear HS hD0 hB0 z0 hD1 hB1 z1 hD2 q1 q2 hD3 hB2 z2 h2
    generalize (wb.setCell ⟨w.heap.size + 1 + 1, 0, none⟩ (.bool (ng (x + y)))).setCell ⟨w.heap.size + 1 + 1, 1, none⟩ (.slice A' (dd (ab (x + y))).length c') = wz at *
    have HD3 := Hd.mk h3
    have c1 := cell_at z3
    go_wp2
    refine bodyPost_ret (by simp [results, Try.results63, go_sem, c1]) rfl ⟨_, rfl, ⟨A', c', rfl, h1, HD3.out⟩, HBB.out⟩
  · have hq : (ng x == ng y) = false := by simpa using hs
    obtain ⟨k1, k2, _⟩ := sum_apart x y hs
    clear hs
    by_cases hle : ab y ≤ ab x
    · have HV : Hd (zof (ng x) (ab x - ab y) = x + y) := ⟨k1 hle⟩
      have hC : decide (cmpN (ab x) (ab y) ≥ 0) = true := by unfold cmpN; rw [if_neg (by omega)]; split <;> rfl
      have HL := Hd.mk hle
      clear k1 k2 hle
      go_enter Try.func63, Try.ntmps63
      go_wp2_with fail
      refine (rmags_any (ab x) (ab y) A B c d hc hd _ (HA.out.below (by focus (repeat (first | (with_reducible exact Below.refl _ _) | (with_reducible assumption) | ((with_reducible refine Below.setCell ?_ ?_ _); rotate_left; (focus (first | omega | (simp; done) | (simp; omega)))) | ((with_reducible refine Below.alloc ?_ ?_ _); rotate_left; (focus (first | omega | (simp; done) | (simp; omega)))) | (with_reducible refine Below.drew ?_) | (refine below_on ?_ (by assumption)))))) (HB.out.below (by focus (repeat (first | (with_reducible exact Below.refl _ _) | (with_reducible assumption) | ((with_reducible refine Below.setCell ?_ ?_ _); rotate_left; (focus (first | omega | (simp; done) | (simp; omega)))) | ((with_reducible refine Below.alloc ?_ ?_ _); rotate_left; (focus (first | omega | (simp; done) | (simp; omega)))) | (with_reducible refine Below.drew ?_) | (refine below_on ?_ (by assumption))))))).mono ?_
      rintro e W ⟨rfl, hb⟩
      have y0 := heap_below hb (heap_old (heap_old (heap_new w _) _) _)
      have y1 := heap_below hb (heap_old (heap_at (n := w.heap.size + 1) (by simp) _) _)
      have y2 := heap_below hb (heap_at (n := w.heap.size + 1 + 1) (by simp) _)
      have hB : Below w.heap.size w W := by focus (repeat (first | (with_reducible exact Below.refl _ _) | (with_reducible assumption) | ((with_reducible refine Below.setCell ?_ ?_ _); rotate_left; (focus (first | omega | (simp; done) | (simp; omega)))) | ((with_reducible refine Below.alloc ?_ ?_ _); rotate_left; (focus (first | omega | (simp; done) | (simp; omega)))) | (with_reducible refine Below.drew ?_) | (refine below_on ?_ (by assumption))))
      clear hb
      have c0 := cell_at y0
      have c1 := cell_at y1
      go_upto_region 4 with (fail)
      clear hq hC c0 c1
      have HS : Hd (∀ W', Below (w.heap.size + 1 + 1) W W' → (W'.cell? ⟨w.heap.size, 0, none⟩ = some (.bool (ng x)) ∧ W'.cell? ⟨w.heap.size, 1, none⟩ = some (.slice A (dd (ab x)).length c)) ∧ W'.cell? ⟨w.heap.size + 1, 0, none⟩ = some (.bool (ng y)) ∧ W'.cell? ⟨w.heap.size + 1, 1, none⟩ = some (.slice B (dd (ab y)).length d)) :=
        ⟨fun W' h => ⟨⟨(h.cell (show w.heap.size < w.heap.size + 1 + 1 by omega)).trans (cell_at y0 0), (h.cell (show w.heap.size < w.heap.size + 1 + 1 by omega)).trans (cell_at y0 1)⟩, (h.cell (show w.heap.size + 1 < w.heap.size + 1 + 1 by omega)).trans (cell_at y1 0), (h.cell (show w.heap.size + 1 < w.heap.size + 1 + 1 by omega)).trans (cell_at y1 1)⟩⟩
      have hD0 : Below (w.heap.size + 1 + 1) W W.drew := Below.drew (Below.refl _ _)
      have hB0 : Below w.heap.size w W.drew := Below.drew hB
      have z0 : W.drew.heap[w.heap.size + 1 + 1]? = some (.cells #[.bool false, .slice none 0 0] 38 (0, 0)) := y2
      have hsz : w.heap.size + 1 + 1 ≤ W.heap.size := Nat.le_of_lt (lt_of_block y2)
      clear y0 y1 y2 hB
      go_region_held3 (fun W' => (W'.cell? ⟨w.heap.size, 0, none⟩ = some (.bool (ng x)) ∧ W'.cell? ⟨w.heap.size, 1, none⟩ = some (.slice A (dd (ab x)).length c)) ∧ W'.cell? ⟨w.heap.size + 1, 0, none⟩ = some (.bool (ng y)) ∧ W'.cell? ⟨w.heap.size + 1, 1, none⟩ = some (.slice B (dd (ab y)).length d)) ((exact HS.out _ (by focus (repeat (first | (with_reducible exact Below.refl _ _) | (with_reducible assumption) | ((with_reducible refine Below.setCell ?_ ?_ _); rotate_left; (focus (first | omega | (simp; done) | (simp; omega)))) | ((with_reducible refine Below.alloc ?_ ?_ _); rotate_left; (focus (first | omega | (simp; done) | (simp; omega)))) | (with_reducible refine Below.drew ?_) | (refine below_on ?_ (by assumption)))))))
        ((first
          | (go_at_call 55; refine (rless_any (ab x) (ab y) HL.out A B c d hc hd hlx hly _ (HA.out.below hB0) (HB.out.below hB0)).mono ?_; rintro e wa ⟨va, rfl, ⟨A1, c1, rfl, hc1, hD1, _⟩, hb⟩; have hB1 := below_on hB0 hb; have z1 := heap_below hb z0; have hD2 := below_up hsz hD0 hb; clear hb)
          | (go_at_call 50; refine (rof_any (ng x) A1 c1 _ hc1 (dd_range _) _ hD1).mono ?_; rintro e wb ⟨vb, rfl, hV, hb⟩; rw [val_of_dd, HV.out] at hV; obtain ⟨A', c', rfl, h1, h2⟩ := hV; have hB2 := below_on hB1 hb; have z2 := heap_below hb z1; have hD3 := below_up hsz hD2 hb; have q1 := cell_at z2; have q2 := frozen_at z2; clear hb)))
      have h3 := h2.laid z2 (.bool (ng (x + y))) (.slice A' (dd (ab (x + y))).length c')
      have z3 := laid_both (w.heap.size + 1 + 1) wb (.bool (ng (x + y))) (.slice A' (dd (ab (x + y))).length c') z2 rfl
      have HBB : Hd (Below w.heap.size w ((wb.setCell ⟨w.heap.size + 1 + 1, 0, none⟩ (.bool (ng (x + y)))).setCell ⟨w.heap.size + 1 + 1, 1, none⟩ (.slice A' (dd (ab (x + y))).length c'))) := ⟨by focus (repeat (first | (with_reducible exact Below.refl _ _) | (with_reducible assumption) | ((with_reducible refine Below.setCell ?_ ?_ _); rotate_left; (focus (first | omega | (simp; done) | (simp; omega)))) | ((with_reducible refine Below.alloc ?_ ?_ _); rotate_left; (focus (first | omega | (simp; done) | (simp; omega)))) | (with_reducible refine Below.drew ?_) | (refine below_on ?_ (by assumption))))⟩
      clear HS hD0 hB0 z0 hD1 hB1 z1 hD2 q1 q2 hD3 hB2 z2 h2
      generalize (wb.setCell ⟨w.heap.size + 1 + 1, 0, none⟩ (.bool (ng (x + y)))).setCell ⟨w.heap.size + 1 + 1, 1, none⟩ (.slice A' (dd (ab (x + y))).length c') = wz at *
      have HD3 := Hd.mk h3
      have c1 := cell_at z3
      go_wp2
      refine bodyPost_ret (by simp [results, Try.results63, go_sem, c1]) rfl ⟨_, rfl, ⟨A', c', rfl, h1, HD3.out⟩, HBB.out⟩
    · have HV : Hd (zof (ng y) (ab y - ab x) = x + y) := ⟨k2 (by omega)⟩
      have hC : decide (cmpN (ab x) (ab y) ≥ 0) = false := by unfold cmpN; rw [if_pos (by omega)]; rfl
      have HL : Hd (ab x ≤ ab y) := ⟨by omega⟩
      clear k1 k2 hle
      go_enter Try.func63, Try.ntmps63
      go_wp2_with fail
      refine (rmags_any (ab x) (ab y) A B c d hc hd _ (HA.out.below (by focus (repeat (first | (with_reducible exact Below.refl _ _) | (with_reducible assumption) | ((with_reducible refine Below.setCell ?_ ?_ _); rotate_left; (focus (first | omega | (simp; done) | (simp; omega)))) | ((with_reducible refine Below.alloc ?_ ?_ _); rotate_left; (focus (first | omega | (simp; done) | (simp; omega)))) | (with_reducible refine Below.drew ?_) | (refine below_on ?_ (by assumption)))))) (HB.out.below (by focus (repeat (first | (with_reducible exact Below.refl _ _) | (with_reducible assumption) | ((with_reducible refine Below.setCell ?_ ?_ _); rotate_left; (focus (first | omega | (simp; done) | (simp; omega)))) | ((with_reducible refine Below.alloc ?_ ?_ _); rotate_left; (focus (first | omega | (simp; done) | (simp; omega)))) | (with_reducible refine Below.drew ?_) | (refine below_on ?_ (by assumption))))))).mono ?_
      rintro e W ⟨rfl, hb⟩
      have y0 := heap_below hb (heap_old (heap_old (heap_new w _) _) _)
      have y1 := heap_below hb (heap_old (heap_at (n := w.heap.size + 1) (by simp) _) _)
      have y2 := heap_below hb (heap_at (n := w.heap.size + 1 + 1) (by simp) _)
      have hB : Below w.heap.size w W := by focus (repeat (first | (with_reducible exact Below.refl _ _) | (with_reducible assumption) | ((with_reducible refine Below.setCell ?_ ?_ _); rotate_left; (focus (first | omega | (simp; done) | (simp; omega)))) | ((with_reducible refine Below.alloc ?_ ?_ _); rotate_left; (focus (first | omega | (simp; done) | (simp; omega)))) | (with_reducible refine Below.drew ?_) | (refine below_on ?_ (by assumption))))
      clear hb
      have c0 := cell_at y0
      have c1 := cell_at y1
      go_upto_region 5 with (fail)
      clear hq hC c0 c1
      have HS : Hd (∀ W', Below (w.heap.size + 1 + 1) W W' → (W'.cell? ⟨w.heap.size, 0, none⟩ = some (.bool (ng x)) ∧ W'.cell? ⟨w.heap.size, 1, none⟩ = some (.slice A (dd (ab x)).length c)) ∧ W'.cell? ⟨w.heap.size + 1, 0, none⟩ = some (.bool (ng y)) ∧ W'.cell? ⟨w.heap.size + 1, 1, none⟩ = some (.slice B (dd (ab y)).length d)) :=
        ⟨fun W' h => ⟨⟨(h.cell (show w.heap.size < w.heap.size + 1 + 1 by omega)).trans (cell_at y0 0), (h.cell (show w.heap.size < w.heap.size + 1 + 1 by omega)).trans (cell_at y0 1)⟩, (h.cell (show w.heap.size + 1 < w.heap.size + 1 + 1 by omega)).trans (cell_at y1 0), (h.cell (show w.heap.size + 1 < w.heap.size + 1 + 1 by omega)).trans (cell_at y1 1)⟩⟩
      have hD0 : Below (w.heap.size + 1 + 1) W W.drew := Below.drew (Below.refl _ _)
      have hB0 : Below w.heap.size w W.drew := Below.drew hB
      have z0 : W.drew.heap[w.heap.size + 1 + 1]? = some (.cells #[.bool false, .slice none 0 0] 38 (0, 0)) := y2
      have hsz : w.heap.size + 1 + 1 ≤ W.heap.size := Nat.le_of_lt (lt_of_block y2)
      clear y0 y1 y2 hB
      go_region_held3 (fun W' => (W'.cell? ⟨w.heap.size, 0, none⟩ = some (.bool (ng x)) ∧ W'.cell? ⟨w.heap.size, 1, none⟩ = some (.slice A (dd (ab x)).length c)) ∧ W'.cell? ⟨w.heap.size + 1, 0, none⟩ = some (.bool (ng y)) ∧ W'.cell? ⟨w.heap.size + 1, 1, none⟩ = some (.slice B (dd (ab y)).length d)) ((exact HS.out _ (by focus (repeat (first | (with_reducible exact Below.refl _ _) | (with_reducible assumption) | ((with_reducible refine Below.setCell ?_ ?_ _); rotate_left; (focus (first | omega | (simp; done) | (simp; omega)))) | ((with_reducible refine Below.alloc ?_ ?_ _); rotate_left; (focus (first | omega | (simp; done) | (simp; omega)))) | (with_reducible refine Below.drew ?_) | (refine below_on ?_ (by assumption)))))))
        ((first
          | (go_at_call 55; refine (rless_any (ab y) (ab x) HL.out B A d c hd hc hly hlx _ (HB.out.below hB0) (HA.out.below hB0)).mono ?_; rintro e wa ⟨va, rfl, ⟨A1, c1, rfl, hc1, hD1, _⟩, hb⟩; have hB1 := below_on hB0 hb; have z1 := heap_below hb z0; have hD2 := below_up hsz hD0 hb; clear hb)
          | (go_at_call 50; refine (rof_any (ng y) A1 c1 _ hc1 (dd_range _) _ hD1).mono ?_; rintro e wb ⟨vb, rfl, hV, hb⟩; rw [val_of_dd, HV.out] at hV; obtain ⟨A', c', rfl, h1, h2⟩ := hV; have hB2 := below_on hB1 hb; have z2 := heap_below hb z1; have hD3 := below_up hsz hD2 hb; have q1 := cell_at z2; have q2 := frozen_at z2; clear hb)))
      have h3 := h2.laid z2 (.bool (ng (x + y))) (.slice A' (dd (ab (x + y))).length c')
      have z3 := laid_both (w.heap.size + 1 + 1) wb (.bool (ng (x + y))) (.slice A' (dd (ab (x + y))).length c') z2 rfl
      have HBB : Hd (Below w.heap.size w ((wb.setCell ⟨w.heap.size + 1 + 1, 0, none⟩ (.bool (ng (x + y)))).setCell ⟨w.heap.size + 1 + 1, 1, none⟩ (.slice A' (dd (ab (x + y))).length c'))) := ⟨by focus (repeat (first | (with_reducible exact Below.refl _ _) | (with_reducible assumption) | ((with_reducible refine Below.setCell ?_ ?_ _); rotate_left; (focus (first | omega | (simp; done) | (simp; omega)))) | ((with_reducible refine Below.alloc ?_ ?_ _); rotate_left; (focus (first | omega | (simp; done) | (simp; omega)))) | (with_reducible refine Below.drew ?_) | (refine below_on ?_ (by assumption))))⟩
      clear HS hD0 hB0 z0 hD1 hB1 z1 hD2 q1 q2 hD3 hB2 z2 h2
      generalize (wb.setCell ⟨w.heap.size + 1 + 1, 0, none⟩ (.bool (ng (x + y)))).setCell ⟨w.heap.size + 1 + 1, 1, none⟩ (.slice A' (dd (ab (x + y))).length c') = wz at *
      have HD3 := Hd.mk h3
      have c1 := cell_at z3
      go_wp2
      refine bodyPost_ret (by simp [results, Try.results63, go_sem, c1]) rfl ⟨_, rfl, ⟨A', c', rfl, h1, HD3.out⟩, HBB.out⟩
end Go.Proofs.Yteibcklcegkbcaa
