/-
  Walks of the references: of. Conditions stand in each theorem.
-/
import Derived.Test.YteibcklcegkbcaaRf2
namespace Go.Proofs.Yteibcklcegkbcaa
open Go.RowKit Go.BigFrame

theorem laid_both (b : Nat) (W : World) (v0 v1 : Value) {c : Array Value} {t : TypeId} (h : W.heap[b]? = some (.cells c t (0, 0))) (hs : c.size = 2) :
    ((W.setCell ⟨b, 0, none⟩ v0).setCell ⟨b, 1, none⟩ v1).heap[b]? = some (.cells #[v0, v1] t (0, 0)) := by
  obtain ⟨l⟩ := c
  match l, hs with
  | [a, e], _ =>
    have := heap_set (heap_set h 0 v0) 1 v1
    simpa using this
set_option maxHeartbeats 1000000 in
theorem rof_any (s : Bool) (A : Option Addr) (c : Nat) (ds : List Int) (hc : ds.length ≤ c) (hg : Dg ds) (w : World) (h : DigAt w A ds) :
    Calls Try.prog 50 #[.bool s, .slice A ds.length c] w fun e w' => ∃ v, e = .returned v ∧ BigAt w' v (zof s (val ds)) ∧ Below w.heap.size w w' := by
  have HH := Hd.mk h
  have hl := h.1
  have hsl : (strip ds).length ≤ ds.length := by unfold strip; rw [List.length_take]; omega
  clear h
  have hs : strip ds = dd (val ds) := strip_dd ds hg
  have HS := Hd.mk hs
  by_cases hn : 0 < (strip ds).length
  · have hv : val ds ≠ 0 := fun h0 => by rw [hs, h0, dd_zero] at hn; exact absurd hn (by simp)
    cases s
    · have HN : Hd (ng (zof false (val ds)) = false) := ⟨by rw [ng_zof]; rfl⟩
      clear hs hv
      go_enter Try.func50, Try.ntmps50
      go_wp2_with fail
      refine (cut_any A c ds hc _ (HH.out.below (by focus (repeat (first | (with_reducible exact Below.refl _ _) | (with_reducible assumption) | ((with_reducible refine Below.setCell ?_ ?_ _); rotate_left; (focus (first | omega | (simp; done) | (simp; omega)))) | ((with_reducible refine Below.alloc ?_ ?_ _); rotate_left; (focus (first | omega | (simp; done) | (simp; omega)))) | (with_reducible refine Below.drew ?_) | (refine below_on ?_ (by assumption))))))).mono ?_
      rintro e w1 ⟨⟨A', rfl, hd⟩, rfl⟩
      have HD := Hd.mk hd
      clear hd
      go_wp2
      refine abs_post (fun W => W.heap[w.heap.size]? = some (.cells #[.bool (ng (zof false (val ds))), .slice A' (strip ds).length c] 38 (0, 0)) ∧ DigAt W A' (strip ds) ∧ Below w.heap.size w W) ?_ fun W ⟨y0, hD, hB⟩ => ?_
      · rw [HN.out]
        refine ⟨?_, (HH.out.below (by focus (repeat (first | (with_reducible exact Below.refl _ _) | (with_reducible assumption) | ((with_reducible refine Below.setCell ?_ ?_ _); rotate_left; (focus (first | omega | (simp; done) | (simp; omega)))) | ((with_reducible refine Below.alloc ?_ ?_ _); rotate_left; (focus (first | omega | (simp; done) | (simp; omega)))) | (with_reducible refine Below.drew ?_) | (refine below_on ?_ (by assumption)))))).strip HD.out, by focus (repeat (first | (with_reducible exact Below.refl _ _) | (with_reducible assumption) | ((with_reducible refine Below.setCell ?_ ?_ _); rotate_left; (focus (first | omega | (simp; done) | (simp; omega)))) | ((with_reducible refine Below.alloc ?_ ?_ _); rotate_left; (focus (first | omega | (simp; done) | (simp; omega)))) | (with_reducible refine Below.drew ?_) | (refine below_on ?_ (by assumption))))⟩
        first | exact heap_new _ _ | (rw [hn0]; exact heap_new _ _)
      · have c1 := cell_at y0
        refine bodyPost_ret (by simp [results, Try.results50, go_sem, c1]; rfl) rfl ⟨_, rfl, ⟨A', c, ?_, ?_, ?_⟩, hB⟩
        · rw [ab_zof, HS.out]
        · rw [ab_zof, ← HS.out]; omega
        · rw [ab_zof, ← HS.out]; exact hD
    · have HN : Hd (ng (zof true (val ds)) = true) := ⟨by rw [ng_zof]; simp [hv]⟩
      clear hs hv
      go_enter Try.func50, Try.ntmps50
      go_wp2_with fail
      refine (cut_any A c ds hc _ (HH.out.below (by focus (repeat (first | (with_reducible exact Below.refl _ _) | (with_reducible assumption) | ((with_reducible refine Below.setCell ?_ ?_ _); rotate_left; (focus (first | omega | (simp; done) | (simp; omega)))) | ((with_reducible refine Below.alloc ?_ ?_ _); rotate_left; (focus (first | omega | (simp; done) | (simp; omega)))) | (with_reducible refine Below.drew ?_) | (refine below_on ?_ (by assumption))))))).mono ?_
      rintro e w1 ⟨⟨A', rfl, hd⟩, rfl⟩
      have HD := Hd.mk hd
      clear hd
      go_wp2
      refine abs_post (fun W => W.heap[w.heap.size]? = some (.cells #[.bool (ng (zof true (val ds))), .slice A' (strip ds).length c] 38 (0, 0)) ∧ DigAt W A' (strip ds) ∧ Below w.heap.size w W) ?_ fun W ⟨y0, hD, hB⟩ => ?_
      · rw [HN.out]
        refine ⟨?_, (HH.out.below (by focus (repeat (first | (with_reducible exact Below.refl _ _) | (with_reducible assumption) | ((with_reducible refine Below.setCell ?_ ?_ _); rotate_left; (focus (first | omega | (simp; done) | (simp; omega)))) | ((with_reducible refine Below.alloc ?_ ?_ _); rotate_left; (focus (first | omega | (simp; done) | (simp; omega)))) | (with_reducible refine Below.drew ?_) | (refine below_on ?_ (by assumption)))))).strip HD.out, by focus (repeat (first | (with_reducible exact Below.refl _ _) | (with_reducible assumption) | ((with_reducible refine Below.setCell ?_ ?_ _); rotate_left; (focus (first | omega | (simp; done) | (simp; omega)))) | ((with_reducible refine Below.alloc ?_ ?_ _); rotate_left; (focus (first | omega | (simp; done) | (simp; omega)))) | (with_reducible refine Below.drew ?_) | (refine below_on ?_ (by assumption))))⟩
        first | exact heap_new _ _ | (rw [hn0]; exact heap_new _ _)
      · have c1 := cell_at y0
        refine bodyPost_ret (by simp [results, Try.results50, go_sem, c1]; rfl) rfl ⟨_, rfl, ⟨A', c, ?_, ?_, ?_⟩, hB⟩
        · rw [ab_zof, HS.out]
        · rw [ab_zof, ← HS.out]; omega
        · rw [ab_zof, ← HS.out]; exact hD
  · have hn0 : (strip ds).length = 0 := by omega
    have hv : val ds = 0 := by
      rw [← val_of_dd (val ds), ← hs, List.eq_nil_of_length_eq_zero hn0]; rfl
    cases s
    · have HN : Hd (ng (zof false (val ds)) = false) := ⟨by rw [ng_zof]; rfl⟩
      clear hs hv hn
      go_enter Try.func50, Try.ntmps50
      go_wp2_with fail
      refine (cut_any A c ds hc _ (HH.out.below (by focus (repeat (first | (with_reducible exact Below.refl _ _) | (with_reducible assumption) | ((with_reducible refine Below.setCell ?_ ?_ _); rotate_left; (focus (first | omega | (simp; done) | (simp; omega)))) | ((with_reducible refine Below.alloc ?_ ?_ _); rotate_left; (focus (first | omega | (simp; done) | (simp; omega)))) | (with_reducible refine Below.drew ?_) | (refine below_on ?_ (by assumption))))))).mono ?_
      rintro e w1 ⟨⟨A', rfl, hd⟩, rfl⟩
      have HD := Hd.mk hd
      clear hd
      go_wp2
      refine abs_post (fun W => W.heap[w.heap.size]? = some (.cells #[.bool (ng (zof false (val ds))), .slice A' (strip ds).length c] 38 (0, 0)) ∧ DigAt W A' (strip ds) ∧ Below w.heap.size w W) ?_ fun W ⟨y0, hD, hB⟩ => ?_
      · rw [HN.out]
        refine ⟨?_, (HH.out.below (by focus (repeat (first | (with_reducible exact Below.refl _ _) | (with_reducible assumption) | ((with_reducible refine Below.setCell ?_ ?_ _); rotate_left; (focus (first | omega | (simp; done) | (simp; omega)))) | ((with_reducible refine Below.alloc ?_ ?_ _); rotate_left; (focus (first | omega | (simp; done) | (simp; omega)))) | (with_reducible refine Below.drew ?_) | (refine below_on ?_ (by assumption)))))).strip HD.out, by focus (repeat (first | (with_reducible exact Below.refl _ _) | (with_reducible assumption) | ((with_reducible refine Below.setCell ?_ ?_ _); rotate_left; (focus (first | omega | (simp; done) | (simp; omega)))) | ((with_reducible refine Below.alloc ?_ ?_ _); rotate_left; (focus (first | omega | (simp; done) | (simp; omega)))) | (with_reducible refine Below.drew ?_) | (refine below_on ?_ (by assumption))))⟩
        first | exact heap_new _ _ | (rw [hn0]; exact heap_new _ _)
      · have c1 := cell_at y0
        refine bodyPost_ret (by simp [results, Try.results50, go_sem, c1]; rfl) rfl ⟨_, rfl, ⟨A', c, ?_, ?_, ?_⟩, hB⟩
        · rw [ab_zof, HS.out]
        · rw [ab_zof, ← HS.out]; omega
        · rw [ab_zof, ← HS.out]; exact hD
    · have HN : Hd (ng (zof true (val ds)) = false) := ⟨by rw [ng_zof, hv]; rfl⟩
      clear hs hv hn
      go_enter Try.func50, Try.ntmps50
      go_wp2_with fail
      refine (cut_any A c ds hc _ (HH.out.below (by focus (repeat (first | (with_reducible exact Below.refl _ _) | (with_reducible assumption) | ((with_reducible refine Below.setCell ?_ ?_ _); rotate_left; (focus (first | omega | (simp; done) | (simp; omega)))) | ((with_reducible refine Below.alloc ?_ ?_ _); rotate_left; (focus (first | omega | (simp; done) | (simp; omega)))) | (with_reducible refine Below.drew ?_) | (refine below_on ?_ (by assumption))))))).mono ?_
      rintro e w1 ⟨⟨A', rfl, hd⟩, rfl⟩
      have HD := Hd.mk hd
      clear hd
      go_wp2
      refine abs_post (fun W => W.heap[w.heap.size]? = some (.cells #[.bool (ng (zof true (val ds))), .slice A' (strip ds).length c] 38 (0, 0)) ∧ DigAt W A' (strip ds) ∧ Below w.heap.size w W) ?_ fun W ⟨y0, hD, hB⟩ => ?_
      · rw [HN.out]
        refine ⟨?_, (HH.out.below (by focus (repeat (first | (with_reducible exact Below.refl _ _) | (with_reducible assumption) | ((with_reducible refine Below.setCell ?_ ?_ _); rotate_left; (focus (first | omega | (simp; done) | (simp; omega)))) | ((with_reducible refine Below.alloc ?_ ?_ _); rotate_left; (focus (first | omega | (simp; done) | (simp; omega)))) | (with_reducible refine Below.drew ?_) | (refine below_on ?_ (by assumption)))))).strip HD.out, by focus (repeat (first | (with_reducible exact Below.refl _ _) | (with_reducible assumption) | ((with_reducible refine Below.setCell ?_ ?_ _); rotate_left; (focus (first | omega | (simp; done) | (simp; omega)))) | ((with_reducible refine Below.alloc ?_ ?_ _); rotate_left; (focus (first | omega | (simp; done) | (simp; omega)))) | (with_reducible refine Below.drew ?_) | (refine below_on ?_ (by assumption))))⟩
        first | exact heap_new _ _ | (rw [hn0]; exact heap_new _ _)
      · have c1 := cell_at y0
        refine bodyPost_ret (by simp [results, Try.results50, go_sem, c1]; rfl) rfl ⟨_, rfl, ⟨A', c, ?_, ?_, ?_⟩, hB⟩
        · rw [ab_zof, HS.out]
        · rw [ab_zof, ← HS.out]; omega
        · rw [ab_zof, ← HS.out]; exact hD
end Go.Proofs.Yteibcklcegkbcaa
