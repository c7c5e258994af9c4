/-
  Texts of fractions and points, of the references. Conditions stand in each theorem.
-/
import Derived.Test.YtfchmikbebdflaaGreatDoorKu2
import Derived.Test.YtfchmikbebdflaaGreatDoorMr6
import Derived.Test.YtfchmikbebdflaaGreatDoorRt1
namespace Go.Proofs.YtfchmikbebdflaaGreatDoor
open Go.RowKit Go.BigFrame Go.Shelf

theorem rntext_bs (z : Int) (hz : ab z < 2 ^ 256) (u : Value) (w : World) (hu : BigAt w u z) :
    Calls Tryz.prog 119 #[u] w fun e w' => e = .returned (.string (bs (numL z))) ∧ Below w.heap.size w w' := by
  rw [← numL_bs]
  exact rtext_any z hz u w hu
set_option maxRecDepth 20000 in
set_option maxHeartbeats 4000000 in
/-- The references' text of a fraction. -/
theorem rrtext_any (z : Int) (d : Nat) (hz : ab z < 2 ^ 256) (hd : d < 2 ^ 256) (u : Value) (w : World) (hu : RatAt w u z (d : Int)) :
    Calls Tryz.prog 93 #[u] w fun e w' => e = .returned (.string (bs (ratL z d))) ∧ Below w.heap.size w w' := by
  obtain ⟨A, c, B, e, rfl, g1, g2, g3, g4⟩ := hu
  have HG := Hd.mk (And.intro g2 g4)
  have HT1 := Hd.mk (fun u w hu => rntext_bs z hz u w hu)
  have hd2 : ab (d : Int) < 2 ^ 256 := by rw [ab_nat]; exact hd
  have HT2 := Hd.mk (fun u w hu => rntext_bs (d : Int) hd2 u w hu)
  have hl1 := numL_len hz
  have hl2 := numL_len hd2
  have HR1 : Hd (d = 1 → ratL z d = numL z) := ⟨fun h => by unfold ratL; rw [if_pos h]⟩
  have HR2 : Hd (¬ d = 1 → ratL z d = numL z ++ 47 :: numL d) := ⟨fun h => by unfold ratL; rw [if_neg h]⟩
  clear g2 g4 hz hd hd2
  generalize ratL z d = R at *
  generalize numL z = S at *
  generalize numL (d : Int) = T at *
  have r1 := fun w => run_bs_add (P := Tryz.prog) S [47] (S ++ [47]) (by rw [List.length_singleton]; omega) rfl w
  have r2 := fun w => run_bs_add (P := Tryz.prog) (S ++ [47]) T (S ++ 47 :: T) (by rw [List.length_append, List.length_singleton]; omega) (by simp) w
  clear hl1 hl2
  go_enter Tryz.func93, Tryz.ntmps93
  go_upto_region 1 with (fail)
  refine abs_wp (fun W => W.heap[w.heap.size]? = some (.cells #[.bool (ng z), .slice A (dd (ab z)).length c, .bool (ng (d : Int)), .slice B (dd (ab (d : Int))).length e] 125 (0, 0)) ∧ Below w.heap.size w W) ⟨heap_new _ _, by focus (repeat (first | (with_reducible exact Below.refl _ _) | (with_reducible assumption) | ((with_reducible refine Below.setCell ?_ ?_ _); rotate_left; (focus (first | omega | (simp; done) | (simp; omega)))) | ((with_reducible refine Below.alloc ?_ ?_ _); rotate_left; (focus (first | omega | (simp; done) | (simp; omega)))) | (with_reducible refine Below.drew ?_) | (refine below_on ?_ (by assumption))))⟩ fun W ⟨z0, hB⟩ => ?_
  have c0 := cell_at z0
  have HD := Hd.mk (And.intro (HG.out.1.below hB) (HG.out.2.below hB))
  clear HG
  go_wp2_with fail
  refine (HT1.out _ _ (big_of g1 HD.out.1)).mono ?_
  rintro e wa ⟨rfl, hb⟩
  have z1 := heap_below hb z0
  have hB1 := below_on hB hb
  have HD1 := Hd.mk (HD.out.2.below hb)
  clear hb z0 hB HD c0 HT1
  go_upto_region 2 with (fail)
  have hD0 : Below wa.heap.size wa wa.drew := Below.drew (Below.refl _ _)
  have HS : Hd (∀ W', Below wa.heap.size wa W' → W'.cell? ⟨w.heap.size, 2, none⟩ = some (.bool (ng (d : Int))) ∧ W'.cell? ⟨w.heap.size, 3, none⟩ = some (.slice B (dd (ab (d : Int))).length e)) := ⟨fun W' h => ⟨cell_at (heap_below h z1) 2, cell_at (heap_below h z1) 3⟩⟩
  go_region_held3 (fun W' => W'.cell? ⟨w.heap.size, 2, none⟩ = some (.bool (ng (d : Int))) ∧ W'.cell? ⟨w.heap.size, 3, none⟩ = some (.slice B (dd (ab (d : Int))).length e)) ((exact HS.out _ (by focus (repeat (first | (with_reducible exact Below.refl _ _) | (with_reducible assumption) | ((with_reducible refine Below.setCell ?_ ?_ _); rotate_left; (focus (first | omega | (simp; done) | (simp; omega)))) | ((with_reducible refine Below.alloc ?_ ?_ _); rotate_left; (focus (first | omega | (simp; done) | (simp; omega)))) | (with_reducible refine Below.drew ?_) | (refine below_on ?_ (by assumption)))))))
    ((first
      | (go_at_call 118; refine (rnum_any 1 (by decide) (by decide) _).mono ?_; rintro e1 wb ⟨v1, rfl, hV1, hb⟩; have hD1 := below_on hD0 hb; clear hb)
      | (go_at_call 116; refine (rcmp_any (d : Int) 1 _ _ _ (big_of g3 (HD1.out.below hD1)) hV1).mono ?_; rintro e1 wc ⟨rfl, hb⟩; have hD2 := below_on hD1 hb; clear hb)))
  clear hV1 hD1 hD0 HS
  have z2 := heap_below hD2 z1
  have HD2 := Hd.mk (HD1.out.below hD2)
  have hB2 := below_on hB1 hD2
  clear z1 HD1 hB1 hD2
  have c2 := cell_at z2
  have hs := sgn_one d
  by_cases h1 : d = 1
  · rw [decide_eq_true h1] at hs
    have HR := Hd.mk (HR1.out h1)
    clear h1
    go_wp2
    go_ret
    exact ⟨by rw [HR.out]; rfl, hB2⟩
  · rw [decide_eq_false h1] at hs
    have HR := Hd.mk (HR2.out h1)
    clear h1
    go_wp2_with fail
    refine (HT2.out _ _ (big_of g3 HD2.out)).mono ?_
    rintro e1 wd ⟨rfl, hb⟩
    have hB3 := below_on hB2 hb
    clear hb c2 z2 hB2
    go_wp2
    go_ret
    exact ⟨by rw [HR.out]; rfl, hB3⟩
set_option maxRecDepth 20000 in
set_option maxHeartbeats 4000000 in
/-- The references' text of a point. -/
theorem rptext_any (z1 : Int) (d1 : Nat) (z2 : Int) (d2 : Nat) (h1 : ab z1 < 2 ^ 256) (h2 : d1 < 2 ^ 256) (h3 : ab z2 < 2 ^ 256) (h4 : d2 < 2 ^ 256) (u : Value) (w : World) (hu : PntAt w u z1 d1 z2 d2) :
    Calls Tryz.prog 70 #[u] w fun e w' => e = .returned (.string (bs (ratL z1 d1 ++ 32 :: ratL z2 d2))) ∧ Below w.heap.size w w' := by
  obtain ⟨A, c, B, e, A2, c2, B2, e2, rfl, k1, k2⟩ := hu
  have HX := Hd.mk (fun u w hu => rrtext_any z1 d1 h1 h2 u w hu)
  have HY := Hd.mk (fun u w hu => rrtext_any z2 d2 h3 h4 u w hu)
  have HK := Hd.mk (And.intro k1 k2)
  have hl1 := ratL_len h1 h2
  have hl2 := ratL_len h3 h4
  clear h1 h2 h3 h4 k1 k2
  generalize ratL z1 d1 = S at *
  generalize ratL z2 d2 = T at *
  have r1 := fun w => run_bs_add (P := Tryz.prog) S [32] (S ++ [32]) (by rw [List.length_singleton]; omega) rfl w
  have r2 := fun w => run_bs_add (P := Tryz.prog) (S ++ [32]) T (S ++ 32 :: T) (by rw [List.length_append, List.length_singleton]; omega) (by simp) w
  clear hl1 hl2
  go_enter Tryz.func70, Tryz.ntmps70
  go_upto_region 1 with (fail)
  refine abs_wp (fun W => W.heap[w.heap.size]? = some (.cells #[.bool (ng z1), .slice A (dd (ab z1)).length c, .bool (ng (d1 : Int)), .slice B (dd (ab (d1 : Int))).length e, .bool (ng z2), .slice A2 (dd (ab z2)).length c2, .bool (ng (d2 : Int)), .slice B2 (dd (ab (d2 : Int))).length e2] 127 (0, 0)) ∧ Below w.heap.size w W) ⟨heap_new _ _, by focus (repeat (first | (with_reducible exact Below.refl _ _) | (with_reducible assumption) | ((with_reducible refine Below.setCell ?_ ?_ _); rotate_left; (focus (first | omega | (simp; done) | (simp; omega)))) | ((with_reducible refine Below.alloc ?_ ?_ _); rotate_left; (focus (first | omega | (simp; done) | (simp; omega)))) | (with_reducible refine Below.drew ?_) | (refine below_on ?_ (by assumption))))⟩ fun W ⟨z0, hB⟩ => ?_
  have HD := Hd.mk (And.intro (HK.out.1.below hB) (HK.out.2.below hB))
  clear HK
  have hD0 : Below W.heap.size W W.drew := Below.drew (Below.refl _ _)
  have HS : Hd (∀ W', Below W.heap.size W W' → W'.cell? ⟨w.heap.size, 0, none⟩ = some (.bool (ng z1)) ∧ W'.cell? ⟨w.heap.size, 1, none⟩ = some (.slice A (dd (ab z1)).length c) ∧ W'.cell? ⟨w.heap.size, 2, none⟩ = some (.bool (ng (d1 : Int))) ∧ W'.cell? ⟨w.heap.size, 3, none⟩ = some (.slice B (dd (ab (d1 : Int))).length e) ∧ W'.cell? ⟨w.heap.size, 4, none⟩ = some (.bool (ng z2)) ∧ W'.cell? ⟨w.heap.size, 5, none⟩ = some (.slice A2 (dd (ab z2)).length c2) ∧ W'.cell? ⟨w.heap.size, 6, none⟩ = some (.bool (ng (d2 : Int))) ∧ W'.cell? ⟨w.heap.size, 7, none⟩ = some (.slice B2 (dd (ab (d2 : Int))).length e2)) := ⟨fun W' h => ⟨cell_at (heap_below h z0) 0, cell_at (heap_below h z0) 1, cell_at (heap_below h z0) 2, cell_at (heap_below h z0) 3, cell_at (heap_below h z0) 4, cell_at (heap_below h z0) 5, cell_at (heap_below h z0) 6, cell_at (heap_below h z0) 7⟩⟩
  clear z0
  go_region_held3 (fun W' => W'.cell? ⟨w.heap.size, 0, none⟩ = some (.bool (ng z1)) ∧ W'.cell? ⟨w.heap.size, 1, none⟩ = some (.slice A (dd (ab z1)).length c) ∧ W'.cell? ⟨w.heap.size, 2, none⟩ = some (.bool (ng (d1 : Int))) ∧ W'.cell? ⟨w.heap.size, 3, none⟩ = some (.slice B (dd (ab (d1 : Int))).length e) ∧ W'.cell? ⟨w.heap.size, 4, none⟩ = some (.bool (ng z2)) ∧ W'.cell? ⟨w.heap.size, 5, none⟩ = some (.slice A2 (dd (ab z2)).length c2) ∧ W'.cell? ⟨w.heap.size, 6, none⟩ = some (.bool (ng (d2 : Int))) ∧ W'.cell? ⟨w.heap.size, 7, none⟩ = some (.slice B2 (dd (ab (d2 : Int))).length e2)) ((exact HS.out _ (by focus (repeat (first | (with_reducible exact Below.refl _ _) | (with_reducible assumption) | ((with_reducible refine Below.setCell ?_ ?_ _); rotate_left; (focus (first | omega | (simp; done) | (simp; omega)))) | ((with_reducible refine Below.alloc ?_ ?_ _); rotate_left; (focus (first | omega | (simp; done) | (simp; omega)))) | (with_reducible refine Below.drew ?_) | (refine below_on ?_ (by assumption)))))))
    ((first
      | (go_at_call 93; have hq := hV1; clear hq; refine (HY.out _ _ (HD.out.2.below hD1)).mono ?_; rintro e1 wb ⟨rfl, hb⟩; have hD2 := below_on hD1 hb; clear hb)
      | (go_at_call 93; refine (HX.out _ _ (HD.out.1.below hD0)).mono ?_; rintro e1 wa ⟨rfl, hb⟩; have hV1 := True.intro; have hD1 := below_on hD0 hb; clear hb)))
  have hF := below_on hB hD2
  clear HS hD0 hV1 hD1 hB hD2 HD
  go_wp2
  go_ret
  exact ⟨rfl, hF⟩
set_option maxRecDepth 20000 in
set_option maxHeartbeats 8000000 in
/-- A point of Ints as one of numbers of any size. -/
theorem rpfrom_ok (p q r s : Bool × Nat) (hp : p.2 < 2 ^ 256) (hq : q.2 < 2 ^ 256) (hr : r.2 < 2 ^ 256) (hs : s.2 < 2 ^ 256) (h1 : okR p q) (h2 : okR r s) (w : World) :
    Calls Tryz.prog 71 #[.agg #[.bool p.1, .int .u64 (dg (p.2) 0), .int .u64 (dg (p.2) 1), .int .u64 (dg (p.2) 2), .int .u64 (dg (p.2) 3), .bool q.1, .int .u64 (dg (q.2) 0), .int .u64 (dg (q.2) 1), .int .u64 (dg (q.2) 2), .int .u64 (dg (q.2) 3), .bool r.1, .int .u64 (dg (r.2) 0), .int .u64 (dg (r.2) 1), .int .u64 (dg (r.2) 2), .int .u64 (dg (r.2) 3), .bool s.1, .int .u64 (dg (s.2) 0), .int .u64 (dg (s.2) 1), .int .u64 (dg (s.2) 2), .int .u64 (dg (s.2) 3)]] w fun e w' => ∃ v, e = .returned v ∧ PntAt w' v (zof p.1 p.2) q.2 (zof r.1 r.2) s.2 ∧ Below w.heap.size w w' := by
  have HX := Hd.mk (fun w => rrfrom_ok p q hp hq h1 w)
  have HY := Hd.mk (fun w => rrfrom_ok r s hr hs h2 w)
  obtain ⟨m, hm⟩ : ∃ m, m = zof p.1 p.2 := ⟨_, rfl⟩
  obtain ⟨n, hn⟩ : ∃ n, n = zof r.1 r.2 := ⟨_, rfl⟩
  obtain ⟨j, hj⟩ : ∃ j, j = q.2 := ⟨_, rfl⟩
  obtain ⟨k, hk⟩ : ∃ k, k = s.2 := ⟨_, rfl⟩
  have HX2 : Hd (∀ w, Calls Tryz.prog 92 #[.agg #[.bool (p.1), .int .u64 (dg (p.2) 0), .int .u64 (dg (p.2) 1), .int .u64 (dg (p.2) 2), .int .u64 (dg (p.2) 3), .bool (q.1), .int .u64 (dg (q.2) 0), .int .u64 (dg (q.2) 1), .int .u64 (dg (q.2) 2), .int .u64 (dg (q.2) 3)]] w fun e w' => ∃ v, e = .returned v ∧ RatAt w' v m (j : Int) ∧ Below w.heap.size w w') := ⟨fun w => by rw [hm, hj]; exact HX.out w⟩
  have HY2 : Hd (∀ w, Calls Tryz.prog 92 #[.agg #[.bool (r.1), .int .u64 (dg (r.2) 0), .int .u64 (dg (r.2) 1), .int .u64 (dg (r.2) 2), .int .u64 (dg (r.2) 3), .bool (s.1), .int .u64 (dg (s.2) 0), .int .u64 (dg (s.2) 1), .int .u64 (dg (s.2) 2), .int .u64 (dg (s.2) 3)]] w fun e w' => ∃ v, e = .returned v ∧ RatAt w' v n (k : Int) ∧ Below w.heap.size w w') := ⟨fun w => by rw [hn, hk]; exact HY.out w⟩
  rw [← hm, ← hn, ← hj, ← hk]
  have hjj : ∀ i, dg j i = dg q.2 i := fun i => by rw [hj]
  have hkk : ∀ i, dg k i = dg s.2 i := fun i => by rw [hk]
  have HJ := Hd.mk (And.intro hjj hkk)
  rw [HJ.out.1, HJ.out.1, HJ.out.1, HJ.out.1, HJ.out.2, HJ.out.2, HJ.out.2, HJ.out.2]
  clear HX HY hp hq hr hs h1 h2 hm hn hj hk hjj hkk HJ
  go_enter Tryz.func71, Tryz.ntmps71
  go_upto_region 1 with (fail)
  refine abs_wp (fun W => W.heap[w.heap.size]? = some (.cells #[.bool p.1, .int .u64 (dg (p.2) 0), .int .u64 (dg (p.2) 1), .int .u64 (dg (p.2) 2), .int .u64 (dg (p.2) 3), .bool q.1, .int .u64 (dg (q.2) 0), .int .u64 (dg (q.2) 1), .int .u64 (dg (q.2) 2), .int .u64 (dg (q.2) 3), .bool r.1, .int .u64 (dg (r.2) 0), .int .u64 (dg (r.2) 1), .int .u64 (dg (r.2) 2), .int .u64 (dg (r.2) 3), .bool s.1, .int .u64 (dg (s.2) 0), .int .u64 (dg (s.2) 1), .int .u64 (dg (s.2) 2), .int .u64 (dg (s.2) 3)] 93 (0, 0)) ∧ W.heap[w.heap.size + 1]? = some (.cells #[.bool false, .slice none 0 0, .bool false, .slice none 0 0, .bool false, .slice none 0 0, .bool false, .slice none 0 0] 127 (0, 0)) ∧ Below w.heap.size w W) ⟨heap_old (heap_new _ _) _, heap_at (by simp) _, by focus (repeat (first | (with_reducible exact Below.refl _ _) | (with_reducible assumption) | ((with_reducible refine Below.setCell ?_ ?_ _); rotate_left; (focus (first | omega | (simp; done) | (simp; omega)))) | ((with_reducible refine Below.alloc ?_ ?_ _); rotate_left; (focus (first | omega | (simp; done) | (simp; omega)))) | (with_reducible refine Below.drew ?_) | (refine below_on ?_ (by assumption))))⟩ fun W ⟨z0, z1, hB⟩ => ?_
  have HS : Hd (∀ W', Below (w.heap.size + 1) W W' → W'.cell? ⟨w.heap.size, 0, none⟩ = some (.bool p.1) ∧ W'.cell? ⟨w.heap.size, 1, none⟩ = some (.int .u64 (dg p.2 0)) ∧ W'.cell? ⟨w.heap.size, 2, none⟩ = some (.int .u64 (dg p.2 1)) ∧ W'.cell? ⟨w.heap.size, 3, none⟩ = some (.int .u64 (dg p.2 2)) ∧ W'.cell? ⟨w.heap.size, 4, none⟩ = some (.int .u64 (dg p.2 3)) ∧ W'.cell? ⟨w.heap.size, 5, none⟩ = some (.bool q.1) ∧ W'.cell? ⟨w.heap.size, 6, none⟩ = some (.int .u64 (dg q.2 0)) ∧ W'.cell? ⟨w.heap.size, 7, none⟩ = some (.int .u64 (dg q.2 1)) ∧ W'.cell? ⟨w.heap.size, 8, none⟩ = some (.int .u64 (dg q.2 2)) ∧ W'.cell? ⟨w.heap.size, 9, none⟩ = some (.int .u64 (dg q.2 3)) ∧ W'.cell? ⟨w.heap.size, 10, none⟩ = some (.bool r.1) ∧ W'.cell? ⟨w.heap.size, 11, none⟩ = some (.int .u64 (dg r.2 0)) ∧ W'.cell? ⟨w.heap.size, 12, none⟩ = some (.int .u64 (dg r.2 1)) ∧ W'.cell? ⟨w.heap.size, 13, none⟩ = some (.int .u64 (dg r.2 2)) ∧ W'.cell? ⟨w.heap.size, 14, none⟩ = some (.int .u64 (dg r.2 3)) ∧ W'.cell? ⟨w.heap.size, 15, none⟩ = some (.bool s.1) ∧ W'.cell? ⟨w.heap.size, 16, none⟩ = some (.int .u64 (dg s.2 0)) ∧ W'.cell? ⟨w.heap.size, 17, none⟩ = some (.int .u64 (dg s.2 1)) ∧ W'.cell? ⟨w.heap.size, 18, none⟩ = some (.int .u64 (dg s.2 2)) ∧ W'.cell? ⟨w.heap.size, 19, none⟩ = some (.int .u64 (dg s.2 3))) := ⟨fun W' h => ⟨(h.cell (Nat.lt_succ_self _)).trans (cell_at z0 0), (h.cell (Nat.lt_succ_self _)).trans (cell_at z0 1), (h.cell (Nat.lt_succ_self _)).trans (cell_at z0 2), (h.cell (Nat.lt_succ_self _)).trans (cell_at z0 3), (h.cell (Nat.lt_succ_self _)).trans (cell_at z0 4), (h.cell (Nat.lt_succ_self _)).trans (cell_at z0 5), (h.cell (Nat.lt_succ_self _)).trans (cell_at z0 6), (h.cell (Nat.lt_succ_self _)).trans (cell_at z0 7), (h.cell (Nat.lt_succ_self _)).trans (cell_at z0 8), (h.cell (Nat.lt_succ_self _)).trans (cell_at z0 9), (h.cell (Nat.lt_succ_self _)).trans (cell_at z0 10), (h.cell (Nat.lt_succ_self _)).trans (cell_at z0 11), (h.cell (Nat.lt_succ_self _)).trans (cell_at z0 12), (h.cell (Nat.lt_succ_self _)).trans (cell_at z0 13), (h.cell (Nat.lt_succ_self _)).trans (cell_at z0 14), (h.cell (Nat.lt_succ_self _)).trans (cell_at z0 15), (h.cell (Nat.lt_succ_self _)).trans (cell_at z0 16), (h.cell (Nat.lt_succ_self _)).trans (cell_at z0 17), (h.cell (Nat.lt_succ_self _)).trans (cell_at z0 18), (h.cell (Nat.lt_succ_self _)).trans (cell_at z0 19)⟩⟩
  have hD0 : Below (w.heap.size + 1) W W.drew := Below.drew (Below.refl _ _)
  have hB0 : Below w.heap.size w W.drew := Below.drew hB
  have y1 : W.drew.heap[w.heap.size + 1]? = some (.cells #[.bool false, .slice none 0 0, .bool false, .slice none 0 0, .bool false, .slice none 0 0, .bool false, .slice none 0 0] 127 (0, 0)) := z1
  have hsz : w.heap.size + 1 ≤ W.heap.size := Nat.le_of_lt (lt_of_block z1)
  clear z0 z1 hB
  go_region_held3 (fun W' => W'.cell? ⟨w.heap.size, 0, none⟩ = some (.bool p.1) ∧ W'.cell? ⟨w.heap.size, 1, none⟩ = some (.int .u64 (dg p.2 0)) ∧ W'.cell? ⟨w.heap.size, 2, none⟩ = some (.int .u64 (dg p.2 1)) ∧ W'.cell? ⟨w.heap.size, 3, none⟩ = some (.int .u64 (dg p.2 2)) ∧ W'.cell? ⟨w.heap.size, 4, none⟩ = some (.int .u64 (dg p.2 3)) ∧ W'.cell? ⟨w.heap.size, 5, none⟩ = some (.bool q.1) ∧ W'.cell? ⟨w.heap.size, 6, none⟩ = some (.int .u64 (dg q.2 0)) ∧ W'.cell? ⟨w.heap.size, 7, none⟩ = some (.int .u64 (dg q.2 1)) ∧ W'.cell? ⟨w.heap.size, 8, none⟩ = some (.int .u64 (dg q.2 2)) ∧ W'.cell? ⟨w.heap.size, 9, none⟩ = some (.int .u64 (dg q.2 3)) ∧ W'.cell? ⟨w.heap.size, 10, none⟩ = some (.bool r.1) ∧ W'.cell? ⟨w.heap.size, 11, none⟩ = some (.int .u64 (dg r.2 0)) ∧ W'.cell? ⟨w.heap.size, 12, none⟩ = some (.int .u64 (dg r.2 1)) ∧ W'.cell? ⟨w.heap.size, 13, none⟩ = some (.int .u64 (dg r.2 2)) ∧ W'.cell? ⟨w.heap.size, 14, none⟩ = some (.int .u64 (dg r.2 3)) ∧ W'.cell? ⟨w.heap.size, 15, none⟩ = some (.bool s.1) ∧ W'.cell? ⟨w.heap.size, 16, none⟩ = some (.int .u64 (dg s.2 0)) ∧ W'.cell? ⟨w.heap.size, 17, none⟩ = some (.int .u64 (dg s.2 1)) ∧ W'.cell? ⟨w.heap.size, 18, none⟩ = some (.int .u64 (dg s.2 2)) ∧ W'.cell? ⟨w.heap.size, 19, none⟩ = some (.int .u64 (dg s.2 3))) ((exact HS.out _ (by focus (repeat (first | (with_reducible exact Below.refl _ _) | (with_reducible assumption) | ((with_reducible refine Below.setCell ?_ ?_ _); rotate_left; (focus (first | omega | (simp; done) | (simp; omega)))) | ((with_reducible refine Below.alloc ?_ ?_ _); rotate_left; (focus (first | omega | (simp; done) | (simp; omega)))) | (with_reducible refine Below.drew ?_) | (refine below_on ?_ (by assumption)))))))
    ((first
      | (go_at_call 92; have hq := hV1; clear hq; refine (HY2.out _).mono ?_; rintro e1 wb ⟨v2, rfl, ⟨A2, c2, B2, e2, rfl, g2⟩, hb⟩; have hR2 : RatAt wb _ n (k : Int) := ⟨A2, c2, B2, e2, rfl, g2⟩; have hR1 := hR1.below hb; have hD2 := below_upw hsz hD1 hb; have hB2 := below_on hB1 hb; have y3 := heap_below hb y2; have q1 := cell_at y3; have q2 := frozen_at y3; clear hb)
      | (go_at_call 92; refine (HX2.out _).mono ?_; rintro e1 wa ⟨v1, rfl, ⟨A, c, B, e, rfl, g1⟩, hb⟩; have hR1 : RatAt wa _ m (j : Int) := ⟨A, c, B, e, rfl, g1⟩; have hV1 := True.intro; have hD1 := below_upw hsz hD0 hb; have hB1 := below_on hB0 hb; have y2 := heap_below hb y1; clear hb)))
  obtain ⟨l1, l2, l3⟩ := laid_8 (w.heap.size + 1) wb (.bool (ng m)) (.slice A (dd (ab m)).length c) (.bool (ng (j : Int))) (.slice B (dd (ab (j : Int))).length e) (.bool (ng n)) (.slice A2 (dd (ab n)).length c2) (.bool (ng (k : Int))) (.slice B2 (dd (ab (k : Int))).length e2)
  have HR := Hd.mk (And.intro (hR1.other y3 no_int8 l2) (hR2.other y3 no_int8 l2))
  have hF := hB2.trans (l3 _ (by omega))
  have k1 := l1 y3 rfl
  clear l1 l2 l3 HS hD0 hB0 y1 hV1 hD1 hB1 y2 g1 g2 hR1 hR2 hD2 hB2 y3 q1 q2
  generalize ((((((((wb.setCell ⟨w.heap.size + 1, 0, none⟩ (.bool (ng m))).setCell ⟨w.heap.size + 1, 1, none⟩ (.slice A (dd (ab m)).length c)).setCell ⟨w.heap.size + 1, 2, none⟩ (.bool (ng (j : Int)))).setCell ⟨w.heap.size + 1, 3, none⟩ (.slice B (dd (ab (j : Int))).length e)).setCell ⟨w.heap.size + 1, 4, none⟩ (.bool (ng n))).setCell ⟨w.heap.size + 1, 5, none⟩ (.slice A2 (dd (ab n)).length c2)).setCell ⟨w.heap.size + 1, 6, none⟩ (.bool (ng (k : Int)))).setCell ⟨w.heap.size + 1, 7, none⟩ (.slice B2 (dd (ab (k : Int))).length e2)) = wz at *
  go_wp2
  refine bodyPost_ret (by simp [results, Tryz.results71, asAddr, load_rpnt k1 rfl] <;> rfl) rfl ⟨_, rfl, ⟨A, c, B, e, A2, c2, B2, e2, rfl, HR.out.1, HR.out.2⟩, hF⟩
end Go.Proofs.YtfchmikbebdflaaGreatDoor
