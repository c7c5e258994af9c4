/-
  The references: which fraction of Ints may be. Conditions stand in each theorem.
-/
import Derived.Test.YtbhfnfokihdjjaaGreatDoorRf8
import Derived.Test.YtbhfnfokihdjjaaGreatDoorSg10
import Derived.Test.YtbhfnfokihdjjaaGreatDoorRab
import Derived.Test.YtbhfnfokihdjjaaGreatDoorRb4
namespace Go.Proofs.YtbhfnfokihdjjaaGreatDoor
open Go.RowKit Go.BigFrame
theorem ex_putw3 {T : Array Value} {ds : List Deferred} {G : (Nat → Value) → Act} {R : Prop} (h : R ∧ (Act.mk T ds = G (fun i => T.getD i undef))) : ∃ v : Nat → Value, R ∧ (Act.mk T ds = G v) := ⟨_, h⟩
set_option maxRecDepth 20000 in
set_option maxHeartbeats 2000000 in
theorem rrat_r1 (p q : Bool × Nat) (hp : p.2 < 2 ^ 256) (_hq : q.2 < 2 ^ 256) (h1 : decide (okP p) = false) (w : World) :
    Calls Tryz.prog 53 #[.agg #[.bool (p.1), .int .u64 (dg (p.2) 0), .int .u64 (dg (p.2) 1), .int .u64 (dg (p.2) 2), .int .u64 (dg (p.2) 3), .bool (q.1), .int .u64 (dg (q.2) 0), .int .u64 (dg (q.2) 1), .int .u64 (dg (q.2) 2), .int .u64 (dg (q.2) 3)]] w fun e w' => e = .returned (.bool false) ∧ Below w.heap.size w w' := by
  have H1 : Hd (∀ w, Calls Tryz.prog 89 #[.agg #[.bool (p.1), .int .u64 (dg (p.2) 0), .int .u64 (dg (p.2) 1), .int .u64 (dg (p.2) 2), .int .u64 (dg (p.2) 3)]] w fun e w' => e = .returned (.bool false) ∧ Below w.heap.size w w') := ⟨fun w => by have h := rright_any p hp w; rw [h1] at h; exact h⟩
  clear hp _hq h1
  go_enter Tryz.func53, Tryz.ntmps53
  go_wp2_with fail
  refine (H1.out _).mono ?_
  rintro e w1 ⟨rfl, hb⟩
  have z1 := heap_below hb (heap_new w (.cells #[.bool (p.1), .int .u64 (dg (p.2) 0), .int .u64 (dg (p.2) 1), .int .u64 (dg (p.2) 2), .int .u64 (dg (p.2) 3), .bool (q.1), .int .u64 (dg (q.2) 0), .int .u64 (dg (q.2) 1), .int .u64 (dg (q.2) 2), .int .u64 (dg (q.2) 3)] 44))
  have hB1 : Below w.heap.size w w1 := below_on (by focus (repeat (first | (with_reducible exact Below.refl _ _) | (with_reducible assumption) | ((with_reducible refine Below.setCell ?_ ?_ _); rotate_left; (focus (first | omega | (simp; done) | (simp; omega)))) | ((with_reducible refine Below.alloc ?_ ?_ _); rotate_left; (focus (first | omega | (simp; done) | (simp; omega)))) | (with_reducible refine Below.drew ?_) | (refine below_on ?_ (by assumption))))) hb
  clear hb H1
  go_wp2
  go_ret
  exact ⟨rfl, hB1⟩
set_option maxRecDepth 20000 in
set_option maxHeartbeats 2000000 in
theorem rrat_r2 (p q : Bool × Nat) (hp : p.2 < 2 ^ 256) (hq : q.2 < 2 ^ 256) (h1 : decide (okP p) = true) (h2 : decide (okP q) = false) (w : World) :
    Calls Tryz.prog 53 #[.agg #[.bool (p.1), .int .u64 (dg (p.2) 0), .int .u64 (dg (p.2) 1), .int .u64 (dg (p.2) 2), .int .u64 (dg (p.2) 3), .bool (q.1), .int .u64 (dg (q.2) 0), .int .u64 (dg (q.2) 1), .int .u64 (dg (q.2) 2), .int .u64 (dg (q.2) 3)]] w fun e w' => e = .returned (.bool false) ∧ Below w.heap.size w w' := by
  have H1 : Hd (∀ w, Calls Tryz.prog 89 #[.agg #[.bool (p.1), .int .u64 (dg (p.2) 0), .int .u64 (dg (p.2) 1), .int .u64 (dg (p.2) 2), .int .u64 (dg (p.2) 3)]] w fun e w' => e = .returned (.bool true) ∧ Below w.heap.size w w') := ⟨fun w => by have h := rright_any p hp w; rw [h1] at h; exact h⟩
  have H2 : Hd (∀ w, Calls Tryz.prog 89 #[.agg #[.bool (q.1), .int .u64 (dg (q.2) 0), .int .u64 (dg (q.2) 1), .int .u64 (dg (q.2) 2), .int .u64 (dg (q.2) 3)]] w fun e w' => e = .returned (.bool false) ∧ Below w.heap.size w w') := ⟨fun w => by have h := rright_any q hq w; rw [h2] at h; exact h⟩
  clear hp hq h1 h2
  go_enter Tryz.func53, Tryz.ntmps53
  go_wp2_with fail
  refine (H1.out _).mono ?_
  rintro e w1 ⟨rfl, hb⟩
  have z1 := heap_below hb (heap_new w (.cells #[.bool (p.1), .int .u64 (dg (p.2) 0), .int .u64 (dg (p.2) 1), .int .u64 (dg (p.2) 2), .int .u64 (dg (p.2) 3), .bool (q.1), .int .u64 (dg (q.2) 0), .int .u64 (dg (q.2) 1), .int .u64 (dg (q.2) 2), .int .u64 (dg (q.2) 3)] 44))
  have hB1 : Below w.heap.size w w1 := below_on (by focus (repeat (first | (with_reducible exact Below.refl _ _) | (with_reducible assumption) | ((with_reducible refine Below.setCell ?_ ?_ _); rotate_left; (focus (first | omega | (simp; done) | (simp; omega)))) | ((with_reducible refine Below.alloc ?_ ?_ _); rotate_left; (focus (first | omega | (simp; done) | (simp; omega)))) | (with_reducible refine Below.drew ?_) | (refine below_on ?_ (by assumption))))) hb
  clear hb H1
  have c0 := cell_at z1
  go_wp2_with fail
  refine (H2.out _).mono ?_
  rintro e w2 ⟨rfl, hb⟩
  have z2 := heap_below hb z1
  have hB2 := below_on hB1 hb
  clear hb H2 z1 hB1 c0
  go_wp2
  go_ret
  exact ⟨rfl, hB2⟩
set_option maxRecDepth 20000 in
set_option maxHeartbeats 2000000 in
theorem rrat_r3 (p q : Bool × Nat) (hp : p.2 < 2 ^ 256) (hq : q.2 < 2 ^ 256) (h1 : decide (okP p) = true) (h2 : decide (okP q) = true) (h3 : decide (sgn (zof q.1 q.2) > 0) = false) (w : World) :
    Calls Tryz.prog 53 #[.agg #[.bool (p.1), .int .u64 (dg (p.2) 0), .int .u64 (dg (p.2) 1), .int .u64 (dg (p.2) 2), .int .u64 (dg (p.2) 3), .bool (q.1), .int .u64 (dg (q.2) 0), .int .u64 (dg (q.2) 1), .int .u64 (dg (q.2) 2), .int .u64 (dg (q.2) 3)]] w fun e w' => e = .returned (.bool false) ∧ Below w.heap.size w w' := by
  have H1 : Hd (∀ w, Calls Tryz.prog 89 #[.agg #[.bool (p.1), .int .u64 (dg (p.2) 0), .int .u64 (dg (p.2) 1), .int .u64 (dg (p.2) 2), .int .u64 (dg (p.2) 3)]] w fun e w' => e = .returned (.bool true) ∧ Below w.heap.size w w') := ⟨fun w => by have h := rright_any p hp w; rw [h1] at h; exact h⟩
  have H2 : Hd (∀ w, Calls Tryz.prog 89 #[.agg #[.bool (q.1), .int .u64 (dg (q.2) 0), .int .u64 (dg (q.2) 1), .int .u64 (dg (q.2) 2), .int .u64 (dg (q.2) 3)]] w fun e w' => e = .returned (.bool true) ∧ Below w.heap.size w w') := ⟨fun w => by have h := rright_any q hq w; rw [h2] at h; exact h⟩
  have F1 := Hd.mk (fun w => from_any p hp w)
  have F2 := Hd.mk (fun w => from_any q hq w)
  obtain ⟨m, hm⟩ : ∃ m, m = zof p.1 p.2 := ⟨_, rfl⟩
  obtain ⟨n, hn⟩ : ∃ n, n = zof q.1 q.2 := ⟨_, rfl⟩
  have em : ab m = p.2 := by rw [hm]; exact ab_zof _ _
  have en : ab n = q.2 := by rw [hn]; exact ab_zof _ _
  have HP : Hd (ab m < 2 ^ 256) := ⟨by rw [em]; exact hp⟩
  have HQ : Hd (ab n < 2 ^ 256) := ⟨by rw [en]; exact hq⟩
  rw [← hm] at F1
  rw [← hn] at F2 h3
  clear hm hn em en
  clear hp hq h1 h2
  go_enter Tryz.func53, Tryz.ntmps53
  go_wp2_with fail
  refine (H1.out _).mono ?_
  rintro e w1 ⟨rfl, hb⟩
  have z1 := heap_below hb (heap_new w (.cells #[.bool (p.1), .int .u64 (dg (p.2) 0), .int .u64 (dg (p.2) 1), .int .u64 (dg (p.2) 2), .int .u64 (dg (p.2) 3), .bool (q.1), .int .u64 (dg (q.2) 0), .int .u64 (dg (q.2) 1), .int .u64 (dg (q.2) 2), .int .u64 (dg (q.2) 3)] 44))
  have hB1 : Below w.heap.size w w1 := below_on (by focus (repeat (first | (with_reducible exact Below.refl _ _) | (with_reducible assumption) | ((with_reducible refine Below.setCell ?_ ?_ _); rotate_left; (focus (first | omega | (simp; done) | (simp; omega)))) | ((with_reducible refine Below.alloc ?_ ?_ _); rotate_left; (focus (first | omega | (simp; done) | (simp; omega)))) | (with_reducible refine Below.drew ?_) | (refine below_on ?_ (by assumption))))) hb
  clear hb H1
  have c0 := cell_at z1
  go_wp2_with fail
  refine (H2.out _).mono ?_
  rintro e w2 ⟨rfl, hb⟩
  have z2 := heap_below hb z1
  have hB2 := below_on hB1 hb
  clear hb H2 z1 hB1 c0
  go_upto_region 3 with (fail)
  refine region_abs_w (fun a0 a' w' => ∃ N M, ∃ v : Nat → Value, ((BigIn w' N m ∧ BigIn w' M n) ∧ Below w2.heap.size w2 w') ∧ (a' = (Act.put (Act.put (Act.put (Act.put (Act.put (Act.put (Act.put (Act.put a0 (some 15) (v 15)) (some 16) (v 16)) (some 17) (v 17)) (some 18) (v 18)) (some 19) (v 19)) (some 20) (v 20)) (some 3) (.pointer (some ⟨N, 0, none⟩))) (some 4) (.pointer (some ⟨M, 0, none⟩))))) (fun KR hKR => ?_) ?_
  · have HS : Hd (∀ W', Below w2.heap.size w2 W' → W'.cell? ⟨w.heap.size, 0, none⟩ = some (.bool p.1) ∧ W'.cell? ⟨w.heap.size, 1, none⟩ = some (.int .u64 (dg p.2 0)) ∧ W'.cell? ⟨w.heap.size, 2, none⟩ = some (.int .u64 (dg p.2 1)) ∧ W'.cell? ⟨w.heap.size, 3, none⟩ = some (.int .u64 (dg p.2 2)) ∧ W'.cell? ⟨w.heap.size, 4, none⟩ = some (.int .u64 (dg p.2 3)) ∧ W'.cell? ⟨w.heap.size, 5, none⟩ = some (.bool q.1) ∧ W'.cell? ⟨w.heap.size, 6, none⟩ = some (.int .u64 (dg q.2 0)) ∧ W'.cell? ⟨w.heap.size, 7, none⟩ = some (.int .u64 (dg q.2 1)) ∧ W'.cell? ⟨w.heap.size, 8, none⟩ = some (.int .u64 (dg q.2 2)) ∧ W'.cell? ⟨w.heap.size, 9, none⟩ = some (.int .u64 (dg q.2 3))) := ⟨fun W' h => ⟨cell_at (heap_below h z2) 0, cell_at (heap_below h z2) 1, cell_at (heap_below h z2) 2, cell_at (heap_below h z2) 3, cell_at (heap_below h z2) 4, cell_at (heap_below h z2) 5, cell_at (heap_below h z2) 6, cell_at (heap_below h z2) 7, cell_at (heap_below h z2) 8, cell_at (heap_below h z2) 9⟩⟩
    have hD : Below w2.heap.size w2 w2.drew := Below.drew (Below.refl _ _)
    have hDz := hD.size
    clear hB2
    go_region_held3 (fun W' => W'.cell? ⟨w.heap.size, 0, none⟩ = some (.bool p.1) ∧ W'.cell? ⟨w.heap.size, 1, none⟩ = some (.int .u64 (dg p.2 0)) ∧ W'.cell? ⟨w.heap.size, 2, none⟩ = some (.int .u64 (dg p.2 1)) ∧ W'.cell? ⟨w.heap.size, 3, none⟩ = some (.int .u64 (dg p.2 2)) ∧ W'.cell? ⟨w.heap.size, 4, none⟩ = some (.int .u64 (dg p.2 3)) ∧ W'.cell? ⟨w.heap.size, 5, none⟩ = some (.bool q.1) ∧ W'.cell? ⟨w.heap.size, 6, none⟩ = some (.int .u64 (dg q.2 0)) ∧ W'.cell? ⟨w.heap.size, 7, none⟩ = some (.int .u64 (dg q.2 1)) ∧ W'.cell? ⟨w.heap.size, 8, none⟩ = some (.int .u64 (dg q.2 2)) ∧ W'.cell? ⟨w.heap.size, 9, none⟩ = some (.int .u64 (dg q.2 3))) ((exact HS.out _ (by focus (repeat (first | (with_reducible exact Below.refl _ _) | (with_reducible assumption) | ((with_reducible refine Below.setCell ?_ ?_ _); rotate_left; (focus (first | omega | (simp; done) | (simp; omega)))) | ((with_reducible refine Below.alloc ?_ ?_ _); rotate_left; (focus (first | omega | (simp; done) | (simp; omega)))) | (with_reducible refine Below.drew ?_) | (refine below_on ?_ (by assumption)))))))
      ((first
        | (go_at_call 90; have hq := h12a; clear hq; refine (F2.out _).mono ?_; rintro e wb ⟨vb, rfl, ⟨A2, c2, rfl, h21, h22⟩, hb⟩; have h12 := h12a.below (below_on (by focus (repeat (first | (with_reducible exact Below.refl _ _) | (with_reducible assumption) | ((with_reducible refine Below.setCell ?_ ?_ _); rotate_left; (focus (first | omega | (simp; done) | (simp; omega)))) | ((with_reducible refine Below.alloc ?_ ?_ _); rotate_left; (focus (first | omega | (simp; done) | (simp; omega)))) | (with_reducible refine Below.drew ?_) | (refine below_on ?_ (by assumption))))) hb); have hD : Below w2.heap.size w2 wb := below_on (by focus (repeat (first | (with_reducible exact Below.refl _ _) | (with_reducible assumption) | ((with_reducible refine Below.setCell ?_ ?_ _); rotate_left; (focus (first | omega | (simp; done) | (simp; omega)))) | ((with_reducible refine Below.alloc ?_ ?_ _); rotate_left; (focus (first | omega | (simp; done) | (simp; omega)))) | (with_reducible refine Below.drew ?_) | (refine below_on ?_ (by assumption))))) hb; have hDz := hD.size; (first | (have zN := heap_below hb zN; have qN := cell_at zN; have fN := frozen_at zN; have lN := lt_of_block zN; have nN := Nat.ne_of_lt lN; have nN2 := Nat.ne_of_gt lN; (first | (have zM := heap_below hb zM; have qM := cell_at zM; have fM := frozen_at zM; have lM := lt_of_block zM; have nM := Nat.ne_of_lt lM; have nM2 := Nat.ne_of_gt lM) | skip)) | (have zN := heap_below hb (heap_old zN _); have qN := cell_at zN; have fN := frozen_at zN; have lN := lt_of_block zN; have nN := Nat.ne_of_lt lN; have nN2 := Nat.ne_of_gt lN; have zM := heap_below hb (heap_new _ (.cells #[.bool false, .slice none 0 0] 53)); have qM := cell_at zM; have fM := frozen_at zM; have lM := lt_of_block zM; have nM := Nat.ne_of_lt lM; have nM2 := Nat.ne_of_gt lM) | (have zM := heap_below hb (heap_two _ (.cells #[.bool false, .slice none 0 0] 53) (.cells #[.bool false, .slice none 0 0] 53)); have zN := heap_below hb (heap_old (heap_new _ (.cells #[.bool false, .slice none 0 0] 53)) _); have qN := cell_at zN; have fN := frozen_at zN; have lN := lt_of_block zN; have nN := Nat.ne_of_lt lN; have nN2 := Nat.ne_of_gt lN; have qM := cell_at zM; have fM := frozen_at zM; have lM := lt_of_block zM; have nM := Nat.ne_of_lt lM; have nM2 := Nat.ne_of_gt lM) | (have zN := heap_below hb (heap_new _ (.cells #[.bool false, .slice none 0 0] 53)); have qN := cell_at zN; have fN := frozen_at zN; have lN := lt_of_block zN; have nN := Nat.ne_of_lt lN; have nN2 := Nat.ne_of_gt lN) | skip); clear hb)
        | (go_at_call 90; refine (F1.out _).mono ?_; rintro e wa ⟨va, rfl, ⟨A1, c1, rfl, h11, h12a⟩, hb⟩; have hD : Below w2.heap.size w2 wa := below_on (by focus (repeat (first | (with_reducible exact Below.refl _ _) | (with_reducible assumption) | ((with_reducible refine Below.setCell ?_ ?_ _); rotate_left; (focus (first | omega | (simp; done) | (simp; omega)))) | ((with_reducible refine Below.alloc ?_ ?_ _); rotate_left; (focus (first | omega | (simp; done) | (simp; omega)))) | (with_reducible refine Below.drew ?_) | (refine below_on ?_ (by assumption))))) hb; have hDz := hD.size; (first | (have zN := heap_below hb zN; have qN := cell_at zN; have fN := frozen_at zN; have lN := lt_of_block zN; have nN := Nat.ne_of_lt lN; have nN2 := Nat.ne_of_gt lN; (first | (have zM := heap_below hb zM; have qM := cell_at zM; have fM := frozen_at zM; have lM := lt_of_block zM; have nM := Nat.ne_of_lt lM; have nM2 := Nat.ne_of_gt lM) | skip)) | (have zN := heap_below hb (heap_old zN _); have qN := cell_at zN; have fN := frozen_at zN; have lN := lt_of_block zN; have nN := Nat.ne_of_lt lN; have nN2 := Nat.ne_of_gt lN; have zM := heap_below hb (heap_new _ (.cells #[.bool false, .slice none 0 0] 53)); have qM := cell_at zM; have fM := frozen_at zM; have lM := lt_of_block zM; have nM := Nat.ne_of_lt lM; have nM2 := Nat.ne_of_gt lM) | (have zM := heap_below hb (heap_two _ (.cells #[.bool false, .slice none 0 0] 53) (.cells #[.bool false, .slice none 0 0] 53)); have zN := heap_below hb (heap_old (heap_new _ (.cells #[.bool false, .slice none 0 0] 53)) _); have qN := cell_at zN; have fN := frozen_at zN; have lN := lt_of_block zN; have nN := Nat.ne_of_lt lN; have nN2 := Nat.ne_of_gt lN; have qM := cell_at zM; have fM := frozen_at zM; have lM := lt_of_block zM; have nM := Nat.ne_of_lt lM; have nM2 := Nat.ne_of_gt lM) | (have zN := heap_below hb (heap_new _ (.cells #[.bool false, .slice none 0 0] 53)); have qN := cell_at zN; have fN := frozen_at zN; have lN := lt_of_block zN; have nN := Nat.ne_of_lt lN; have nN2 := Nat.ne_of_gt lN) | skip); clear hb)))
    all_goals first
      | (obtain ⟨L1, L2, L3⟩ := lay_two zN zM (by omega) h11 h12 h21 h22; exact ⟨rfl, hKR _ _ ⟨_, _, ex_putw3 ⟨by with_reducible exact ⟨⟨L1, L2⟩, hD.trans (L3 _ (by omega) (by omega))⟩, by kernel_rfl⟩⟩⟩)
      | (obtain ⟨L1, L2, L3⟩ := lay_two zM zN (by omega) h11 h12 h21 h22; exact ⟨rfl, hKR _ _ ⟨_, _, ex_putw3 ⟨by with_reducible exact ⟨⟨L1, L2⟩, hD.trans (L3 _ (by omega) (by omega))⟩, by kernel_rfl⟩⟩⟩)
      | (obtain ⟨L1, L2, L3⟩ := lay_set_alloc zN h11 h12 h21 h22; exact ⟨rfl, hKR _ _ ⟨_, _, ex_putw3 ⟨by with_reducible exact ⟨⟨L1, L2⟩, hD.trans (L3 _ (by omega))⟩, by kernel_rfl⟩⟩⟩)
      | (obtain ⟨L1, L2, L3⟩ := lay_set_alloc zN h21 h22 h11 h12; exact ⟨rfl, hKR _ _ ⟨_, _, ex_putw3 ⟨by with_reducible exact ⟨⟨L2, L1⟩, hD.trans (L3 _ (by omega))⟩, by kernel_rfl⟩⟩⟩)
      | (obtain ⟨L1, L2, L3⟩ := lay_alloc2 h11 h12 h21 h22; exact ⟨rfl, hKR _ _ ⟨_, _, ex_putw3 ⟨by with_reducible exact ⟨⟨L1, L2⟩, hD.trans (L3 _ (by omega))⟩, by kernel_rfl⟩⟩⟩)
      | (obtain ⟨L1, L2, L3⟩ := lay_alloc2 h21 h22 h11 h12; exact ⟨rfl, hKR _ _ ⟨_, _, ex_putw3 ⟨by with_reducible exact ⟨⟨L2, L1⟩, hD.trans (L3 _ (by omega))⟩, by kernel_rfl⟩⟩⟩)
  rintro a' W3 ⟨N, M, v, ⟨⟨⟨A, a, zN, a1, a2⟩, ⟨B, b, zM, b1, b2⟩⟩, hF⟩, rfl⟩
  simp only [Act.put, List.setIfInBounds_toArray, List.set_cons_succ, List.set_cons_zero]
  have hB3 := below_on hB2 hF
  have HD := Hd.mk (And.intro a2 b2)
  clear hF z2 hB2 a2 b2
  have cM := cell_at zM
  go_wp2_with fail
  refine (rsign_any n _ _ (big_of b1 HD.out.2)).mono ?_
  rintro e w4 ⟨rfl, hb⟩
  have zN := heap_below hb zN
  have zM := heap_below hb zM
  have hB4 := below_on hB3 hb
  have HD := Hd.mk (And.intro (HD.out.1.below hb) (HD.out.2.below hb))
  clear hb hB3 cM
  go_wp2
  go_ret
  exact ⟨rfl, hB4⟩
set_option maxRecDepth 20000 in
set_option maxHeartbeats 2000000 in
theorem rrat_r4 (p q : Bool × Nat) (hp : p.2 < 2 ^ 256) (hq : q.2 < 2 ^ 256) (h1 : decide (okP p) = true) (h2 : decide (okP q) = true) (h3 : decide (sgn (zof q.1 q.2) > 0) = true) (h4 : (sgn (((Nat.gcd p.2 q.2 : Nat) : Int) - 1) == 0) = false) (w : World) :
    Calls Tryz.prog 53 #[.agg #[.bool (p.1), .int .u64 (dg (p.2) 0), .int .u64 (dg (p.2) 1), .int .u64 (dg (p.2) 2), .int .u64 (dg (p.2) 3), .bool (q.1), .int .u64 (dg (q.2) 0), .int .u64 (dg (q.2) 1), .int .u64 (dg (q.2) 2), .int .u64 (dg (q.2) 3)]] w fun e w' => e = .returned (.bool false) ∧ Below w.heap.size w w' := by
  have H1 : Hd (∀ w, Calls Tryz.prog 89 #[.agg #[.bool (p.1), .int .u64 (dg (p.2) 0), .int .u64 (dg (p.2) 1), .int .u64 (dg (p.2) 2), .int .u64 (dg (p.2) 3)]] w fun e w' => e = .returned (.bool true) ∧ Below w.heap.size w w') := ⟨fun w => by have h := rright_any p hp w; rw [h1] at h; exact h⟩
  have H2 : Hd (∀ w, Calls Tryz.prog 89 #[.agg #[.bool (q.1), .int .u64 (dg (q.2) 0), .int .u64 (dg (q.2) 1), .int .u64 (dg (q.2) 2), .int .u64 (dg (q.2) 3)]] w fun e w' => e = .returned (.bool true) ∧ Below w.heap.size w w') := ⟨fun w => by have h := rright_any q hq w; rw [h2] at h; exact h⟩
  have F1 := Hd.mk (fun w => from_any p hp w)
  have F2 := Hd.mk (fun w => from_any q hq w)
  obtain ⟨m, hm⟩ : ∃ m, m = zof p.1 p.2 := ⟨_, rfl⟩
  obtain ⟨n, hn⟩ : ∃ n, n = zof q.1 q.2 := ⟨_, rfl⟩
  have em : ab m = p.2 := by rw [hm]; exact ab_zof _ _
  have en : ab n = q.2 := by rw [hn]; exact ab_zof _ _
  have HP : Hd (ab m < 2 ^ 256) := ⟨by rw [em]; exact hp⟩
  have HQ : Hd (ab n < 2 ^ 256) := ⟨by rw [en]; exact hq⟩
  rw [← hm] at F1
  rw [← hn] at F2 h3
  rw [← em, ← en] at h4
  clear hm hn em en
  clear hp hq h1 h2
  go_enter Tryz.func53, Tryz.ntmps53
  go_wp2_with fail
  refine (H1.out _).mono ?_
  rintro e w1 ⟨rfl, hb⟩
  have z1 := heap_below hb (heap_new w (.cells #[.bool (p.1), .int .u64 (dg (p.2) 0), .int .u64 (dg (p.2) 1), .int .u64 (dg (p.2) 2), .int .u64 (dg (p.2) 3), .bool (q.1), .int .u64 (dg (q.2) 0), .int .u64 (dg (q.2) 1), .int .u64 (dg (q.2) 2), .int .u64 (dg (q.2) 3)] 44))
  have hB1 : Below w.heap.size w w1 := below_on (by focus (repeat (first | (with_reducible exact Below.refl _ _) | (with_reducible assumption) | ((with_reducible refine Below.setCell ?_ ?_ _); rotate_left; (focus (first | omega | (simp; done) | (simp; omega)))) | ((with_reducible refine Below.alloc ?_ ?_ _); rotate_left; (focus (first | omega | (simp; done) | (simp; omega)))) | (with_reducible refine Below.drew ?_) | (refine below_on ?_ (by assumption))))) hb
  clear hb H1
  have c0 := cell_at z1
  go_wp2_with fail
  refine (H2.out _).mono ?_
  rintro e w2 ⟨rfl, hb⟩
  have z2 := heap_below hb z1
  have hB2 := below_on hB1 hb
  clear hb H2 z1 hB1 c0
  go_upto_region 3 with (fail)
  refine region_abs_w (fun a0 a' w' => ∃ N M, ∃ v : Nat → Value, ((BigIn w' N m ∧ BigIn w' M n) ∧ Below w2.heap.size w2 w') ∧ (a' = (Act.put (Act.put (Act.put (Act.put (Act.put (Act.put (Act.put (Act.put a0 (some 15) (v 15)) (some 16) (v 16)) (some 17) (v 17)) (some 18) (v 18)) (some 19) (v 19)) (some 20) (v 20)) (some 3) (.pointer (some ⟨N, 0, none⟩))) (some 4) (.pointer (some ⟨M, 0, none⟩))))) (fun KR hKR => ?_) ?_
  · have HS : Hd (∀ W', Below w2.heap.size w2 W' → W'.cell? ⟨w.heap.size, 0, none⟩ = some (.bool p.1) ∧ W'.cell? ⟨w.heap.size, 1, none⟩ = some (.int .u64 (dg p.2 0)) ∧ W'.cell? ⟨w.heap.size, 2, none⟩ = some (.int .u64 (dg p.2 1)) ∧ W'.cell? ⟨w.heap.size, 3, none⟩ = some (.int .u64 (dg p.2 2)) ∧ W'.cell? ⟨w.heap.size, 4, none⟩ = some (.int .u64 (dg p.2 3)) ∧ W'.cell? ⟨w.heap.size, 5, none⟩ = some (.bool q.1) ∧ W'.cell? ⟨w.heap.size, 6, none⟩ = some (.int .u64 (dg q.2 0)) ∧ W'.cell? ⟨w.heap.size, 7, none⟩ = some (.int .u64 (dg q.2 1)) ∧ W'.cell? ⟨w.heap.size, 8, none⟩ = some (.int .u64 (dg q.2 2)) ∧ W'.cell? ⟨w.heap.size, 9, none⟩ = some (.int .u64 (dg q.2 3))) := ⟨fun W' h => ⟨cell_at (heap_below h z2) 0, cell_at (heap_below h z2) 1, cell_at (heap_below h z2) 2, cell_at (heap_below h z2) 3, cell_at (heap_below h z2) 4, cell_at (heap_below h z2) 5, cell_at (heap_below h z2) 6, cell_at (heap_below h z2) 7, cell_at (heap_below h z2) 8, cell_at (heap_below h z2) 9⟩⟩
    have hD : Below w2.heap.size w2 w2.drew := Below.drew (Below.refl _ _)
    have hDz := hD.size
    clear hB2
    go_region_held3 (fun W' => W'.cell? ⟨w.heap.size, 0, none⟩ = some (.bool p.1) ∧ W'.cell? ⟨w.heap.size, 1, none⟩ = some (.int .u64 (dg p.2 0)) ∧ W'.cell? ⟨w.heap.size, 2, none⟩ = some (.int .u64 (dg p.2 1)) ∧ W'.cell? ⟨w.heap.size, 3, none⟩ = some (.int .u64 (dg p.2 2)) ∧ W'.cell? ⟨w.heap.size, 4, none⟩ = some (.int .u64 (dg p.2 3)) ∧ W'.cell? ⟨w.heap.size, 5, none⟩ = some (.bool q.1) ∧ W'.cell? ⟨w.heap.size, 6, none⟩ = some (.int .u64 (dg q.2 0)) ∧ W'.cell? ⟨w.heap.size, 7, none⟩ = some (.int .u64 (dg q.2 1)) ∧ W'.cell? ⟨w.heap.size, 8, none⟩ = some (.int .u64 (dg q.2 2)) ∧ W'.cell? ⟨w.heap.size, 9, none⟩ = some (.int .u64 (dg q.2 3))) ((exact HS.out _ (by focus (repeat (first | (with_reducible exact Below.refl _ _) | (with_reducible assumption) | ((with_reducible refine Below.setCell ?_ ?_ _); rotate_left; (focus (first | omega | (simp; done) | (simp; omega)))) | ((with_reducible refine Below.alloc ?_ ?_ _); rotate_left; (focus (first | omega | (simp; done) | (simp; omega)))) | (with_reducible refine Below.drew ?_) | (refine below_on ?_ (by assumption)))))))
      ((first
        | (go_at_call 90; have hq := h12a; clear hq; refine (F2.out _).mono ?_; rintro e wb ⟨vb, rfl, ⟨A2, c2, rfl, h21, h22⟩, hb⟩; have h12 := h12a.below (below_on (by focus (repeat (first | (with_reducible exact Below.refl _ _) | (with_reducible assumption) | ((with_reducible refine Below.setCell ?_ ?_ _); rotate_left; (focus (first | omega | (simp; done) | (simp; omega)))) | ((with_reducible refine Below.alloc ?_ ?_ _); rotate_left; (focus (first | omega | (simp; done) | (simp; omega)))) | (with_reducible refine Below.drew ?_) | (refine below_on ?_ (by assumption))))) hb); have hD : Below w2.heap.size w2 wb := below_on (by focus (repeat (first | (with_reducible exact Below.refl _ _) | (with_reducible assumption) | ((with_reducible refine Below.setCell ?_ ?_ _); rotate_left; (focus (first | omega | (simp; done) | (simp; omega)))) | ((with_reducible refine Below.alloc ?_ ?_ _); rotate_left; (focus (first | omega | (simp; done) | (simp; omega)))) | (with_reducible refine Below.drew ?_) | (refine below_on ?_ (by assumption))))) hb; have hDz := hD.size; (first | (have zN := heap_below hb zN; have qN := cell_at zN; have fN := frozen_at zN; have lN := lt_of_block zN; have nN := Nat.ne_of_lt lN; have nN2 := Nat.ne_of_gt lN; (first | (have zM := heap_below hb zM; have qM := cell_at zM; have fM := frozen_at zM; have lM := lt_of_block zM; have nM := Nat.ne_of_lt lM; have nM2 := Nat.ne_of_gt lM) | skip)) | (have zN := heap_below hb (heap_old zN _); have qN := cell_at zN; have fN := frozen_at zN; have lN := lt_of_block zN; have nN := Nat.ne_of_lt lN; have nN2 := Nat.ne_of_gt lN; have zM := heap_below hb (heap_new _ (.cells #[.bool false, .slice none 0 0] 53)); have qM := cell_at zM; have fM := frozen_at zM; have lM := lt_of_block zM; have nM := Nat.ne_of_lt lM; have nM2 := Nat.ne_of_gt lM) | (have zM := heap_below hb (heap_two _ (.cells #[.bool false, .slice none 0 0] 53) (.cells #[.bool false, .slice none 0 0] 53)); have zN := heap_below hb (heap_old (heap_new _ (.cells #[.bool false, .slice none 0 0] 53)) _); have qN := cell_at zN; have fN := frozen_at zN; have lN := lt_of_block zN; have nN := Nat.ne_of_lt lN; have nN2 := Nat.ne_of_gt lN; have qM := cell_at zM; have fM := frozen_at zM; have lM := lt_of_block zM; have nM := Nat.ne_of_lt lM; have nM2 := Nat.ne_of_gt lM) | (have zN := heap_below hb (heap_new _ (.cells #[.bool false, .slice none 0 0] 53)); have qN := cell_at zN; have fN := frozen_at zN; have lN := lt_of_block zN; have nN := Nat.ne_of_lt lN; have nN2 := Nat.ne_of_gt lN) | skip); clear hb)
        | (go_at_call 90; refine (F1.out _).mono ?_; rintro e wa ⟨va, rfl, ⟨A1, c1, rfl, h11, h12a⟩, hb⟩; have hD : Below w2.heap.size w2 wa := below_on (by focus (repeat (first | (with_reducible exact Below.refl _ _) | (with_reducible assumption) | ((with_reducible refine Below.setCell ?_ ?_ _); rotate_left; (focus (first | omega | (simp; done) | (simp; omega)))) | ((with_reducible refine Below.alloc ?_ ?_ _); rotate_left; (focus (first | omega | (simp; done) | (simp; omega)))) | (with_reducible refine Below.drew ?_) | (refine below_on ?_ (by assumption))))) hb; have hDz := hD.size; (first | (have zN := heap_below hb zN; have qN := cell_at zN; have fN := frozen_at zN; have lN := lt_of_block zN; have nN := Nat.ne_of_lt lN; have nN2 := Nat.ne_of_gt lN; (first | (have zM := heap_below hb zM; have qM := cell_at zM; have fM := frozen_at zM; have lM := lt_of_block zM; have nM := Nat.ne_of_lt lM; have nM2 := Nat.ne_of_gt lM) | skip)) | (have zN := heap_below hb (heap_old zN _); have qN := cell_at zN; have fN := frozen_at zN; have lN := lt_of_block zN; have nN := Nat.ne_of_lt lN; have nN2 := Nat.ne_of_gt lN; have zM := heap_below hb (heap_new _ (.cells #[.bool false, .slice none 0 0] 53)); have qM := cell_at zM; have fM := frozen_at zM; have lM := lt_of_block zM; have nM := Nat.ne_of_lt lM; have nM2 := Nat.ne_of_gt lM) | (have zM := heap_below hb (heap_two _ (.cells #[.bool false, .slice none 0 0] 53) (.cells #[.bool false, .slice none 0 0] 53)); have zN := heap_below hb (heap_old (heap_new _ (.cells #[.bool false, .slice none 0 0] 53)) _); have qN := cell_at zN; have fN := frozen_at zN; have lN := lt_of_block zN; have nN := Nat.ne_of_lt lN; have nN2 := Nat.ne_of_gt lN; have qM := cell_at zM; have fM := frozen_at zM; have lM := lt_of_block zM; have nM := Nat.ne_of_lt lM; have nM2 := Nat.ne_of_gt lM) | (have zN := heap_below hb (heap_new _ (.cells #[.bool false, .slice none 0 0] 53)); have qN := cell_at zN; have fN := frozen_at zN; have lN := lt_of_block zN; have nN := Nat.ne_of_lt lN; have nN2 := Nat.ne_of_gt lN) | skip); clear hb)))
    all_goals first
      | (obtain ⟨L1, L2, L3⟩ := lay_two zN zM (by omega) h11 h12 h21 h22; exact ⟨rfl, hKR _ _ ⟨_, _, ex_putw3 ⟨by with_reducible exact ⟨⟨L1, L2⟩, hD.trans (L3 _ (by omega) (by omega))⟩, by kernel_rfl⟩⟩⟩)
      | (obtain ⟨L1, L2, L3⟩ := lay_two zM zN (by omega) h11 h12 h21 h22; exact ⟨rfl, hKR _ _ ⟨_, _, ex_putw3 ⟨by with_reducible exact ⟨⟨L1, L2⟩, hD.trans (L3 _ (by omega) (by omega))⟩, by kernel_rfl⟩⟩⟩)
      | (obtain ⟨L1, L2, L3⟩ := lay_set_alloc zN h11 h12 h21 h22; exact ⟨rfl, hKR _ _ ⟨_, _, ex_putw3 ⟨by with_reducible exact ⟨⟨L1, L2⟩, hD.trans (L3 _ (by omega))⟩, by kernel_rfl⟩⟩⟩)
      | (obtain ⟨L1, L2, L3⟩ := lay_set_alloc zN h21 h22 h11 h12; exact ⟨rfl, hKR _ _ ⟨_, _, ex_putw3 ⟨by with_reducible exact ⟨⟨L2, L1⟩, hD.trans (L3 _ (by omega))⟩, by kernel_rfl⟩⟩⟩)
      | (obtain ⟨L1, L2, L3⟩ := lay_alloc2 h11 h12 h21 h22; exact ⟨rfl, hKR _ _ ⟨_, _, ex_putw3 ⟨by with_reducible exact ⟨⟨L1, L2⟩, hD.trans (L3 _ (by omega))⟩, by kernel_rfl⟩⟩⟩)
      | (obtain ⟨L1, L2, L3⟩ := lay_alloc2 h21 h22 h11 h12; exact ⟨rfl, hKR _ _ ⟨_, _, ex_putw3 ⟨by with_reducible exact ⟨⟨L2, L1⟩, hD.trans (L3 _ (by omega))⟩, by kernel_rfl⟩⟩⟩)
  rintro a' W3 ⟨N, M, v, ⟨⟨⟨A, a, zN, a1, a2⟩, ⟨B, b, zM, b1, b2⟩⟩, hF⟩, rfl⟩
  simp only [Act.put, List.setIfInBounds_toArray, List.set_cons_succ, List.set_cons_zero]
  have hB3 := below_on hB2 hF
  have HD := Hd.mk (And.intro a2 b2)
  clear hF z2 hB2 a2 b2
  have cM := cell_at zM
  go_wp2_with fail
  refine (rsign_any n _ _ (big_of b1 HD.out.2)).mono ?_
  rintro e w4 ⟨rfl, hb⟩
  have zN := heap_below hb zN
  have zM := heap_below hb zM
  have hB4 := below_on hB3 hb
  have HD := Hd.mk (And.intro (HD.out.1.below hb) (HD.out.2.below hb))
  clear hb hB3 cM
  have cM := cell_at zM
  have cN := cell_at zN
  have sN := lt_of_block zN
  go_wp2_with fail
  refine (rgcd_any m n _ _ HP.out HQ.out _ (big_of a1 HD.out.1) (big_of b1 HD.out.2)).mono ?_
  rintro e w5 ⟨vg, rfl, hvg, hb⟩
  have hB5 := below_on hB4 hb
  obtain ⟨G, gc, rfl, g1, g2⟩ := hvg
  have HG := Hd.mk g2
  clear hb hB4 cM cN zN zM HD g2 a1 b1 sN
  go_wp2_with fail
  refine (rnum_any 1 (by decide) (by decide) _).mono ?_
  rintro e w6 ⟨v1, rfl, hv1, hb⟩
  have hB6 := below_on hB5 hb
  have HG := Hd.mk (HG.out.below hb)
  have HO := Hd.mk hv1
  clear hb hB5 hv1
  go_wp2_with fail
  refine (rcmp_any _ 1 _ _ _ (big_of g1 HG.out) HO.out).mono ?_
  rintro e w7 ⟨rfl, hb⟩
  have hB7 := below_on hB6 hb
  clear hb hB6 HG HO g1
  go_wp2
  go_ret
  exact ⟨rfl, hB7⟩
set_option maxRecDepth 20000 in
set_option maxHeartbeats 2000000 in
theorem rrat_r5 (p q : Bool × Nat) (hp : p.2 < 2 ^ 256) (hq : q.2 < 2 ^ 256) (h1 : decide (okP p) = true) (h2 : decide (okP q) = true) (h3 : decide (sgn (zof q.1 q.2) > 0) = true) (h4 : (sgn (((Nat.gcd p.2 q.2 : Nat) : Int) - 1) == 0) = true) (w : World) :
    Calls Tryz.prog 53 #[.agg #[.bool (p.1), .int .u64 (dg (p.2) 0), .int .u64 (dg (p.2) 1), .int .u64 (dg (p.2) 2), .int .u64 (dg (p.2) 3), .bool (q.1), .int .u64 (dg (q.2) 0), .int .u64 (dg (q.2) 1), .int .u64 (dg (q.2) 2), .int .u64 (dg (q.2) 3)]] w fun e w' => e = .returned (.bool true) ∧ Below w.heap.size w w' := by
  have H1 : Hd (∀ w, Calls Tryz.prog 89 #[.agg #[.bool (p.1), .int .u64 (dg (p.2) 0), .int .u64 (dg (p.2) 1), .int .u64 (dg (p.2) 2), .int .u64 (dg (p.2) 3)]] w fun e w' => e = .returned (.bool true) ∧ Below w.heap.size w w') := ⟨fun w => by have h := rright_any p hp w; rw [h1] at h; exact h⟩
  have H2 : Hd (∀ w, Calls Tryz.prog 89 #[.agg #[.bool (q.1), .int .u64 (dg (q.2) 0), .int .u64 (dg (q.2) 1), .int .u64 (dg (q.2) 2), .int .u64 (dg (q.2) 3)]] w fun e w' => e = .returned (.bool true) ∧ Below w.heap.size w w') := ⟨fun w => by have h := rright_any q hq w; rw [h2] at h; exact h⟩
  have F1 := Hd.mk (fun w => from_any p hp w)
  have F2 := Hd.mk (fun w => from_any q hq w)
  obtain ⟨m, hm⟩ : ∃ m, m = zof p.1 p.2 := ⟨_, rfl⟩
  obtain ⟨n, hn⟩ : ∃ n, n = zof q.1 q.2 := ⟨_, rfl⟩
  have em : ab m = p.2 := by rw [hm]; exact ab_zof _ _
  have en : ab n = q.2 := by rw [hn]; exact ab_zof _ _
  have HP : Hd (ab m < 2 ^ 256) := ⟨by rw [em]; exact hp⟩
  have HQ : Hd (ab n < 2 ^ 256) := ⟨by rw [en]; exact hq⟩
  rw [← hm] at F1
  rw [← hn] at F2 h3
  rw [← em, ← en] at h4
  clear hm hn em en
  clear hp hq h1 h2
  go_enter Tryz.func53, Tryz.ntmps53
  go_wp2_with fail
  refine (H1.out _).mono ?_
  rintro e w1 ⟨rfl, hb⟩
  have z1 := heap_below hb (heap_new w (.cells #[.bool (p.1), .int .u64 (dg (p.2) 0), .int .u64 (dg (p.2) 1), .int .u64 (dg (p.2) 2), .int .u64 (dg (p.2) 3), .bool (q.1), .int .u64 (dg (q.2) 0), .int .u64 (dg (q.2) 1), .int .u64 (dg (q.2) 2), .int .u64 (dg (q.2) 3)] 44))
  have hB1 : Below w.heap.size w w1 := below_on (by focus (repeat (first | (with_reducible exact Below.refl _ _) | (with_reducible assumption) | ((with_reducible refine Below.setCell ?_ ?_ _); rotate_left; (focus (first | omega | (simp; done) | (simp; omega)))) | ((with_reducible refine Below.alloc ?_ ?_ _); rotate_left; (focus (first | omega | (simp; done) | (simp; omega)))) | (with_reducible refine Below.drew ?_) | (refine below_on ?_ (by assumption))))) hb
  clear hb H1
  have c0 := cell_at z1
  go_wp2_with fail
  refine (H2.out _).mono ?_
  rintro e w2 ⟨rfl, hb⟩
  have z2 := heap_below hb z1
  have hB2 := below_on hB1 hb
  clear hb H2 z1 hB1 c0
  go_upto_region 3 with (fail)
  refine region_abs_w (fun a0 a' w' => ∃ N M, ∃ v : Nat → Value, ((BigIn w' N m ∧ BigIn w' M n) ∧ Below w2.heap.size w2 w') ∧ (a' = (Act.put (Act.put (Act.put (Act.put (Act.put (Act.put (Act.put (Act.put a0 (some 15) (v 15)) (some 16) (v 16)) (some 17) (v 17)) (some 18) (v 18)) (some 19) (v 19)) (some 20) (v 20)) (some 3) (.pointer (some ⟨N, 0, none⟩))) (some 4) (.pointer (some ⟨M, 0, none⟩))))) (fun KR hKR => ?_) ?_
  · have HS : Hd (∀ W', Below w2.heap.size w2 W' → W'.cell? ⟨w.heap.size, 0, none⟩ = some (.bool p.1) ∧ W'.cell? ⟨w.heap.size, 1, none⟩ = some (.int .u64 (dg p.2 0)) ∧ W'.cell? ⟨w.heap.size, 2, none⟩ = some (.int .u64 (dg p.2 1)) ∧ W'.cell? ⟨w.heap.size, 3, none⟩ = some (.int .u64 (dg p.2 2)) ∧ W'.cell? ⟨w.heap.size, 4, none⟩ = some (.int .u64 (dg p.2 3)) ∧ W'.cell? ⟨w.heap.size, 5, none⟩ = some (.bool q.1) ∧ W'.cell? ⟨w.heap.size, 6, none⟩ = some (.int .u64 (dg q.2 0)) ∧ W'.cell? ⟨w.heap.size, 7, none⟩ = some (.int .u64 (dg q.2 1)) ∧ W'.cell? ⟨w.heap.size, 8, none⟩ = some (.int .u64 (dg q.2 2)) ∧ W'.cell? ⟨w.heap.size, 9, none⟩ = some (.int .u64 (dg q.2 3))) := ⟨fun W' h => ⟨cell_at (heap_below h z2) 0, cell_at (heap_below h z2) 1, cell_at (heap_below h z2) 2, cell_at (heap_below h z2) 3, cell_at (heap_below h z2) 4, cell_at (heap_below h z2) 5, cell_at (heap_below h z2) 6, cell_at (heap_below h z2) 7, cell_at (heap_below h z2) 8, cell_at (heap_below h z2) 9⟩⟩
    have hD : Below w2.heap.size w2 w2.drew := Below.drew (Below.refl _ _)
    have hDz := hD.size
    clear hB2
    go_region_held3 (fun W' => W'.cell? ⟨w.heap.size, 0, none⟩ = some (.bool p.1) ∧ W'.cell? ⟨w.heap.size, 1, none⟩ = some (.int .u64 (dg p.2 0)) ∧ W'.cell? ⟨w.heap.size, 2, none⟩ = some (.int .u64 (dg p.2 1)) ∧ W'.cell? ⟨w.heap.size, 3, none⟩ = some (.int .u64 (dg p.2 2)) ∧ W'.cell? ⟨w.heap.size, 4, none⟩ = some (.int .u64 (dg p.2 3)) ∧ W'.cell? ⟨w.heap.size, 5, none⟩ = some (.bool q.1) ∧ W'.cell? ⟨w.heap.size, 6, none⟩ = some (.int .u64 (dg q.2 0)) ∧ W'.cell? ⟨w.heap.size, 7, none⟩ = some (.int .u64 (dg q.2 1)) ∧ W'.cell? ⟨w.heap.size, 8, none⟩ = some (.int .u64 (dg q.2 2)) ∧ W'.cell? ⟨w.heap.size, 9, none⟩ = some (.int .u64 (dg q.2 3))) ((exact HS.out _ (by focus (repeat (first | (with_reducible exact Below.refl _ _) | (with_reducible assumption) | ((with_reducible refine Below.setCell ?_ ?_ _); rotate_left; (focus (first | omega | (simp; done) | (simp; omega)))) | ((with_reducible refine Below.alloc ?_ ?_ _); rotate_left; (focus (first | omega | (simp; done) | (simp; omega)))) | (with_reducible refine Below.drew ?_) | (refine below_on ?_ (by assumption)))))))
      ((first
        | (go_at_call 90; have hq := h12a; clear hq; refine (F2.out _).mono ?_; rintro e wb ⟨vb, rfl, ⟨A2, c2, rfl, h21, h22⟩, hb⟩; have h12 := h12a.below (below_on (by focus (repeat (first | (with_reducible exact Below.refl _ _) | (with_reducible assumption) | ((with_reducible refine Below.setCell ?_ ?_ _); rotate_left; (focus (first | omega | (simp; done) | (simp; omega)))) | ((with_reducible refine Below.alloc ?_ ?_ _); rotate_left; (focus (first | omega | (simp; done) | (simp; omega)))) | (with_reducible refine Below.drew ?_) | (refine below_on ?_ (by assumption))))) hb); have hD : Below w2.heap.size w2 wb := below_on (by focus (repeat (first | (with_reducible exact Below.refl _ _) | (with_reducible assumption) | ((with_reducible refine Below.setCell ?_ ?_ _); rotate_left; (focus (first | omega | (simp; done) | (simp; omega)))) | ((with_reducible refine Below.alloc ?_ ?_ _); rotate_left; (focus (first | omega | (simp; done) | (simp; omega)))) | (with_reducible refine Below.drew ?_) | (refine below_on ?_ (by assumption))))) hb; have hDz := hD.size; (first | (have zN := heap_below hb zN; have qN := cell_at zN; have fN := frozen_at zN; have lN := lt_of_block zN; have nN := Nat.ne_of_lt lN; have nN2 := Nat.ne_of_gt lN; (first | (have zM := heap_below hb zM; have qM := cell_at zM; have fM := frozen_at zM; have lM := lt_of_block zM; have nM := Nat.ne_of_lt lM; have nM2 := Nat.ne_of_gt lM) | skip)) | (have zN := heap_below hb (heap_old zN _); have qN := cell_at zN; have fN := frozen_at zN; have lN := lt_of_block zN; have nN := Nat.ne_of_lt lN; have nN2 := Nat.ne_of_gt lN; have zM := heap_below hb (heap_new _ (.cells #[.bool false, .slice none 0 0] 53)); have qM := cell_at zM; have fM := frozen_at zM; have lM := lt_of_block zM; have nM := Nat.ne_of_lt lM; have nM2 := Nat.ne_of_gt lM) | (have zM := heap_below hb (heap_two _ (.cells #[.bool false, .slice none 0 0] 53) (.cells #[.bool false, .slice none 0 0] 53)); have zN := heap_below hb (heap_old (heap_new _ (.cells #[.bool false, .slice none 0 0] 53)) _); have qN := cell_at zN; have fN := frozen_at zN; have lN := lt_of_block zN; have nN := Nat.ne_of_lt lN; have nN2 := Nat.ne_of_gt lN; have qM := cell_at zM; have fM := frozen_at zM; have lM := lt_of_block zM; have nM := Nat.ne_of_lt lM; have nM2 := Nat.ne_of_gt lM) | (have zN := heap_below hb (heap_new _ (.cells #[.bool false, .slice none 0 0] 53)); have qN := cell_at zN; have fN := frozen_at zN; have lN := lt_of_block zN; have nN := Nat.ne_of_lt lN; have nN2 := Nat.ne_of_gt lN) | skip); clear hb)
        | (go_at_call 90; refine (F1.out _).mono ?_; rintro e wa ⟨va, rfl, ⟨A1, c1, rfl, h11, h12a⟩, hb⟩; have hD : Below w2.heap.size w2 wa := below_on (by focus (repeat (first | (with_reducible exact Below.refl _ _) | (with_reducible assumption) | ((with_reducible refine Below.setCell ?_ ?_ _); rotate_left; (focus (first | omega | (simp; done) | (simp; omega)))) | ((with_reducible refine Below.alloc ?_ ?_ _); rotate_left; (focus (first | omega | (simp; done) | (simp; omega)))) | (with_reducible refine Below.drew ?_) | (refine below_on ?_ (by assumption))))) hb; have hDz := hD.size; (first | (have zN := heap_below hb zN; have qN := cell_at zN; have fN := frozen_at zN; have lN := lt_of_block zN; have nN := Nat.ne_of_lt lN; have nN2 := Nat.ne_of_gt lN; (first | (have zM := heap_below hb zM; have qM := cell_at zM; have fM := frozen_at zM; have lM := lt_of_block zM; have nM := Nat.ne_of_lt lM; have nM2 := Nat.ne_of_gt lM) | skip)) | (have zN := heap_below hb (heap_old zN _); have qN := cell_at zN; have fN := frozen_at zN; have lN := lt_of_block zN; have nN := Nat.ne_of_lt lN; have nN2 := Nat.ne_of_gt lN; have zM := heap_below hb (heap_new _ (.cells #[.bool false, .slice none 0 0] 53)); have qM := cell_at zM; have fM := frozen_at zM; have lM := lt_of_block zM; have nM := Nat.ne_of_lt lM; have nM2 := Nat.ne_of_gt lM) | (have zM := heap_below hb (heap_two _ (.cells #[.bool false, .slice none 0 0] 53) (.cells #[.bool false, .slice none 0 0] 53)); have zN := heap_below hb (heap_old (heap_new _ (.cells #[.bool false, .slice none 0 0] 53)) _); have qN := cell_at zN; have fN := frozen_at zN; have lN := lt_of_block zN; have nN := Nat.ne_of_lt lN; have nN2 := Nat.ne_of_gt lN; have qM := cell_at zM; have fM := frozen_at zM; have lM := lt_of_block zM; have nM := Nat.ne_of_lt lM; have nM2 := Nat.ne_of_gt lM) | (have zN := heap_below hb (heap_new _ (.cells #[.bool false, .slice none 0 0] 53)); have qN := cell_at zN; have fN := frozen_at zN; have lN := lt_of_block zN; have nN := Nat.ne_of_lt lN; have nN2 := Nat.ne_of_gt lN) | skip); clear hb)))
    all_goals first
      | (obtain ⟨L1, L2, L3⟩ := lay_two zN zM (by omega) h11 h12 h21 h22; exact ⟨rfl, hKR _ _ ⟨_, _, ex_putw3 ⟨by with_reducible exact ⟨⟨L1, L2⟩, hD.trans (L3 _ (by omega) (by omega))⟩, by kernel_rfl⟩⟩⟩)
      | (obtain ⟨L1, L2, L3⟩ := lay_two zM zN (by omega) h11 h12 h21 h22; exact ⟨rfl, hKR _ _ ⟨_, _, ex_putw3 ⟨by with_reducible exact ⟨⟨L1, L2⟩, hD.trans (L3 _ (by omega) (by omega))⟩, by kernel_rfl⟩⟩⟩)
      | (obtain ⟨L1, L2, L3⟩ := lay_set_alloc zN h11 h12 h21 h22; exact ⟨rfl, hKR _ _ ⟨_, _, ex_putw3 ⟨by with_reducible exact ⟨⟨L1, L2⟩, hD.trans (L3 _ (by omega))⟩, by kernel_rfl⟩⟩⟩)
      | (obtain ⟨L1, L2, L3⟩ := lay_set_alloc zN h21 h22 h11 h12; exact ⟨rfl, hKR _ _ ⟨_, _, ex_putw3 ⟨by with_reducible exact ⟨⟨L2, L1⟩, hD.trans (L3 _ (by omega))⟩, by kernel_rfl⟩⟩⟩)
      | (obtain ⟨L1, L2, L3⟩ := lay_alloc2 h11 h12 h21 h22; exact ⟨rfl, hKR _ _ ⟨_, _, ex_putw3 ⟨by with_reducible exact ⟨⟨L1, L2⟩, hD.trans (L3 _ (by omega))⟩, by kernel_rfl⟩⟩⟩)
      | (obtain ⟨L1, L2, L3⟩ := lay_alloc2 h21 h22 h11 h12; exact ⟨rfl, hKR _ _ ⟨_, _, ex_putw3 ⟨by with_reducible exact ⟨⟨L2, L1⟩, hD.trans (L3 _ (by omega))⟩, by kernel_rfl⟩⟩⟩)
  rintro a' W3 ⟨N, M, v, ⟨⟨⟨A, a, zN, a1, a2⟩, ⟨B, b, zM, b1, b2⟩⟩, hF⟩, rfl⟩
  simp only [Act.put, List.setIfInBounds_toArray, List.set_cons_succ, List.set_cons_zero]
  have hB3 := below_on hB2 hF
  have HD := Hd.mk (And.intro a2 b2)
  clear hF z2 hB2 a2 b2
  have cM := cell_at zM
  go_wp2_with fail
  refine (rsign_any n _ _ (big_of b1 HD.out.2)).mono ?_
  rintro e w4 ⟨rfl, hb⟩
  have zN := heap_below hb zN
  have zM := heap_below hb zM
  have hB4 := below_on hB3 hb
  have HD := Hd.mk (And.intro (HD.out.1.below hb) (HD.out.2.below hb))
  clear hb hB3 cM
  have cM := cell_at zM
  have cN := cell_at zN
  have sN := lt_of_block zN
  go_wp2_with fail
  refine (rgcd_any m n _ _ HP.out HQ.out _ (big_of a1 HD.out.1) (big_of b1 HD.out.2)).mono ?_
  rintro e w5 ⟨vg, rfl, hvg, hb⟩
  have hB5 := below_on hB4 hb
  obtain ⟨G, gc, rfl, g1, g2⟩ := hvg
  have HG := Hd.mk g2
  clear hb hB4 cM cN zN zM HD g2 a1 b1 sN
  go_wp2_with fail
  refine (rnum_any 1 (by decide) (by decide) _).mono ?_
  rintro e w6 ⟨v1, rfl, hv1, hb⟩
  have hB6 := below_on hB5 hb
  have HG := Hd.mk (HG.out.below hb)
  have HO := Hd.mk hv1
  clear hb hB5 hv1
  go_wp2_with fail
  refine (rcmp_any _ 1 _ _ _ (big_of g1 HG.out) HO.out).mono ?_
  rintro e w7 ⟨rfl, hb⟩
  have hB7 := below_on hB6 hb
  clear hb hB6 HG HO g1
  go_wp2
  go_ret
  exact ⟨rfl, hB7⟩
theorem sgn_pos (z : Int) : decide (sgn z > 0) = decide (0 < z) := by
  rw [Bool.eq_iff_iff]
  simp only [decide_eq_true_eq]
  unfold sgn
  split
  · omega
  · split <;> omega
/-- A fraction of Ints: may it be, by the references? -/
theorem rrat_right (p q : Bool × Nat) (hp : p.2 < 2 ^ 256) (hq : q.2 < 2 ^ 256) (b : Bool) (hb : b = true ↔ okR p q) (w : World) :
    Calls Tryz.prog 53 #[.agg #[.bool (p.1), .int .u64 (dg (p.2) 0), .int .u64 (dg (p.2) 1), .int .u64 (dg (p.2) 2), .int .u64 (dg (p.2) 3), .bool (q.1), .int .u64 (dg (q.2) 0), .int .u64 (dg (q.2) 1), .int .u64 (dg (q.2) 2), .int .u64 (dg (q.2) 3)]] w fun e w' => e = .returned (.bool b) ∧ Below w.heap.size w w' := by
  have no : ∀ {P : Prop}, ¬ P → (okR p q → P) → b = false := fun h1 h2 => by
    cases b
    · rfl
    · exact absurd (h2 (hb.1 rfl)) h1
  by_cases h1 : okP p
  · by_cases h2 : okP q
    · by_cases h3 : 0 < zof q.1 q.2
      · have h3' : decide (sgn (zof q.1 q.2) > 0) = true := by rw [sgn_pos]; exact decide_eq_true h3
        by_cases h4 : Nat.gcd p.2 q.2 = 1
        · rw [hb.2 ⟨h1, h2, h3, h4⟩]
          exact rrat_r5 p q hp hq (decide_eq_true h1) (decide_eq_true h2) h3' (by rw [sgn_one]; exact decide_eq_true h4) w
        · rw [no h4 (fun h => h.2.2.2)]
          exact rrat_r4 p q hp hq (decide_eq_true h1) (decide_eq_true h2) h3' (by rw [sgn_one]; exact decide_eq_false h4) w
      · rw [no h3 (fun h => h.2.2.1)]
        exact rrat_r3 p q hp hq (decide_eq_true h1) (decide_eq_true h2) (by rw [sgn_pos]; exact decide_eq_false h3) w
    · rw [no h2 (fun h => h.2.1)]
      exact rrat_r2 p q hp hq (decide_eq_true h1) (decide_eq_false h2) w
  · rw [no h1 (fun h => h.1)]
    exact rrat_r1 p q hp hq (decide_eq_false h1) w
end Go.Proofs.YtbhfnfokihdjjaaGreatDoor
