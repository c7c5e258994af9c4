/-
  The references: which point may be. Conditions stand in each theorem.
-/
import Derived.Test.YtfchmikbebdflaaGreatDoorSg3
import Derived.Test.YtfchmikbebdflaaGreatDoorMr5
import Derived.Test.YtfchmikbebdflaaGreatDoorOr1
import Derived.Test.YtfchmikbebdflaaGreatDoorRab
import Derived.Test.YtfchmikbebdflaaGreatDoorRb2
namespace Go.Proofs.YtfchmikbebdflaaGreatDoor
open Go.RowKit Go.BigFrame

theorem four_split {W : World} {n d : Int} {A B : Option Addr} {c e : Nat} (h : (dd (ab n)).length ≤ c ∧ DigAt W A (dd (ab n)) ∧ (dd (ab d)).length ≤ e ∧ DigAt W B (dd (ab d))) :
    BigAt W (.agg #[.bool (ng n), .slice A (dd (ab n)).length c]) n ∧ BigAt W (.agg #[.bool (ng d), .slice B (dd (ab d)).length e]) d := ⟨⟨A, c, rfl, h.1, h.2.1⟩, ⟨B, e, rfl, h.2.2.1, h.2.2.2⟩⟩
/-- Does a fraction of the references fit? -/
def rfitsB (n : Int) (k : Nat) : Bool := decide ((dd (ab n)).length ≤ 6) && decide ((dd k).length ≤ 4)
theorem rfits_iff (n : Int) (k : Nat) : rfitsB n k = true ↔ ab n < 2 ^ 96 ∧ k < 2 ^ 64 := by
  unfold rfitsB
  rw [Bool.and_eq_true, decide_eq_true_eq, decide_eq_true_eq, dd_len, dd_len]
set_option maxRecDepth 20000 in
set_option maxHeartbeats 1000000 in
theorem rfits_any (n : Int) (k : Nat) (u : Value) (w : World) (hu : RatAt w u n (k : Int)) :
    Calls Tryz.prog 91 #[u] w fun e w' => e = .returned (.bool (rfitsB n k)) ∧ Below w.heap.size w w' := by
  obtain ⟨A, c, B, e, rfl, _, _, _, _⟩ := hu
  have hab : ab (k : Int) = k := ab_nat k
  unfold rfitsB
  rw [hab]
  obtain ⟨l1, h1⟩ : ∃ l1, (dd (ab n)).length = l1 := ⟨_, rfl⟩
  obtain ⟨l2, h2⟩ : ∃ l2, (dd k).length = l2 := ⟨_, rfl⟩
  rw [h1, h2]
  clear hab h1 h2
  by_cases hq1 : l1 ≤ 6
  · have d1 : decide (l1 ≤ 6) = true := by simpa using hq1
    have d1i : decide ((l1 : Int) ≤ 6) = true := by simp; omega
    go_enter Tryz.func91, Tryz.ntmps91
    go_upto_region 1 with (fail)
    refine abs_wp (fun W => W.heap[w.heap.size]? = some (.cells #[.bool (ng n), .slice A l1 c, .bool (ng (k : Int)), .slice B l2 e] 125 (0, 0)) ∧ Below w.heap.size w W) ⟨heap_new _ _, by focus (repeat (first | (with_reducible exact Below.refl _ _) | (with_reducible assumption) | ((with_reducible refine Below.setCell ?_ ?_ _); rotate_left; (focus (first | omega | (simp; done) | (simp; omega)))) | ((with_reducible refine Below.alloc ?_ ?_ _); rotate_left; (focus (first | omega | (simp; done) | (simp; omega)))) | (with_reducible refine Below.drew ?_) | (refine below_on ?_ (by assumption))))⟩ fun W ⟨z0, hB⟩ => ?_
    refine region_qt 7 (by kernel_rfl) (by kernel_rfl) fun X _ mk hmk hcl => ?_
    have c0 := mk_cell hmk z0
    simp only [List.take_succ_cons, List.take_zero, List.drop_succ_cons, List.drop_zero]
    repeat (go_big_quiet_step (skip))
    refine wpQuiet_nil ?_
    rintro _ ⟨x, rfl⟩
    clear c0
    have hx := hmk x
    clear hcl hmk
    generalize mk x = W1 at hx
    have hB1 := below_on hB hx
    clear hx z0 hB
    go_wp2
    go_ret
    exact ⟨by first | rfl | (simp [d1]; omega) | (simp [d1]; done), hB1⟩
  · have d1 : decide (l1 ≤ 6) = false := by simpa using hq1
    have d1i : decide ((l1 : Int) ≤ 6) = false := by simp; omega
    go_enter Tryz.func91, Tryz.ntmps91
    go_upto_region 1 with (fail)
    refine abs_wp (fun W => W.heap[w.heap.size]? = some (.cells #[.bool (ng n), .slice A l1 c, .bool (ng (k : Int)), .slice B l2 e] 125 (0, 0)) ∧ Below w.heap.size w W) ⟨heap_new _ _, by focus (repeat (first | (with_reducible exact Below.refl _ _) | (with_reducible assumption) | ((with_reducible refine Below.setCell ?_ ?_ _); rotate_left; (focus (first | omega | (simp; done) | (simp; omega)))) | ((with_reducible refine Below.alloc ?_ ?_ _); rotate_left; (focus (first | omega | (simp; done) | (simp; omega)))) | (with_reducible refine Below.drew ?_) | (refine below_on ?_ (by assumption))))⟩ fun W ⟨z0, hB⟩ => ?_
    refine region_qt 7 (by kernel_rfl) (by kernel_rfl) fun X _ mk hmk hcl => ?_
    have c0 := mk_cell hmk z0
    simp only [List.take_succ_cons, List.take_zero, List.drop_succ_cons, List.drop_zero]
    repeat (go_big_quiet_step (skip))
    refine wpQuiet_nil ?_
    rintro _ ⟨x, rfl⟩
    clear c0
    have hx := hmk x
    clear hcl hmk
    generalize mk x = W1 at hx
    have hB1 := below_on hB hx
    clear hx z0 hB
    go_wp2
    go_ret
    exact ⟨by first | rfl | (simp [d1]; omega) | (simp [d1]; done), hB1⟩
end Go.Proofs.YtfchmikbebdflaaGreatDoor

namespace Go.Proofs.YtfchmikbebdflaaGreatDoor
open Go.RowKit Go.BigFrame
theorem ex_putw3 {T : Array Value} {ds : List Deferred} {G : (Nat → Value) → Act} {R : Prop} (h : R ∧ (Act.mk T ds = G (fun i => T.getD i undef))) : ∃ v : Nat → Value, R ∧ (Act.mk T ds = G v) := ⟨_, h⟩
set_option maxRecDepth 20000 in
set_option maxHeartbeats 2000000 in
theorem rrat_r1 (p q : Bool × Nat) (hp : p.2 < 2 ^ 256) (_hq : q.2 < 2 ^ 256) (h1 : decide (okP p) = false) (w : World) :
    Calls Tryz.prog 90 #[.agg #[.bool (p.1), .int .u64 (dg (p.2) 0), .int .u64 (dg (p.2) 1), .int .u64 (dg (p.2) 2), .int .u64 (dg (p.2) 3), .bool (q.1), .int .u64 (dg (q.2) 0), .int .u64 (dg (q.2) 1), .int .u64 (dg (q.2) 2), .int .u64 (dg (q.2) 3)]] w fun e w' => e = .returned (.bool false) ∧ Below w.heap.size w w' := by
  have H1 : Hd (∀ w, Calls Tryz.prog 113 #[.agg #[.bool (p.1), .int .u64 (dg (p.2) 0), .int .u64 (dg (p.2) 1), .int .u64 (dg (p.2) 2), .int .u64 (dg (p.2) 3)]] w fun e w' => e = .returned (.bool false) ∧ Below w.heap.size w w') := ⟨fun w => by have h := rright_any p hp w; rw [h1] at h; exact h⟩
  clear hp _hq h1
  go_enter Tryz.func90, Tryz.ntmps90
  go_wp2_with fail
  refine (H1.out _).mono ?_
  rintro e w1 ⟨rfl, hb⟩
  have z1 := heap_below hb (heap_new w (.cells #[.bool (p.1), .int .u64 (dg (p.2) 0), .int .u64 (dg (p.2) 1), .int .u64 (dg (p.2) 2), .int .u64 (dg (p.2) 3), .bool (q.1), .int .u64 (dg (q.2) 0), .int .u64 (dg (q.2) 1), .int .u64 (dg (q.2) 2), .int .u64 (dg (q.2) 3)] 91))
  have hB1 : Below w.heap.size w w1 := below_on (by focus (repeat (first | (with_reducible exact Below.refl _ _) | (with_reducible assumption) | ((with_reducible refine Below.setCell ?_ ?_ _); rotate_left; (focus (first | omega | (simp; done) | (simp; omega)))) | ((with_reducible refine Below.alloc ?_ ?_ _); rotate_left; (focus (first | omega | (simp; done) | (simp; omega)))) | (with_reducible refine Below.drew ?_) | (refine below_on ?_ (by assumption))))) hb
  clear hb H1
  go_wp2
  go_ret
  exact ⟨rfl, hB1⟩
set_option maxRecDepth 20000 in
set_option maxHeartbeats 2000000 in
theorem rrat_r2 (p q : Bool × Nat) (hp : p.2 < 2 ^ 256) (hq : q.2 < 2 ^ 256) (h1 : decide (okP p) = true) (h2 : decide (okP q) = false) (w : World) :
    Calls Tryz.prog 90 #[.agg #[.bool (p.1), .int .u64 (dg (p.2) 0), .int .u64 (dg (p.2) 1), .int .u64 (dg (p.2) 2), .int .u64 (dg (p.2) 3), .bool (q.1), .int .u64 (dg (q.2) 0), .int .u64 (dg (q.2) 1), .int .u64 (dg (q.2) 2), .int .u64 (dg (q.2) 3)]] w fun e w' => e = .returned (.bool false) ∧ Below w.heap.size w w' := by
  have H1 : Hd (∀ w, Calls Tryz.prog 113 #[.agg #[.bool (p.1), .int .u64 (dg (p.2) 0), .int .u64 (dg (p.2) 1), .int .u64 (dg (p.2) 2), .int .u64 (dg (p.2) 3)]] w fun e w' => e = .returned (.bool true) ∧ Below w.heap.size w w') := ⟨fun w => by have h := rright_any p hp w; rw [h1] at h; exact h⟩
  have H2 : Hd (∀ w, Calls Tryz.prog 113 #[.agg #[.bool (q.1), .int .u64 (dg (q.2) 0), .int .u64 (dg (q.2) 1), .int .u64 (dg (q.2) 2), .int .u64 (dg (q.2) 3)]] w fun e w' => e = .returned (.bool false) ∧ Below w.heap.size w w') := ⟨fun w => by have h := rright_any q hq w; rw [h2] at h; exact h⟩
  clear hp hq h1 h2
  go_enter Tryz.func90, Tryz.ntmps90
  go_wp2_with fail
  refine (H1.out _).mono ?_
  rintro e w1 ⟨rfl, hb⟩
  have z1 := heap_below hb (heap_new w (.cells #[.bool (p.1), .int .u64 (dg (p.2) 0), .int .u64 (dg (p.2) 1), .int .u64 (dg (p.2) 2), .int .u64 (dg (p.2) 3), .bool (q.1), .int .u64 (dg (q.2) 0), .int .u64 (dg (q.2) 1), .int .u64 (dg (q.2) 2), .int .u64 (dg (q.2) 3)] 91))
  have hB1 : Below w.heap.size w w1 := below_on (by focus (repeat (first | (with_reducible exact Below.refl _ _) | (with_reducible assumption) | ((with_reducible refine Below.setCell ?_ ?_ _); rotate_left; (focus (first | omega | (simp; done) | (simp; omega)))) | ((with_reducible refine Below.alloc ?_ ?_ _); rotate_left; (focus (first | omega | (simp; done) | (simp; omega)))) | (with_reducible refine Below.drew ?_) | (refine below_on ?_ (by assumption))))) hb
  clear hb H1
  have c0 := cell_at z1
  go_wp2_with fail
  refine (H2.out _).mono ?_
  rintro e w2 ⟨rfl, hb⟩
  have z2 := heap_below hb z1
  have hB2 := below_on hB1 hb
  clear hb H2 z1 hB1 c0
  go_wp2
  go_ret
  exact ⟨rfl, hB2⟩
set_option maxRecDepth 20000 in
set_option maxHeartbeats 2000000 in
theorem rrat_r3 (p q : Bool × Nat) (hp : p.2 < 2 ^ 256) (hq : q.2 < 2 ^ 256) (h1 : decide (okP p) = true) (h2 : decide (okP q) = true) (h3 : decide (sgn (zof q.1 q.2) > 0) = false) (w : World) :
    Calls Tryz.prog 90 #[.agg #[.bool (p.1), .int .u64 (dg (p.2) 0), .int .u64 (dg (p.2) 1), .int .u64 (dg (p.2) 2), .int .u64 (dg (p.2) 3), .bool (q.1), .int .u64 (dg (q.2) 0), .int .u64 (dg (q.2) 1), .int .u64 (dg (q.2) 2), .int .u64 (dg (q.2) 3)]] w fun e w' => e = .returned (.bool false) ∧ Below w.heap.size w w' := by
  have H1 : Hd (∀ w, Calls Tryz.prog 113 #[.agg #[.bool (p.1), .int .u64 (dg (p.2) 0), .int .u64 (dg (p.2) 1), .int .u64 (dg (p.2) 2), .int .u64 (dg (p.2) 3)]] w fun e w' => e = .returned (.bool true) ∧ Below w.heap.size w w') := ⟨fun w => by have h := rright_any p hp w; rw [h1] at h; exact h⟩
  have H2 : Hd (∀ w, Calls Tryz.prog 113 #[.agg #[.bool (q.1), .int .u64 (dg (q.2) 0), .int .u64 (dg (q.2) 1), .int .u64 (dg (q.2) 2), .int .u64 (dg (q.2) 3)]] w fun e w' => e = .returned (.bool true) ∧ Below w.heap.size w w') := ⟨fun w => by have h := rright_any q hq w; rw [h2] at h; exact h⟩
  have F1 := Hd.mk (fun w => from_any p hp w)
  have F2 := Hd.mk (fun w => from_any q hq w)
  obtain ⟨m, hm⟩ : ∃ m, m = zof p.1 p.2 := ⟨_, rfl⟩
  obtain ⟨n, hn⟩ : ∃ n, n = zof q.1 q.2 := ⟨_, rfl⟩
  have em : ab m = p.2 := by rw [hm]; exact ab_zof _ _
  have en : ab n = q.2 := by rw [hn]; exact ab_zof _ _
  have HP : Hd (ab m < 2 ^ 256) := ⟨by rw [em]; exact hp⟩
  have HQ : Hd (ab n < 2 ^ 256) := ⟨by rw [en]; exact hq⟩
  rw [← hm] at F1
  rw [← hn] at F2 h3
  clear hm hn em en
  clear hp hq h1 h2
  go_enter Tryz.func90, Tryz.ntmps90
  go_wp2_with fail
  refine (H1.out _).mono ?_
  rintro e w1 ⟨rfl, hb⟩
  have z1 := heap_below hb (heap_new w (.cells #[.bool (p.1), .int .u64 (dg (p.2) 0), .int .u64 (dg (p.2) 1), .int .u64 (dg (p.2) 2), .int .u64 (dg (p.2) 3), .bool (q.1), .int .u64 (dg (q.2) 0), .int .u64 (dg (q.2) 1), .int .u64 (dg (q.2) 2), .int .u64 (dg (q.2) 3)] 91))
  have hB1 : Below w.heap.size w w1 := below_on (by focus (repeat (first | (with_reducible exact Below.refl _ _) | (with_reducible assumption) | ((with_reducible refine Below.setCell ?_ ?_ _); rotate_left; (focus (first | omega | (simp; done) | (simp; omega)))) | ((with_reducible refine Below.alloc ?_ ?_ _); rotate_left; (focus (first | omega | (simp; done) | (simp; omega)))) | (with_reducible refine Below.drew ?_) | (refine below_on ?_ (by assumption))))) hb
  clear hb H1
  have c0 := cell_at z1
  go_wp2_with fail
  refine (H2.out _).mono ?_
  rintro e w2 ⟨rfl, hb⟩
  have z2 := heap_below hb z1
  have hB2 := below_on hB1 hb
  clear hb H2 z1 hB1 c0
  go_upto_region 3 with (fail)
  refine region_abs_w (fun a0 a' w' => ∃ N M, ∃ v : Nat → Value, ((BigIn w' N m ∧ BigIn w' M n) ∧ Below w2.heap.size w2 w') ∧ (a' = (Act.put (Act.put (Act.put (Act.put (Act.put (Act.put (Act.put (Act.put a0 (some 15) (v 15)) (some 16) (v 16)) (some 17) (v 17)) (some 18) (v 18)) (some 19) (v 19)) (some 20) (v 20)) (some 3) (.pointer (some ⟨N, 0, none⟩))) (some 4) (.pointer (some ⟨M, 0, none⟩))))) (fun KR hKR => ?_) ?_
  · have HS : Hd (∀ W', Below w2.heap.size w2 W' → W'.cell? ⟨w.heap.size, 0, none⟩ = some (.bool p.1) ∧ W'.cell? ⟨w.heap.size, 1, none⟩ = some (.int .u64 (dg p.2 0)) ∧ W'.cell? ⟨w.heap.size, 2, none⟩ = some (.int .u64 (dg p.2 1)) ∧ W'.cell? ⟨w.heap.size, 3, none⟩ = some (.int .u64 (dg p.2 2)) ∧ W'.cell? ⟨w.heap.size, 4, none⟩ = some (.int .u64 (dg p.2 3)) ∧ W'.cell? ⟨w.heap.size, 5, none⟩ = some (.bool q.1) ∧ W'.cell? ⟨w.heap.size, 6, none⟩ = some (.int .u64 (dg q.2 0)) ∧ W'.cell? ⟨w.heap.size, 7, none⟩ = some (.int .u64 (dg q.2 1)) ∧ W'.cell? ⟨w.heap.size, 8, none⟩ = some (.int .u64 (dg q.2 2)) ∧ W'.cell? ⟨w.heap.size, 9, none⟩ = some (.int .u64 (dg q.2 3))) := ⟨fun W' h => ⟨cell_at (heap_below h z2) 0, cell_at (heap_below h z2) 1, cell_at (heap_below h z2) 2, cell_at (heap_below h z2) 3, cell_at (heap_below h z2) 4, cell_at (heap_below h z2) 5, cell_at (heap_below h z2) 6, cell_at (heap_below h z2) 7, cell_at (heap_below h z2) 8, cell_at (heap_below h z2) 9⟩⟩
    have hD : Below w2.heap.size w2 w2.drew := Below.drew (Below.refl _ _)
    have hDz := hD.size
    clear hB2
    go_region_held3 (fun W' => W'.cell? ⟨w.heap.size, 0, none⟩ = some (.bool p.1) ∧ W'.cell? ⟨w.heap.size, 1, none⟩ = some (.int .u64 (dg p.2 0)) ∧ W'.cell? ⟨w.heap.size, 2, none⟩ = some (.int .u64 (dg p.2 1)) ∧ W'.cell? ⟨w.heap.size, 3, none⟩ = some (.int .u64 (dg p.2 2)) ∧ W'.cell? ⟨w.heap.size, 4, none⟩ = some (.int .u64 (dg p.2 3)) ∧ W'.cell? ⟨w.heap.size, 5, none⟩ = some (.bool q.1) ∧ W'.cell? ⟨w.heap.size, 6, none⟩ = some (.int .u64 (dg q.2 0)) ∧ W'.cell? ⟨w.heap.size, 7, none⟩ = some (.int .u64 (dg q.2 1)) ∧ W'.cell? ⟨w.heap.size, 8, none⟩ = some (.int .u64 (dg q.2 2)) ∧ W'.cell? ⟨w.heap.size, 9, none⟩ = some (.int .u64 (dg q.2 3))) ((exact HS.out _ (by focus (repeat (first | (with_reducible exact Below.refl _ _) | (with_reducible assumption) | ((with_reducible refine Below.setCell ?_ ?_ _); rotate_left; (focus (first | omega | (simp; done) | (simp; omega)))) | ((with_reducible refine Below.alloc ?_ ?_ _); rotate_left; (focus (first | omega | (simp; done) | (simp; omega)))) | (with_reducible refine Below.drew ?_) | (refine below_on ?_ (by assumption)))))))
      ((first
        | (go_at_call 114; have hq := h12a; clear hq; refine (F2.out _).mono ?_; rintro e wb ⟨vb, rfl, ⟨A2, c2, rfl, h21, h22⟩, hb⟩; have h12 := h12a.below (below_on (by focus (repeat (first | (with_reducible exact Below.refl _ _) | (with_reducible assumption) | ((with_reducible refine Below.setCell ?_ ?_ _); rotate_left; (focus (first | omega | (simp; done) | (simp; omega)))) | ((with_reducible refine Below.alloc ?_ ?_ _); rotate_left; (focus (first | omega | (simp; done) | (simp; omega)))) | (with_reducible refine Below.drew ?_) | (refine below_on ?_ (by assumption))))) hb); have hD : Below w2.heap.size w2 wb := below_on (by focus (repeat (first | (with_reducible exact Below.refl _ _) | (with_reducible assumption) | ((with_reducible refine Below.setCell ?_ ?_ _); rotate_left; (focus (first | omega | (simp; done) | (simp; omega)))) | ((with_reducible refine Below.alloc ?_ ?_ _); rotate_left; (focus (first | omega | (simp; done) | (simp; omega)))) | (with_reducible refine Below.drew ?_) | (refine below_on ?_ (by assumption))))) hb; have hDz := hD.size; (first | (have zN := heap_below hb zN; have qN := cell_at zN; have fN := frozen_at zN; have lN := lt_of_block zN; have nN := Nat.ne_of_lt lN; have nN2 := Nat.ne_of_gt lN; (first | (have zM := heap_below hb zM; have qM := cell_at zM; have fM := frozen_at zM; have lM := lt_of_block zM; have nM := Nat.ne_of_lt lM; have nM2 := Nat.ne_of_gt lM) | skip)) | (have zN := heap_below hb (heap_old zN _); have qN := cell_at zN; have fN := frozen_at zN; have lN := lt_of_block zN; have nN := Nat.ne_of_lt lN; have nN2 := Nat.ne_of_gt lN; have zM := heap_below hb (heap_new _ (.cells #[.bool false, .slice none 0 0] 123)); have qM := cell_at zM; have fM := frozen_at zM; have lM := lt_of_block zM; have nM := Nat.ne_of_lt lM; have nM2 := Nat.ne_of_gt lM) | (have zM := heap_below hb (heap_two _ (.cells #[.bool false, .slice none 0 0] 123) (.cells #[.bool false, .slice none 0 0] 123)); have zN := heap_below hb (heap_old (heap_new _ (.cells #[.bool false, .slice none 0 0] 123)) _); have qN := cell_at zN; have fN := frozen_at zN; have lN := lt_of_block zN; have nN := Nat.ne_of_lt lN; have nN2 := Nat.ne_of_gt lN; have qM := cell_at zM; have fM := frozen_at zM; have lM := lt_of_block zM; have nM := Nat.ne_of_lt lM; have nM2 := Nat.ne_of_gt lM) | (have zN := heap_below hb (heap_new _ (.cells #[.bool false, .slice none 0 0] 123)); have qN := cell_at zN; have fN := frozen_at zN; have lN := lt_of_block zN; have nN := Nat.ne_of_lt lN; have nN2 := Nat.ne_of_gt lN) | skip); clear hb)
        | (go_at_call 114; refine (F1.out _).mono ?_; rintro e wa ⟨va, rfl, ⟨A1, c1, rfl, h11, h12a⟩, hb⟩; have hD : Below w2.heap.size w2 wa := below_on (by focus (repeat (first | (with_reducible exact Below.refl _ _) | (with_reducible assumption) | ((with_reducible refine Below.setCell ?_ ?_ _); rotate_left; (focus (first | omega | (simp; done) | (simp; omega)))) | ((with_reducible refine Below.alloc ?_ ?_ _); rotate_left; (focus (first | omega | (simp; done) | (simp; omega)))) | (with_reducible refine Below.drew ?_) | (refine below_on ?_ (by assumption))))) hb; have hDz := hD.size; (first | (have zN := heap_below hb zN; have qN := cell_at zN; have fN := frozen_at zN; have lN := lt_of_block zN; have nN := Nat.ne_of_lt lN; have nN2 := Nat.ne_of_gt lN; (first | (have zM := heap_below hb zM; have qM := cell_at zM; have fM := frozen_at zM; have lM := lt_of_block zM; have nM := Nat.ne_of_lt lM; have nM2 := Nat.ne_of_gt lM) | skip)) | (have zN := heap_below hb (heap_old zN _); have qN := cell_at zN; have fN := frozen_at zN; have lN := lt_of_block zN; have nN := Nat.ne_of_lt lN; have nN2 := Nat.ne_of_gt lN; have zM := heap_below hb (heap_new _ (.cells #[.bool false, .slice none 0 0] 123)); have qM := cell_at zM; have fM := frozen_at zM; have lM := lt_of_block zM; have nM := Nat.ne_of_lt lM; have nM2 := Nat.ne_of_gt lM) | (have zM := heap_below hb (heap_two _ (.cells #[.bool false, .slice none 0 0] 123) (.cells #[.bool false, .slice none 0 0] 123)); have zN := heap_below hb (heap_old (heap_new _ (.cells #[.bool false, .slice none 0 0] 123)) _); have qN := cell_at zN; have fN := frozen_at zN; have lN := lt_of_block zN; have nN := Nat.ne_of_lt lN; have nN2 := Nat.ne_of_gt lN; have qM := cell_at zM; have fM := frozen_at zM; have lM := lt_of_block zM; have nM := Nat.ne_of_lt lM; have nM2 := Nat.ne_of_gt lM) | (have zN := heap_below hb (heap_new _ (.cells #[.bool false, .slice none 0 0] 123)); have qN := cell_at zN; have fN := frozen_at zN; have lN := lt_of_block zN; have nN := Nat.ne_of_lt lN; have nN2 := Nat.ne_of_gt lN) | skip); clear hb)))
    all_goals first
      | (obtain ⟨L1, L2, L3⟩ := lay_two zN zM (by omega) h11 h12 h21 h22; exact ⟨rfl, hKR _ _ ⟨_, _, ex_putw3 ⟨by with_reducible exact ⟨⟨L1, L2⟩, hD.trans (L3 _ (by omega) (by omega))⟩, by kernel_rfl⟩⟩⟩)
      | (obtain ⟨L1, L2, L3⟩ := lay_two zM zN (by omega) h11 h12 h21 h22; exact ⟨rfl, hKR _ _ ⟨_, _, ex_putw3 ⟨by with_reducible exact ⟨⟨L1, L2⟩, hD.trans (L3 _ (by omega) (by omega))⟩, by kernel_rfl⟩⟩⟩)
      | (obtain ⟨L1, L2, L3⟩ := lay_set_alloc zN h11 h12 h21 h22; exact ⟨rfl, hKR _ _ ⟨_, _, ex_putw3 ⟨by with_reducible exact ⟨⟨L1, L2⟩, hD.trans (L3 _ (by omega))⟩, by kernel_rfl⟩⟩⟩)
      | (obtain ⟨L1, L2, L3⟩ := lay_set_alloc zN h21 h22 h11 h12; exact ⟨rfl, hKR _ _ ⟨_, _, ex_putw3 ⟨by with_reducible exact ⟨⟨L2, L1⟩, hD.trans (L3 _ (by omega))⟩, by kernel_rfl⟩⟩⟩)
      | (obtain ⟨L1, L2, L3⟩ := lay_alloc2 h11 h12 h21 h22; exact ⟨rfl, hKR _ _ ⟨_, _, ex_putw3 ⟨by with_reducible exact ⟨⟨L1, L2⟩, hD.trans (L3 _ (by omega))⟩, by kernel_rfl⟩⟩⟩)
      | (obtain ⟨L1, L2, L3⟩ := lay_alloc2 h21 h22 h11 h12; exact ⟨rfl, hKR _ _ ⟨_, _, ex_putw3 ⟨by with_reducible exact ⟨⟨L2, L1⟩, hD.trans (L3 _ (by omega))⟩, by kernel_rfl⟩⟩⟩)
  rintro a' W3 ⟨N, M, v, ⟨⟨⟨A, a, zN, a1, a2⟩, ⟨B, b, zM, b1, b2⟩⟩, hF⟩, rfl⟩
  simp only [Act.put, List.setIfInBounds_toArray, List.set_cons_succ, List.set_cons_zero]
  have hB3 := below_on hB2 hF
  have HD := Hd.mk (And.intro a2 b2)
  clear hF z2 hB2 a2 b2
  have cM := cell_at zM
  go_wp2_with fail
  refine (rsign_any n _ _ (big_of b1 HD.out.2)).mono ?_
  rintro e w4 ⟨rfl, hb⟩
  have zN := heap_below hb zN
  have zM := heap_below hb zM
  have hB4 := below_on hB3 hb
  have HD := Hd.mk (And.intro (HD.out.1.below hb) (HD.out.2.below hb))
  clear hb hB3 cM
  go_wp2
  go_ret
  exact ⟨rfl, hB4⟩
set_option maxRecDepth 20000 in
set_option maxHeartbeats 2000000 in
theorem rrat_r4 (p q : Bool × Nat) (hp : p.2 < 2 ^ 256) (hq : q.2 < 2 ^ 256) (h1 : decide (okP p) = true) (h2 : decide (okP q) = true) (h3 : decide (sgn (zof q.1 q.2) > 0) = true) (h4 : (sgn (((Nat.gcd p.2 q.2 : Nat) : Int) - 1) == 0) = false) (w : World) :
    Calls Tryz.prog 90 #[.agg #[.bool (p.1), .int .u64 (dg (p.2) 0), .int .u64 (dg (p.2) 1), .int .u64 (dg (p.2) 2), .int .u64 (dg (p.2) 3), .bool (q.1), .int .u64 (dg (q.2) 0), .int .u64 (dg (q.2) 1), .int .u64 (dg (q.2) 2), .int .u64 (dg (q.2) 3)]] w fun e w' => e = .returned (.bool false) ∧ Below w.heap.size w w' := by
  have H1 : Hd (∀ w, Calls Tryz.prog 113 #[.agg #[.bool (p.1), .int .u64 (dg (p.2) 0), .int .u64 (dg (p.2) 1), .int .u64 (dg (p.2) 2), .int .u64 (dg (p.2) 3)]] w fun e w' => e = .returned (.bool true) ∧ Below w.heap.size w w') := ⟨fun w => by have h := rright_any p hp w; rw [h1] at h; exact h⟩
  have H2 : Hd (∀ w, Calls Tryz.prog 113 #[.agg #[.bool (q.1), .int .u64 (dg (q.2) 0), .int .u64 (dg (q.2) 1), .int .u64 (dg (q.2) 2), .int .u64 (dg (q.2) 3)]] w fun e w' => e = .returned (.bool true) ∧ Below w.heap.size w w') := ⟨fun w => by have h := rright_any q hq w; rw [h2] at h; exact h⟩
  have F1 := Hd.mk (fun w => from_any p hp w)
  have F2 := Hd.mk (fun w => from_any q hq w)
  obtain ⟨m, hm⟩ : ∃ m, m = zof p.1 p.2 := ⟨_, rfl⟩
  obtain ⟨n, hn⟩ : ∃ n, n = zof q.1 q.2 := ⟨_, rfl⟩
  have em : ab m = p.2 := by rw [hm]; exact ab_zof _ _
  have en : ab n = q.2 := by rw [hn]; exact ab_zof _ _
  have HP : Hd (ab m < 2 ^ 256) := ⟨by rw [em]; exact hp⟩
  have HQ : Hd (ab n < 2 ^ 256) := ⟨by rw [en]; exact hq⟩
  rw [← hm] at F1
  rw [← hn] at F2 h3
  rw [← em, ← en] at h4
  clear hm hn em en
  clear hp hq h1 h2
  go_enter Tryz.func90, Tryz.ntmps90
  go_wp2_with fail
  refine (H1.out _).mono ?_
  rintro e w1 ⟨rfl, hb⟩
  have z1 := heap_below hb (heap_new w (.cells #[.bool (p.1), .int .u64 (dg (p.2) 0), .int .u64 (dg (p.2) 1), .int .u64 (dg (p.2) 2), .int .u64 (dg (p.2) 3), .bool (q.1), .int .u64 (dg (q.2) 0), .int .u64 (dg (q.2) 1), .int .u64 (dg (q.2) 2), .int .u64 (dg (q.2) 3)] 91))
  have hB1 : Below w.heap.size w w1 := below_on (by focus (repeat (first | (with_reducible exact Below.refl _ _) | (with_reducible assumption) | ((with_reducible refine Below.setCell ?_ ?_ _); rotate_left; (focus (first | omega | (simp; done) | (simp; omega)))) | ((with_reducible refine Below.alloc ?_ ?_ _); rotate_left; (focus (first | omega | (simp; done) | (simp; omega)))) | (with_reducible refine Below.drew ?_) | (refine below_on ?_ (by assumption))))) hb
  clear hb H1
  have c0 := cell_at z1
  go_wp2_with fail
  refine (H2.out _).mono ?_
  rintro e w2 ⟨rfl, hb⟩
  have z2 := heap_below hb z1
  have hB2 := below_on hB1 hb
  clear hb H2 z1 hB1 c0
  go_upto_region 3 with (fail)
  refine region_abs_w (fun a0 a' w' => ∃ N M, ∃ v : Nat → Value, ((BigIn w' N m ∧ BigIn w' M n) ∧ Below w2.heap.size w2 w') ∧ (a' = (Act.put (Act.put (Act.put (Act.put (Act.put (Act.put (Act.put (Act.put a0 (some 15) (v 15)) (some 16) (v 16)) (some 17) (v 17)) (some 18) (v 18)) (some 19) (v 19)) (some 20) (v 20)) (some 3) (.pointer (some ⟨N, 0, none⟩))) (some 4) (.pointer (some ⟨M, 0, none⟩))))) (fun KR hKR => ?_) ?_
  · have HS : Hd (∀ W', Below w2.heap.size w2 W' → W'.cell? ⟨w.heap.size, 0, none⟩ = some (.bool p.1) ∧ W'.cell? ⟨w.heap.size, 1, none⟩ = some (.int .u64 (dg p.2 0)) ∧ W'.cell? ⟨w.heap.size, 2, none⟩ = some (.int .u64 (dg p.2 1)) ∧ W'.cell? ⟨w.heap.size, 3, none⟩ = some (.int .u64 (dg p.2 2)) ∧ W'.cell? ⟨w.heap.size, 4, none⟩ = some (.int .u64 (dg p.2 3)) ∧ W'.cell? ⟨w.heap.size, 5, none⟩ = some (.bool q.1) ∧ W'.cell? ⟨w.heap.size, 6, none⟩ = some (.int .u64 (dg q.2 0)) ∧ W'.cell? ⟨w.heap.size, 7, none⟩ = some (.int .u64 (dg q.2 1)) ∧ W'.cell? ⟨w.heap.size, 8, none⟩ = some (.int .u64 (dg q.2 2)) ∧ W'.cell? ⟨w.heap.size, 9, none⟩ = some (.int .u64 (dg q.2 3))) := ⟨fun W' h => ⟨cell_at (heap_below h z2) 0, cell_at (heap_below h z2) 1, cell_at (heap_below h z2) 2, cell_at (heap_below h z2) 3, cell_at (heap_below h z2) 4, cell_at (heap_below h z2) 5, cell_at (heap_below h z2) 6, cell_at (heap_below h z2) 7, cell_at (heap_below h z2) 8, cell_at (heap_below h z2) 9⟩⟩
    have hD : Below w2.heap.size w2 w2.drew := Below.drew (Below.refl _ _)
    have hDz := hD.size
    clear hB2
    go_region_held3 (fun W' => W'.cell? ⟨w.heap.size, 0, none⟩ = some (.bool p.1) ∧ W'.cell? ⟨w.heap.size, 1, none⟩ = some (.int .u64 (dg p.2 0)) ∧ W'.cell? ⟨w.heap.size, 2, none⟩ = some (.int .u64 (dg p.2 1)) ∧ W'.cell? ⟨w.heap.size, 3, none⟩ = some (.int .u64 (dg p.2 2)) ∧ W'.cell? ⟨w.heap.size, 4, none⟩ = some (.int .u64 (dg p.2 3)) ∧ W'.cell? ⟨w.heap.size, 5, none⟩ = some (.bool q.1) ∧ W'.cell? ⟨w.heap.size, 6, none⟩ = some (.int .u64 (dg q.2 0)) ∧ W'.cell? ⟨w.heap.size, 7, none⟩ = some (.int .u64 (dg q.2 1)) ∧ W'.cell? ⟨w.heap.size, 8, none⟩ = some (.int .u64 (dg q.2 2)) ∧ W'.cell? ⟨w.heap.size, 9, none⟩ = some (.int .u64 (dg q.2 3))) ((exact HS.out _ (by focus (repeat (first | (with_reducible exact Below.refl _ _) | (with_reducible assumption) | ((with_reducible refine Below.setCell ?_ ?_ _); rotate_left; (focus (first | omega | (simp; done) | (simp; omega)))) | ((with_reducible refine Below.alloc ?_ ?_ _); rotate_left; (focus (first | omega | (simp; done) | (simp; omega)))) | (with_reducible refine Below.drew ?_) | (refine below_on ?_ (by assumption)))))))
      ((first
        | (go_at_call 114; have hq := h12a; clear hq; refine (F2.out _).mono ?_; rintro e wb ⟨vb, rfl, ⟨A2, c2, rfl, h21, h22⟩, hb⟩; have h12 := h12a.below (below_on (by focus (repeat (first | (with_reducible exact Below.refl _ _) | (with_reducible assumption) | ((with_reducible refine Below.setCell ?_ ?_ _); rotate_left; (focus (first | omega | (simp; done) | (simp; omega)))) | ((with_reducible refine Below.alloc ?_ ?_ _); rotate_left; (focus (first | omega | (simp; done) | (simp; omega)))) | (with_reducible refine Below.drew ?_) | (refine below_on ?_ (by assumption))))) hb); have hD : Below w2.heap.size w2 wb := below_on (by focus (repeat (first | (with_reducible exact Below.refl _ _) | (with_reducible assumption) | ((with_reducible refine Below.setCell ?_ ?_ _); rotate_left; (focus (first | omega | (simp; done) | (simp; omega)))) | ((with_reducible refine Below.alloc ?_ ?_ _); rotate_left; (focus (first | omega | (simp; done) | (simp; omega)))) | (with_reducible refine Below.drew ?_) | (refine below_on ?_ (by assumption))))) hb; have hDz := hD.size; (first | (have zN := heap_below hb zN; have qN := cell_at zN; have fN := frozen_at zN; have lN := lt_of_block zN; have nN := Nat.ne_of_lt lN; have nN2 := Nat.ne_of_gt lN; (first | (have zM := heap_below hb zM; have qM := cell_at zM; have fM := frozen_at zM; have lM := lt_of_block zM; have nM := Nat.ne_of_lt lM; have nM2 := Nat.ne_of_gt lM) | skip)) | (have zN := heap_below hb (heap_old zN _); have qN := cell_at zN; have fN := frozen_at zN; have lN := lt_of_block zN; have nN := Nat.ne_of_lt lN; have nN2 := Nat.ne_of_gt lN; have zM := heap_below hb (heap_new _ (.cells #[.bool false, .slice none 0 0] 123)); have qM := cell_at zM; have fM := frozen_at zM; have lM := lt_of_block zM; have nM := Nat.ne_of_lt lM; have nM2 := Nat.ne_of_gt lM) | (have zM := heap_below hb (heap_two _ (.cells #[.bool false, .slice none 0 0] 123) (.cells #[.bool false, .slice none 0 0] 123)); have zN := heap_below hb (heap_old (heap_new _ (.cells #[.bool false, .slice none 0 0] 123)) _); have qN := cell_at zN; have fN := frozen_at zN; have lN := lt_of_block zN; have nN := Nat.ne_of_lt lN; have nN2 := Nat.ne_of_gt lN; have qM := cell_at zM; have fM := frozen_at zM; have lM := lt_of_block zM; have nM := Nat.ne_of_lt lM; have nM2 := Nat.ne_of_gt lM) | (have zN := heap_below hb (heap_new _ (.cells #[.bool false, .slice none 0 0] 123)); have qN := cell_at zN; have fN := frozen_at zN; have lN := lt_of_block zN; have nN := Nat.ne_of_lt lN; have nN2 := Nat.ne_of_gt lN) | skip); clear hb)
        | (go_at_call 114; refine (F1.out _).mono ?_; rintro e wa ⟨va, rfl, ⟨A1, c1, rfl, h11, h12a⟩, hb⟩; have hD : Below w2.heap.size w2 wa := below_on (by focus (repeat (first | (with_reducible exact Below.refl _ _) | (with_reducible assumption) | ((with_reducible refine Below.setCell ?_ ?_ _); rotate_left; (focus (first | omega | (simp; done) | (simp; omega)))) | ((with_reducible refine Below.alloc ?_ ?_ _); rotate_left; (focus (first | omega | (simp; done) | (simp; omega)))) | (with_reducible refine Below.drew ?_) | (refine below_on ?_ (by assumption))))) hb; have hDz := hD.size; (first | (have zN := heap_below hb zN; have qN := cell_at zN; have fN := frozen_at zN; have lN := lt_of_block zN; have nN := Nat.ne_of_lt lN; have nN2 := Nat.ne_of_gt lN; (first | (have zM := heap_below hb zM; have qM := cell_at zM; have fM := frozen_at zM; have lM := lt_of_block zM; have nM := Nat.ne_of_lt lM; have nM2 := Nat.ne_of_gt lM) | skip)) | (have zN := heap_below hb (heap_old zN _); have qN := cell_at zN; have fN := frozen_at zN; have lN := lt_of_block zN; have nN := Nat.ne_of_lt lN; have nN2 := Nat.ne_of_gt lN; have zM := heap_below hb (heap_new _ (.cells #[.bool false, .slice none 0 0] 123)); have qM := cell_at zM; have fM := frozen_at zM; have lM := lt_of_block zM; have nM := Nat.ne_of_lt lM; have nM2 := Nat.ne_of_gt lM) | (have zM := heap_below hb (heap_two _ (.cells #[.bool false, .slice none 0 0] 123) (.cells #[.bool false, .slice none 0 0] 123)); have zN := heap_below hb (heap_old (heap_new _ (.cells #[.bool false, .slice none 0 0] 123)) _); have qN := cell_at zN; have fN := frozen_at zN; have lN := lt_of_block zN; have nN := Nat.ne_of_lt lN; have nN2 := Nat.ne_of_gt lN; have qM := cell_at zM; have fM := frozen_at zM; have lM := lt_of_block zM; have nM := Nat.ne_of_lt lM; have nM2 := Nat.ne_of_gt lM) | (have zN := heap_below hb (heap_new _ (.cells #[.bool false, .slice none 0 0] 123)); have qN := cell_at zN; have fN := frozen_at zN; have lN := lt_of_block zN; have nN := Nat.ne_of_lt lN; have nN2 := Nat.ne_of_gt lN) | skip); clear hb)))
    all_goals first
      | (obtain ⟨L1, L2, L3⟩ := lay_two zN zM (by omega) h11 h12 h21 h22; exact ⟨rfl, hKR _ _ ⟨_, _, ex_putw3 ⟨by with_reducible exact ⟨⟨L1, L2⟩, hD.trans (L3 _ (by omega) (by omega))⟩, by kernel_rfl⟩⟩⟩)
      | (obtain ⟨L1, L2, L3⟩ := lay_two zM zN (by omega) h11 h12 h21 h22; exact ⟨rfl, hKR _ _ ⟨_, _, ex_putw3 ⟨by with_reducible exact ⟨⟨L1, L2⟩, hD.trans (L3 _ (by omega) (by omega))⟩, by kernel_rfl⟩⟩⟩)
      | (obtain ⟨L1, L2, L3⟩ := lay_set_alloc zN h11 h12 h21 h22; exact ⟨rfl, hKR _ _ ⟨_, _, ex_putw3 ⟨by with_reducible exact ⟨⟨L1, L2⟩, hD.trans (L3 _ (by omega))⟩, by kernel_rfl⟩⟩⟩)
      | (obtain ⟨L1, L2, L3⟩ := lay_set_alloc zN h21 h22 h11 h12; exact ⟨rfl, hKR _ _ ⟨_, _, ex_putw3 ⟨by with_reducible exact ⟨⟨L2, L1⟩, hD.trans (L3 _ (by omega))⟩, by kernel_rfl⟩⟩⟩)
      | (obtain ⟨L1, L2, L3⟩ := lay_alloc2 h11 h12 h21 h22; exact ⟨rfl, hKR _ _ ⟨_, _, ex_putw3 ⟨by with_reducible exact ⟨⟨L1, L2⟩, hD.trans (L3 _ (by omega))⟩, by kernel_rfl⟩⟩⟩)
      | (obtain ⟨L1, L2, L3⟩ := lay_alloc2 h21 h22 h11 h12; exact ⟨rfl, hKR _ _ ⟨_, _, ex_putw3 ⟨by with_reducible exact ⟨⟨L2, L1⟩, hD.trans (L3 _ (by omega))⟩, by kernel_rfl⟩⟩⟩)
  rintro a' W3 ⟨N, M, v, ⟨⟨⟨A, a, zN, a1, a2⟩, ⟨B, b, zM, b1, b2⟩⟩, hF⟩, rfl⟩
  simp only [Act.put, List.setIfInBounds_toArray, List.set_cons_succ, List.set_cons_zero]
  have hB3 := below_on hB2 hF
  have HD := Hd.mk (And.intro a2 b2)
  clear hF z2 hB2 a2 b2
  have cM := cell_at zM
  go_wp2_with fail
  refine (rsign_any n _ _ (big_of b1 HD.out.2)).mono ?_
  rintro e w4 ⟨rfl, hb⟩
  have zN := heap_below hb zN
  have zM := heap_below hb zM
  have hB4 := below_on hB3 hb
  have HD := Hd.mk (And.intro (HD.out.1.below hb) (HD.out.2.below hb))
  clear hb hB3 cM
  have cM := cell_at zM
  have cN := cell_at zN
  have sN := lt_of_block zN
  go_wp2_with fail
  refine (rgcd_any m n _ _ HP.out HQ.out _ (big_of a1 HD.out.1) (big_of b1 HD.out.2)).mono ?_
  rintro e w5 ⟨vg, rfl, hvg, hb⟩
  have hB5 := below_on hB4 hb
  obtain ⟨G, gc, rfl, g1, g2⟩ := hvg
  have HG := Hd.mk g2
  clear hb hB4 cM cN zN zM HD g2 a1 b1 sN
  go_wp2_with fail
  refine (rnum_any 1 (by decide) (by decide) _).mono ?_
  rintro e w6 ⟨v1, rfl, hv1, hb⟩
  have hB6 := below_on hB5 hb
  have HG := Hd.mk (HG.out.below hb)
  have HO := Hd.mk hv1
  clear hb hB5 hv1
  go_wp2_with fail
  refine (rcmp_any _ 1 _ _ _ (big_of g1 HG.out) HO.out).mono ?_
  rintro e w7 ⟨rfl, hb⟩
  have hB7 := below_on hB6 hb
  clear hb hB6 HG HO g1
  go_wp2
  go_ret
  exact ⟨rfl, hB7⟩
set_option maxRecDepth 20000 in
set_option maxHeartbeats 2000000 in
theorem rrat_r5 (p q : Bool × Nat) (hp : p.2 < 2 ^ 256) (hq : q.2 < 2 ^ 256) (h1 : decide (okP p) = true) (h2 : decide (okP q) = true) (h3 : decide (sgn (zof q.1 q.2) > 0) = true) (h4 : (sgn (((Nat.gcd p.2 q.2 : Nat) : Int) - 1) == 0) = true) (w : World) :
    Calls Tryz.prog 90 #[.agg #[.bool (p.1), .int .u64 (dg (p.2) 0), .int .u64 (dg (p.2) 1), .int .u64 (dg (p.2) 2), .int .u64 (dg (p.2) 3), .bool (q.1), .int .u64 (dg (q.2) 0), .int .u64 (dg (q.2) 1), .int .u64 (dg (q.2) 2), .int .u64 (dg (q.2) 3)]] w fun e w' => e = .returned (.bool true) ∧ Below w.heap.size w w' := by
  have H1 : Hd (∀ w, Calls Tryz.prog 113 #[.agg #[.bool (p.1), .int .u64 (dg (p.2) 0), .int .u64 (dg (p.2) 1), .int .u64 (dg (p.2) 2), .int .u64 (dg (p.2) 3)]] w fun e w' => e = .returned (.bool true) ∧ Below w.heap.size w w') := ⟨fun w => by have h := rright_any p hp w; rw [h1] at h; exact h⟩
  have H2 : Hd (∀ w, Calls Tryz.prog 113 #[.agg #[.bool (q.1), .int .u64 (dg (q.2) 0), .int .u64 (dg (q.2) 1), .int .u64 (dg (q.2) 2), .int .u64 (dg (q.2) 3)]] w fun e w' => e = .returned (.bool true) ∧ Below w.heap.size w w') := ⟨fun w => by have h := rright_any q hq w; rw [h2] at h; exact h⟩
  have F1 := Hd.mk (fun w => from_any p hp w)
  have F2 := Hd.mk (fun w => from_any q hq w)
  obtain ⟨m, hm⟩ : ∃ m, m = zof p.1 p.2 := ⟨_, rfl⟩
  obtain ⟨n, hn⟩ : ∃ n, n = zof q.1 q.2 := ⟨_, rfl⟩
  have em : ab m = p.2 := by rw [hm]; exact ab_zof _ _
  have en : ab n = q.2 := by rw [hn]; exact ab_zof _ _
  have HP : Hd (ab m < 2 ^ 256) := ⟨by rw [em]; exact hp⟩
  have HQ : Hd (ab n < 2 ^ 256) := ⟨by rw [en]; exact hq⟩
  rw [← hm] at F1
  rw [← hn] at F2 h3
  rw [← em, ← en] at h4
  clear hm hn em en
  clear hp hq h1 h2
  go_enter Tryz.func90, Tryz.ntmps90
  go_wp2_with fail
  refine (H1.out _).mono ?_
  rintro e w1 ⟨rfl, hb⟩
  have z1 := heap_below hb (heap_new w (.cells #[.bool (p.1), .int .u64 (dg (p.2) 0), .int .u64 (dg (p.2) 1), .int .u64 (dg (p.2) 2), .int .u64 (dg (p.2) 3), .bool (q.1), .int .u64 (dg (q.2) 0), .int .u64 (dg (q.2) 1), .int .u64 (dg (q.2) 2), .int .u64 (dg (q.2) 3)] 91))
  have hB1 : Below w.heap.size w w1 := below_on (by focus (repeat (first | (with_reducible exact Below.refl _ _) | (with_reducible assumption) | ((with_reducible refine Below.setCell ?_ ?_ _); rotate_left; (focus (first | omega | (simp; done) | (simp; omega)))) | ((with_reducible refine Below.alloc ?_ ?_ _); rotate_left; (focus (first | omega | (simp; done) | (simp; omega)))) | (with_reducible refine Below.drew ?_) | (refine below_on ?_ (by assumption))))) hb
  clear hb H1
  have c0 := cell_at z1
  go_wp2_with fail
  refine (H2.out _).mono ?_
  rintro e w2 ⟨rfl, hb⟩
  have z2 := heap_below hb z1
  have hB2 := below_on hB1 hb
  clear hb H2 z1 hB1 c0
  go_upto_region 3 with (fail)
  refine region_abs_w (fun a0 a' w' => ∃ N M, ∃ v : Nat → Value, ((BigIn w' N m ∧ BigIn w' M n) ∧ Below w2.heap.size w2 w') ∧ (a' = (Act.put (Act.put (Act.put (Act.put (Act.put (Act.put (Act.put (Act.put a0 (some 15) (v 15)) (some 16) (v 16)) (some 17) (v 17)) (some 18) (v 18)) (some 19) (v 19)) (some 20) (v 20)) (some 3) (.pointer (some ⟨N, 0, none⟩))) (some 4) (.pointer (some ⟨M, 0, none⟩))))) (fun KR hKR => ?_) ?_
  · have HS : Hd (∀ W', Below w2.heap.size w2 W' → W'.cell? ⟨w.heap.size, 0, none⟩ = some (.bool p.1) ∧ W'.cell? ⟨w.heap.size, 1, none⟩ = some (.int .u64 (dg p.2 0)) ∧ W'.cell? ⟨w.heap.size, 2, none⟩ = some (.int .u64 (dg p.2 1)) ∧ W'.cell? ⟨w.heap.size, 3, none⟩ = some (.int .u64 (dg p.2 2)) ∧ W'.cell? ⟨w.heap.size, 4, none⟩ = some (.int .u64 (dg p.2 3)) ∧ W'.cell? ⟨w.heap.size, 5, none⟩ = some (.bool q.1) ∧ W'.cell? ⟨w.heap.size, 6, none⟩ = some (.int .u64 (dg q.2 0)) ∧ W'.cell? ⟨w.heap.size, 7, none⟩ = some (.int .u64 (dg q.2 1)) ∧ W'.cell? ⟨w.heap.size, 8, none⟩ = some (.int .u64 (dg q.2 2)) ∧ W'.cell? ⟨w.heap.size, 9, none⟩ = some (.int .u64 (dg q.2 3))) := ⟨fun W' h => ⟨cell_at (heap_below h z2) 0, cell_at (heap_below h z2) 1, cell_at (heap_below h z2) 2, cell_at (heap_below h z2) 3, cell_at (heap_below h z2) 4, cell_at (heap_below h z2) 5, cell_at (heap_below h z2) 6, cell_at (heap_below h z2) 7, cell_at (heap_below h z2) 8, cell_at (heap_below h z2) 9⟩⟩
    have hD : Below w2.heap.size w2 w2.drew := Below.drew (Below.refl _ _)
    have hDz := hD.size
    clear hB2
    go_region_held3 (fun W' => W'.cell? ⟨w.heap.size, 0, none⟩ = some (.bool p.1) ∧ W'.cell? ⟨w.heap.size, 1, none⟩ = some (.int .u64 (dg p.2 0)) ∧ W'.cell? ⟨w.heap.size, 2, none⟩ = some (.int .u64 (dg p.2 1)) ∧ W'.cell? ⟨w.heap.size, 3, none⟩ = some (.int .u64 (dg p.2 2)) ∧ W'.cell? ⟨w.heap.size, 4, none⟩ = some (.int .u64 (dg p.2 3)) ∧ W'.cell? ⟨w.heap.size, 5, none⟩ = some (.bool q.1) ∧ W'.cell? ⟨w.heap.size, 6, none⟩ = some (.int .u64 (dg q.2 0)) ∧ W'.cell? ⟨w.heap.size, 7, none⟩ = some (.int .u64 (dg q.2 1)) ∧ W'.cell? ⟨w.heap.size, 8, none⟩ = some (.int .u64 (dg q.2 2)) ∧ W'.cell? ⟨w.heap.size, 9, none⟩ = some (.int .u64 (dg q.2 3))) ((exact HS.out _ (by focus (repeat (first | (with_reducible exact Below.refl _ _) | (with_reducible assumption) | ((with_reducible refine Below.setCell ?_ ?_ _); rotate_left; (focus (first | omega | (simp; done) | (simp; omega)))) | ((with_reducible refine Below.alloc ?_ ?_ _); rotate_left; (focus (first | omega | (simp; done) | (simp; omega)))) | (with_reducible refine Below.drew ?_) | (refine below_on ?_ (by assumption)))))))
      ((first
        | (go_at_call 114; have hq := h12a; clear hq; refine (F2.out _).mono ?_; rintro e wb ⟨vb, rfl, ⟨A2, c2, rfl, h21, h22⟩, hb⟩; have h12 := h12a.below (below_on (by focus (repeat (first | (with_reducible exact Below.refl _ _) | (with_reducible assumption) | ((with_reducible refine Below.setCell ?_ ?_ _); rotate_left; (focus (first | omega | (simp; done) | (simp; omega)))) | ((with_reducible refine Below.alloc ?_ ?_ _); rotate_left; (focus (first | omega | (simp; done) | (simp; omega)))) | (with_reducible refine Below.drew ?_) | (refine below_on ?_ (by assumption))))) hb); have hD : Below w2.heap.size w2 wb := below_on (by focus (repeat (first | (with_reducible exact Below.refl _ _) | (with_reducible assumption) | ((with_reducible refine Below.setCell ?_ ?_ _); rotate_left; (focus (first | omega | (simp; done) | (simp; omega)))) | ((with_reducible refine Below.alloc ?_ ?_ _); rotate_left; (focus (first | omega | (simp; done) | (simp; omega)))) | (with_reducible refine Below.drew ?_) | (refine below_on ?_ (by assumption))))) hb; have hDz := hD.size; (first | (have zN := heap_below hb zN; have qN := cell_at zN; have fN := frozen_at zN; have lN := lt_of_block zN; have nN := Nat.ne_of_lt lN; have nN2 := Nat.ne_of_gt lN; (first | (have zM := heap_below hb zM; have qM := cell_at zM; have fM := frozen_at zM; have lM := lt_of_block zM; have nM := Nat.ne_of_lt lM; have nM2 := Nat.ne_of_gt lM) | skip)) | (have zN := heap_below hb (heap_old zN _); have qN := cell_at zN; have fN := frozen_at zN; have lN := lt_of_block zN; have nN := Nat.ne_of_lt lN; have nN2 := Nat.ne_of_gt lN; have zM := heap_below hb (heap_new _ (.cells #[.bool false, .slice none 0 0] 123)); have qM := cell_at zM; have fM := frozen_at zM; have lM := lt_of_block zM; have nM := Nat.ne_of_lt lM; have nM2 := Nat.ne_of_gt lM) | (have zM := heap_below hb (heap_two _ (.cells #[.bool false, .slice none 0 0] 123) (.cells #[.bool false, .slice none 0 0] 123)); have zN := heap_below hb (heap_old (heap_new _ (.cells #[.bool false, .slice none 0 0] 123)) _); have qN := cell_at zN; have fN := frozen_at zN; have lN := lt_of_block zN; have nN := Nat.ne_of_lt lN; have nN2 := Nat.ne_of_gt lN; have qM := cell_at zM; have fM := frozen_at zM; have lM := lt_of_block zM; have nM := Nat.ne_of_lt lM; have nM2 := Nat.ne_of_gt lM) | (have zN := heap_below hb (heap_new _ (.cells #[.bool false, .slice none 0 0] 123)); have qN := cell_at zN; have fN := frozen_at zN; have lN := lt_of_block zN; have nN := Nat.ne_of_lt lN; have nN2 := Nat.ne_of_gt lN) | skip); clear hb)
        | (go_at_call 114; refine (F1.out _).mono ?_; rintro e wa ⟨va, rfl, ⟨A1, c1, rfl, h11, h12a⟩, hb⟩; have hD : Below w2.heap.size w2 wa := below_on (by focus (repeat (first | (with_reducible exact Below.refl _ _) | (with_reducible assumption) | ((with_reducible refine Below.setCell ?_ ?_ _); rotate_left; (focus (first | omega | (simp; done) | (simp; omega)))) | ((with_reducible refine Below.alloc ?_ ?_ _); rotate_left; (focus (first | omega | (simp; done) | (simp; omega)))) | (with_reducible refine Below.drew ?_) | (refine below_on ?_ (by assumption))))) hb; have hDz := hD.size; (first | (have zN := heap_below hb zN; have qN := cell_at zN; have fN := frozen_at zN; have lN := lt_of_block zN; have nN := Nat.ne_of_lt lN; have nN2 := Nat.ne_of_gt lN; (first | (have zM := heap_below hb zM; have qM := cell_at zM; have fM := frozen_at zM; have lM := lt_of_block zM; have nM := Nat.ne_of_lt lM; have nM2 := Nat.ne_of_gt lM) | skip)) | (have zN := heap_below hb (heap_old zN _); have qN := cell_at zN; have fN := frozen_at zN; have lN := lt_of_block zN; have nN := Nat.ne_of_lt lN; have nN2 := Nat.ne_of_gt lN; have zM := heap_below hb (heap_new _ (.cells #[.bool false, .slice none 0 0] 123)); have qM := cell_at zM; have fM := frozen_at zM; have lM := lt_of_block zM; have nM := Nat.ne_of_lt lM; have nM2 := Nat.ne_of_gt lM) | (have zM := heap_below hb (heap_two _ (.cells #[.bool false, .slice none 0 0] 123) (.cells #[.bool false, .slice none 0 0] 123)); have zN := heap_below hb (heap_old (heap_new _ (.cells #[.bool false, .slice none 0 0] 123)) _); have qN := cell_at zN; have fN := frozen_at zN; have lN := lt_of_block zN; have nN := Nat.ne_of_lt lN; have nN2 := Nat.ne_of_gt lN; have qM := cell_at zM; have fM := frozen_at zM; have lM := lt_of_block zM; have nM := Nat.ne_of_lt lM; have nM2 := Nat.ne_of_gt lM) | (have zN := heap_below hb (heap_new _ (.cells #[.bool false, .slice none 0 0] 123)); have qN := cell_at zN; have fN := frozen_at zN; have lN := lt_of_block zN; have nN := Nat.ne_of_lt lN; have nN2 := Nat.ne_of_gt lN) | skip); clear hb)))
    all_goals first
      | (obtain ⟨L1, L2, L3⟩ := lay_two zN zM (by omega) h11 h12 h21 h22; exact ⟨rfl, hKR _ _ ⟨_, _, ex_putw3 ⟨by with_reducible exact ⟨⟨L1, L2⟩, hD.trans (L3 _ (by omega) (by omega))⟩, by kernel_rfl⟩⟩⟩)
      | (obtain ⟨L1, L2, L3⟩ := lay_two zM zN (by omega) h11 h12 h21 h22; exact ⟨rfl, hKR _ _ ⟨_, _, ex_putw3 ⟨by with_reducible exact ⟨⟨L1, L2⟩, hD.trans (L3 _ (by omega) (by omega))⟩, by kernel_rfl⟩⟩⟩)
      | (obtain ⟨L1, L2, L3⟩ := lay_set_alloc zN h11 h12 h21 h22; exact ⟨rfl, hKR _ _ ⟨_, _, ex_putw3 ⟨by with_reducible exact ⟨⟨L1, L2⟩, hD.trans (L3 _ (by omega))⟩, by kernel_rfl⟩⟩⟩)
      | (obtain ⟨L1, L2, L3⟩ := lay_set_alloc zN h21 h22 h11 h12; exact ⟨rfl, hKR _ _ ⟨_, _, ex_putw3 ⟨by with_reducible exact ⟨⟨L2, L1⟩, hD.trans (L3 _ (by omega))⟩, by kernel_rfl⟩⟩⟩)
      | (obtain ⟨L1, L2, L3⟩ := lay_alloc2 h11 h12 h21 h22; exact ⟨rfl, hKR _ _ ⟨_, _, ex_putw3 ⟨by with_reducible exact ⟨⟨L1, L2⟩, hD.trans (L3 _ (by omega))⟩, by kernel_rfl⟩⟩⟩)
      | (obtain ⟨L1, L2, L3⟩ := lay_alloc2 h21 h22 h11 h12; exact ⟨rfl, hKR _ _ ⟨_, _, ex_putw3 ⟨by with_reducible exact ⟨⟨L2, L1⟩, hD.trans (L3 _ (by omega))⟩, by kernel_rfl⟩⟩⟩)
  rintro a' W3 ⟨N, M, v, ⟨⟨⟨A, a, zN, a1, a2⟩, ⟨B, b, zM, b1, b2⟩⟩, hF⟩, rfl⟩
  simp only [Act.put, List.setIfInBounds_toArray, List.set_cons_succ, List.set_cons_zero]
  have hB3 := below_on hB2 hF
  have HD := Hd.mk (And.intro a2 b2)
  clear hF z2 hB2 a2 b2
  have cM := cell_at zM
  go_wp2_with fail
  refine (rsign_any n _ _ (big_of b1 HD.out.2)).mono ?_
  rintro e w4 ⟨rfl, hb⟩
  have zN := heap_below hb zN
  have zM := heap_below hb zM
  have hB4 := below_on hB3 hb
  have HD := Hd.mk (And.intro (HD.out.1.below hb) (HD.out.2.below hb))
  clear hb hB3 cM
  have cM := cell_at zM
  have cN := cell_at zN
  have sN := lt_of_block zN
  go_wp2_with fail
  refine (rgcd_any m n _ _ HP.out HQ.out _ (big_of a1 HD.out.1) (big_of b1 HD.out.2)).mono ?_
  rintro e w5 ⟨vg, rfl, hvg, hb⟩
  have hB5 := below_on hB4 hb
  obtain ⟨G, gc, rfl, g1, g2⟩ := hvg
  have HG := Hd.mk g2
  clear hb hB4 cM cN zN zM HD g2 a1 b1 sN
  go_wp2_with fail
  refine (rnum_any 1 (by decide) (by decide) _).mono ?_
  rintro e w6 ⟨v1, rfl, hv1, hb⟩
  have hB6 := below_on hB5 hb
  have HG := Hd.mk (HG.out.below hb)
  have HO := Hd.mk hv1
  clear hb hB5 hv1
  go_wp2_with fail
  refine (rcmp_any _ 1 _ _ _ (big_of g1 HG.out) HO.out).mono ?_
  rintro e w7 ⟨rfl, hb⟩
  have hB7 := below_on hB6 hb
  clear hb hB6 HG HO g1
  go_wp2
  go_ret
  exact ⟨rfl, hB7⟩
theorem sgn_pos (z : Int) : decide (sgn z > 0) = decide (0 < z) := by
  rw [Bool.eq_iff_iff]
  simp only [decide_eq_true_eq]
  unfold sgn
  split
  · omega
  · split <;> omega
/-- A fraction of Ints: may it be, by the references? -/
theorem rrat_right (p q : Bool × Nat) (hp : p.2 < 2 ^ 256) (hq : q.2 < 2 ^ 256) (b : Bool) (hb : b = true ↔ okR p q) (w : World) :
    Calls Tryz.prog 90 #[.agg #[.bool (p.1), .int .u64 (dg (p.2) 0), .int .u64 (dg (p.2) 1), .int .u64 (dg (p.2) 2), .int .u64 (dg (p.2) 3), .bool (q.1), .int .u64 (dg (q.2) 0), .int .u64 (dg (q.2) 1), .int .u64 (dg (q.2) 2), .int .u64 (dg (q.2) 3)]] w fun e w' => e = .returned (.bool b) ∧ Below w.heap.size w w' := by
  have no : ∀ {P : Prop}, ¬ P → (okR p q → P) → b = false := fun h1 h2 => by
    cases b
    · rfl
    · exact absurd (h2 (hb.1 rfl)) h1
  by_cases h1 : okP p
  · by_cases h2 : okP q
    · by_cases h3 : 0 < zof q.1 q.2
      · have h3' : decide (sgn (zof q.1 q.2) > 0) = true := by rw [sgn_pos]; exact decide_eq_true h3
        by_cases h4 : Nat.gcd p.2 q.2 = 1
        · rw [hb.2 ⟨h1, h2, h3, h4⟩]
          exact rrat_r5 p q hp hq (decide_eq_true h1) (decide_eq_true h2) h3' (by rw [sgn_one]; exact decide_eq_true h4) w
        · rw [no h4 (fun h => h.2.2.2)]
          exact rrat_r4 p q hp hq (decide_eq_true h1) (decide_eq_true h2) h3' (by rw [sgn_one]; exact decide_eq_false h4) w
      · rw [no h3 (fun h => h.2.2.1)]
        exact rrat_r3 p q hp hq (decide_eq_true h1) (decide_eq_true h2) (by rw [sgn_pos]; exact decide_eq_false h3) w
    · rw [no h2 (fun h => h.2.1)]
      exact rrat_r2 p q hp hq (decide_eq_true h1) (decide_eq_false h2) w
  · rw [no h1 (fun h => h.1)]
    exact rrat_r1 p q hp hq (decide_eq_false h1) w
end Go.Proofs.YtfchmikbebdflaaGreatDoor

namespace Go.Proofs.YtfchmikbebdflaaGreatDoor
open Go.RowKit Go.BigFrame

theorem laid_8 (b : Nat) (W : World) (v0 v1 v2 v3 v4 v5 v6 v7 : Value) : LaidK 8 b #[v0, v1, v2, v3, v4, v5, v6, v7] W ((((((((W.setCell ⟨b, 0, none⟩ v0).setCell ⟨b, 1, none⟩ v1).setCell ⟨b, 2, none⟩ v2).setCell ⟨b, 3, none⟩ v3).setCell ⟨b, 4, none⟩ v4).setCell ⟨b, 5, none⟩ v5).setCell ⟨b, 6, none⟩ v6).setCell ⟨b, 7, none⟩ v7) := by
  refine ⟨fun {c t} h hs => ?_, fun k o hk h => ?_, fun n hn => ?_⟩
  · obtain ⟨c0, c1, c2, c3, c4, c5, c6, c7, rfl⟩ : ∃ c0 c1 c2 c3 c4 c5 c6 c7, c = #[c0, c1, c2, c3, c4, c5, c6, c7] := by
      obtain ⟨l⟩ := c
      match l, hs with
      | [c0, c1, c2, c3, c4, c5, c6, c7], _ => exact ⟨c0, c1, c2, c3, c4, c5, c6, c7, rfl⟩
    have := (heap_set (heap_set (heap_set (heap_set (heap_set (heap_set (heap_set (heap_set h 0 v0) 1 v1) 2 v2) 3 v3) 4 v4) 5 v5) 6 v6) 7 v7)
    simpa using this
  · repeat (refine heap_set_other ?_ hk _)
    exact h
  · repeat (refine Below.setCell ?_ hn _)
    exact Below.refl _ _
theorem no_int8 {s t s' t' : Bool} {A B A' B' : Option Addr} {n c m e n' c' m' e' : Nat} : ∀ (o : Nat) (x : Int), (#[Value.bool s, .slice A n c, .bool t, .slice B m e, .bool s', .slice A' n' c', .bool t', .slice B' m' e'] : Array Value)[o]? ≠ some (Value.int .i64 x)
  | 0, _, h => by simp at h
  | 1, _, h => by simp at h
  | 2, _, h => by simp at h
  | 3, _, h => by simp at h
  | 4, _, h => by simp at h
  | 5, _, h => by simp at h
  | 6, _, h => by simp at h
  | 7, _, h => by simp at h
  | _ + 8, _, h => by simp at h
/-- A point of the references. -/
def PntAt (W : World) (v : Value) (n1 : Int) (k1 : Nat) (n2 : Int) (k2 : Nat) : Prop :=
  ∃ (A : Option Addr) (c : Nat) (B : Option Addr) (e : Nat) (A2 : Option Addr) (c2 : Nat) (B2 : Option Addr) (e2 : Nat), v = .agg #[.bool (ng n1), .slice A (dd (ab n1)).length c, .bool (ng (k1 : Int)), .slice B (dd (ab (k1 : Int))).length e, .bool (ng n2), .slice A2 (dd (ab n2)).length c2, .bool (ng (k2 : Int)), .slice B2 (dd (ab (k2 : Int))).length e2] ∧
    RatAt W (.agg #[.bool (ng n1), .slice A (dd (ab n1)).length c, .bool (ng (k1 : Int)), .slice B (dd (ab (k1 : Int))).length e]) n1 (k1 : Int) ∧ RatAt W (.agg #[.bool (ng n2), .slice A2 (dd (ab n2)).length c2, .bool (ng (k2 : Int)), .slice B2 (dd (ab (k2 : Int))).length e2]) n2 (k2 : Int)
theorem RatAt.other {W W' : World} {v : Value} {n d : Int} {b : Nat} {c : Array Value} {t : TypeId} {f : Nat × Nat} (h : RatAt W v n d) (hb : W.heap[b]? = some (.cells c t f)) (hn : ∀ (o : Nat) (x : Int), c[o]? ≠ some (Value.int .i64 x)) (ho : ∀ k o, k ≠ b → W.heap[k]? = some o → W'.heap[k]? = some o) : RatAt W' v n d := by
  obtain ⟨A, c, B, e, h1, h2, h3, h4, h5⟩ := h
  exact ⟨A, c, B, e, h1, h2, h3.other hb hn ho, h4, h5.other hb hn ho⟩
theorem PntAt.below {W W1 : World} {v : Value} {n1 n2 : Int} {k1 k2 : Nat} (h : PntAt W v n1 k1 n2 k2) (hb : Below W.heap.size W W1) : PntAt W1 v n1 k1 n2 k2 := by
  obtain ⟨A, c, B, e, A2, c2, B2, e2, h1, h2, h3⟩ := h
  exact ⟨A, c, B, e, A2, c2, B2, e2, h1, h2.below hb, h3.below hb⟩
theorem load_rpnt {W : World} {b : Nat} {cs : Array Value} {t : TypeId} {f : Nat × Nat} (h : W.heap[b]? = some (.cells cs t f)) (hs : cs.size = 8) : (loadVar 127 ⟨b, 0, none⟩).run Tryz.prog W = .ok (.agg cs) W :=
  run_loadVar_row W b t _ cs f _ h Tryz.underlying127 rfl (by rw [hs]; kernel_rfl)
end Go.Proofs.YtfchmikbebdflaaGreatDoor

namespace Go.Proofs.YtfchmikbebdflaaGreatDoor
open Go.RowKit Go.BigFrame
set_option maxRecDepth 20000 in
set_option maxHeartbeats 4000000 in
theorem rrfrom_any (p q : Bool × Nat) (hp : p.2 < 2 ^ 256) (hq : q.2 < 2 ^ 256) (w : World) :
    Calls Tryz.prog 92 #[.agg #[.bool (p.1), .int .u64 (dg (p.2) 0), .int .u64 (dg (p.2) 1), .int .u64 (dg (p.2) 2), .int .u64 (dg (p.2) 3), .bool (q.1), .int .u64 (dg (q.2) 0), .int .u64 (dg (q.2) 1), .int .u64 (dg (q.2) 2), .int .u64 (dg (q.2) 3)]] w fun e w' => ∃ v, e = .returned v ∧ RatAt w' v (zof p.1 p.2) (zof q.1 q.2) ∧ Below w.heap.size w w' := by
  have HX := Hd.mk (fun w => from_any p hp w)
  have HY := Hd.mk (fun w => from_any q hq w)
  obtain ⟨m, hm⟩ : ∃ m, m = zof p.1 p.2 := ⟨_, rfl⟩
  obtain ⟨n, hn⟩ : ∃ n, n = zof q.1 q.2 := ⟨_, rfl⟩
  rw [← hm] at HX ⊢
  rw [← hn] at HY ⊢
  clear hp hq hm hn
  go_enter Tryz.func92, Tryz.ntmps92
  go_upto_region 1 with (fail)
  refine abs_wp (fun W => W.heap[w.heap.size]? = some (.cells #[.bool (p.1), .int .u64 (dg (p.2) 0), .int .u64 (dg (p.2) 1), .int .u64 (dg (p.2) 2), .int .u64 (dg (p.2) 3), .bool (q.1), .int .u64 (dg (q.2) 0), .int .u64 (dg (q.2) 1), .int .u64 (dg (q.2) 2), .int .u64 (dg (q.2) 3)] 91 (0, 0)) ∧ W.heap[w.heap.size + 1]? = some (.cells #[.bool false, .slice none 0 0, .bool false, .slice none 0 0] 125 (0, 0)) ∧ Below w.heap.size w W) ⟨heap_old (heap_new _ _) _, heap_at (by simp) _, by focus (repeat (first | (with_reducible exact Below.refl _ _) | (with_reducible assumption) | ((with_reducible refine Below.setCell ?_ ?_ _); rotate_left; (focus (first | omega | (simp; done) | (simp; omega)))) | ((with_reducible refine Below.alloc ?_ ?_ _); rotate_left; (focus (first | omega | (simp; done) | (simp; omega)))) | (with_reducible refine Below.drew ?_) | (refine below_on ?_ (by assumption))))⟩ fun W ⟨z0, z1, hB⟩ => ?_
  have HS : Hd (∀ W', Below (w.heap.size + 1) W W' → W'.cell? ⟨w.heap.size, 0, none⟩ = some (.bool p.1) ∧ W'.cell? ⟨w.heap.size, 1, none⟩ = some (.int .u64 (dg p.2 0)) ∧ W'.cell? ⟨w.heap.size, 2, none⟩ = some (.int .u64 (dg p.2 1)) ∧ W'.cell? ⟨w.heap.size, 3, none⟩ = some (.int .u64 (dg p.2 2)) ∧ W'.cell? ⟨w.heap.size, 4, none⟩ = some (.int .u64 (dg p.2 3)) ∧ W'.cell? ⟨w.heap.size, 5, none⟩ = some (.bool q.1) ∧ W'.cell? ⟨w.heap.size, 6, none⟩ = some (.int .u64 (dg q.2 0)) ∧ W'.cell? ⟨w.heap.size, 7, none⟩ = some (.int .u64 (dg q.2 1)) ∧ W'.cell? ⟨w.heap.size, 8, none⟩ = some (.int .u64 (dg q.2 2)) ∧ W'.cell? ⟨w.heap.size, 9, none⟩ = some (.int .u64 (dg q.2 3))) := ⟨fun W' h => ⟨(h.cell (Nat.lt_succ_self _)).trans (cell_at z0 0), (h.cell (Nat.lt_succ_self _)).trans (cell_at z0 1), (h.cell (Nat.lt_succ_self _)).trans (cell_at z0 2), (h.cell (Nat.lt_succ_self _)).trans (cell_at z0 3), (h.cell (Nat.lt_succ_self _)).trans (cell_at z0 4), (h.cell (Nat.lt_succ_self _)).trans (cell_at z0 5), (h.cell (Nat.lt_succ_self _)).trans (cell_at z0 6), (h.cell (Nat.lt_succ_self _)).trans (cell_at z0 7), (h.cell (Nat.lt_succ_self _)).trans (cell_at z0 8), (h.cell (Nat.lt_succ_self _)).trans (cell_at z0 9)⟩⟩
  have hD0 : Below (w.heap.size + 1) W W.drew := Below.drew (Below.refl _ _)
  have hB0 : Below w.heap.size w W.drew := Below.drew hB
  have y1 : W.drew.heap[w.heap.size + 1]? = some (.cells #[.bool false, .slice none 0 0, .bool false, .slice none 0 0] 125 (0, 0)) := z1
  have hsz : w.heap.size + 1 ≤ W.heap.size := Nat.le_of_lt (lt_of_block z1)
  clear z0 z1 hB
  go_region_held3 (fun W' => W'.cell? ⟨w.heap.size, 0, none⟩ = some (.bool p.1) ∧ W'.cell? ⟨w.heap.size, 1, none⟩ = some (.int .u64 (dg p.2 0)) ∧ W'.cell? ⟨w.heap.size, 2, none⟩ = some (.int .u64 (dg p.2 1)) ∧ W'.cell? ⟨w.heap.size, 3, none⟩ = some (.int .u64 (dg p.2 2)) ∧ W'.cell? ⟨w.heap.size, 4, none⟩ = some (.int .u64 (dg p.2 3)) ∧ W'.cell? ⟨w.heap.size, 5, none⟩ = some (.bool q.1) ∧ W'.cell? ⟨w.heap.size, 6, none⟩ = some (.int .u64 (dg q.2 0)) ∧ W'.cell? ⟨w.heap.size, 7, none⟩ = some (.int .u64 (dg q.2 1)) ∧ W'.cell? ⟨w.heap.size, 8, none⟩ = some (.int .u64 (dg q.2 2)) ∧ W'.cell? ⟨w.heap.size, 9, none⟩ = some (.int .u64 (dg q.2 3))) ((exact HS.out _ (by focus (repeat (first | (with_reducible exact Below.refl _ _) | (with_reducible assumption) | ((with_reducible refine Below.setCell ?_ ?_ _); rotate_left; (focus (first | omega | (simp; done) | (simp; omega)))) | ((with_reducible refine Below.alloc ?_ ?_ _); rotate_left; (focus (first | omega | (simp; done) | (simp; omega)))) | (with_reducible refine Below.drew ?_) | (refine below_on ?_ (by assumption)))))))
    ((first
      | (go_at_call 114; have hq := hV1; clear hq; refine (HY.out _).mono ?_; rintro e1 wb ⟨v2, rfl, ⟨A2, c2, rfl, g3, g4⟩, hb⟩; have hR1 := g2.below hb; have hD2 := below_upw hsz hD1 hb; have hB2 := below_on hB1 hb; have y3 := heap_below hb y2; have q1 := cell_at y3; have q2 := frozen_at y3; clear hb)
      | (go_at_call 114; refine (HX.out _).mono ?_; rintro e1 wa ⟨v1, rfl, ⟨A, c, rfl, g1, g2⟩, hb⟩; have hV1 := True.intro; have hD1 := below_upw hsz hD0 hb; have hB1 := below_on hB0 hb; have y2 := heap_below hb y1; clear hb)))
  obtain ⟨l1, l2, l3⟩ := laid_four (w.heap.size + 1) wb (.bool (ng m)) (.slice A (dd (ab m)).length c) (.bool (ng n)) (.slice A2 (dd (ab n)).length c2)
  have HR := Hd.mk (And.intro (hR1.other y3 no_int4 l2) (g4.other y3 no_int4 l2))
  have hF := hB2.trans (l3 _ (by omega))
  have k1 := l1 y3 rfl
  clear l1 l2 l3 HS hD0 hB0 y1 hV1 hD1 hB1 y2 g2 g4 hR1 hD2 hB2 y3 q1 q2
  generalize ((((wb.setCell ⟨w.heap.size + 1, 0, none⟩ (.bool (ng m))).setCell ⟨w.heap.size + 1, 1, none⟩ (.slice A (dd (ab m)).length c)).setCell ⟨w.heap.size + 1, 2, none⟩ (.bool (ng n))).setCell ⟨w.heap.size + 1, 3, none⟩ (.slice A2 (dd (ab n)).length c2)) = wz at *
  go_wp2
  refine bodyPost_ret (by simp [results, Tryz.results92, asAddr, load_rrat k1 rfl] <;> rfl) rfl ⟨_, rfl, ⟨A, c, A2, c2, rfl, g1, HR.out.1, g3, HR.out.2⟩, hF⟩
/-- Of a fraction that may be. -/
theorem rrfrom_ok (p q : Bool × Nat) (hp : p.2 < 2 ^ 256) (hq : q.2 < 2 ^ 256) (ho : okR p q) (w : World) :
    Calls Tryz.prog 92 #[.agg #[.bool (p.1), .int .u64 (dg (p.2) 0), .int .u64 (dg (p.2) 1), .int .u64 (dg (p.2) 2), .int .u64 (dg (p.2) 3), .bool (q.1), .int .u64 (dg (q.2) 0), .int .u64 (dg (q.2) 1), .int .u64 (dg (q.2) 2), .int .u64 (dg (q.2) 3)]] w fun e w' => ∃ v, e = .returned v ∧ RatAt w' v (zof p.1 p.2) ((q.2 : Nat) : Int) ∧ Below w.heap.size w w' := by
  have h := rrfrom_any p q hp hq w
  obtain ⟨_, _, a3, _, _⟩ := okR_parts ho
  rw [show zof q.1 q.2 = ((q.2 : Nat) : Int) by rw [a3]; rfl] at h
  exact h
theorem rfits_q (p q : Bool × Nat) (hp : p.2 < 2 ^ 256) (hq : q.2 < 2 ^ 256) : rfitsB (zof p.1 p.2) q.2 = fitsB p.2 q.2 := by
  rw [Bool.eq_iff_iff, rfits_iff, fits_iff hp hq, ab_zof]
end Go.Proofs.YtfchmikbebdflaaGreatDoor

namespace Go.Proofs.YtfchmikbebdflaaGreatDoor
open Go.RowKit Go.BigFrame
set_option maxRecDepth 20000 in
set_option maxHeartbeats 4000000 in
/-- A point by signs and magnitudes: may it be, by the references? -/
theorem rpright_any (p q r s : Bool × Nat) (hp : p.2 < 2 ^ 256) (hq : q.2 < 2 ^ 256) (hr : r.2 < 2 ^ 256) (hs : s.2 < 2 ^ 256) (b c : Bool) (hb : b = true ↔ okR p q) (hc : c = true ↔ okR r s) (w : World) :
    Calls Tryz.prog 69 #[.agg #[.bool p.1, .int .u64 (dg (p.2) 0), .int .u64 (dg (p.2) 1), .int .u64 (dg (p.2) 2), .int .u64 (dg (p.2) 3), .bool q.1, .int .u64 (dg (q.2) 0), .int .u64 (dg (q.2) 1), .int .u64 (dg (q.2) 2), .int .u64 (dg (q.2) 3), .bool r.1, .int .u64 (dg (r.2) 0), .int .u64 (dg (r.2) 1), .int .u64 (dg (r.2) 2), .int .u64 (dg (r.2) 3), .bool s.1, .int .u64 (dg (s.2) 0), .int .u64 (dg (s.2) 1), .int .u64 (dg (s.2) 2), .int .u64 (dg (s.2) 3)]] w fun e w' => e = .returned (.bool (b && (c && (fitsB p.2 q.2 && fitsB r.2 s.2)))) ∧ Below w.heap.size w w' := by
  obtain ⟨f, hf⟩ : ∃ f, fitsB p.2 q.2 = f := ⟨_, rfl⟩
  obtain ⟨g, hg⟩ : ∃ g, fitsB r.2 s.2 = g := ⟨_, rfl⟩
  have H1 := Hd.mk (fun w => rrat_right p q hp hq b hb w)
  have H2 := Hd.mk (fun w => rrat_right r s hr hs c hc w)
  have F1 : Hd (b = true → ∀ w, Calls Tryz.prog 92 #[.agg #[.bool (p.1), .int .u64 (dg (p.2) 0), .int .u64 (dg (p.2) 1), .int .u64 (dg (p.2) 2), .int .u64 (dg (p.2) 3), .bool (q.1), .int .u64 (dg (q.2) 0), .int .u64 (dg (q.2) 1), .int .u64 (dg (q.2) 2), .int .u64 (dg (q.2) 3)]] w fun e w' => ∃ v, e = .returned v ∧ RatAt w' v (zof p.1 p.2) ((q.2 : Nat) : Int) ∧ Below w.heap.size w w') := ⟨fun h w => rrfrom_ok p q hp hq (hb.1 h) w⟩
  have F2 : Hd (c = true → ∀ w, Calls Tryz.prog 92 #[.agg #[.bool (r.1), .int .u64 (dg (r.2) 0), .int .u64 (dg (r.2) 1), .int .u64 (dg (r.2) 2), .int .u64 (dg (r.2) 3), .bool (s.1), .int .u64 (dg (s.2) 0), .int .u64 (dg (s.2) 1), .int .u64 (dg (s.2) 2), .int .u64 (dg (s.2) 3)]] w fun e w' => ∃ v, e = .returned v ∧ RatAt w' v (zof r.1 r.2) ((s.2 : Nat) : Int) ∧ Below w.heap.size w w') := ⟨fun h w => rrfrom_ok r s hr hs (hc.1 h) w⟩
  have G1 : Hd (∀ u w, RatAt w u (zof p.1 p.2) ((q.2 : Nat) : Int) → Calls Tryz.prog 91 #[u] w fun e w' => e = .returned (.bool f) ∧ Below w.heap.size w w') := ⟨fun u w h => by
    have k := rfits_any _ _ u w h
    rw [rfits_q p q hp hq, hf] at k
    exact k⟩
  have G2 : Hd (∀ u w, RatAt w u (zof r.1 r.2) ((s.2 : Nat) : Int) → Calls Tryz.prog 91 #[u] w fun e w' => e = .returned (.bool g) ∧ Below w.heap.size w w') := ⟨fun u w h => by
    have k := rfits_any _ _ u w h
    rw [rfits_q r s hr hs, hg] at k
    exact k⟩
  rw [hf, hg]
  clear hp hq hr hs hb hc hf hg
  go_enter Tryz.func69, Tryz.ntmps69
  go_wp2_with fail
  refine (H1.out _).mono ?_
  rintro e wa ⟨rfl, hb⟩
  have z0 := heap_below hb (heap_new w (.cells #[.bool p.1, .int .u64 (dg (p.2) 0), .int .u64 (dg (p.2) 1), .int .u64 (dg (p.2) 2), .int .u64 (dg (p.2) 3), .bool q.1, .int .u64 (dg (q.2) 0), .int .u64 (dg (q.2) 1), .int .u64 (dg (q.2) 2), .int .u64 (dg (q.2) 3), .bool r.1, .int .u64 (dg (r.2) 0), .int .u64 (dg (r.2) 1), .int .u64 (dg (r.2) 2), .int .u64 (dg (r.2) 3), .bool s.1, .int .u64 (dg (s.2) 0), .int .u64 (dg (s.2) 1), .int .u64 (dg (s.2) 2), .int .u64 (dg (s.2) 3)] 93))
  have hB : Below w.heap.size w wa := below_on (by focus (repeat (first | (with_reducible exact Below.refl _ _) | (with_reducible assumption) | ((with_reducible refine Below.setCell ?_ ?_ _); rotate_left; (focus (first | omega | (simp; done) | (simp; omega)))) | ((with_reducible refine Below.alloc ?_ ?_ _); rotate_left; (focus (first | omega | (simp; done) | (simp; omega)))) | (with_reducible refine Below.drew ?_) | (refine below_on ?_ (by assumption))))) hb
  have c0 := cell_at z0
  clear hb H1
  cases b with
  | false =>
    go_wp2
    go_ret
    exact ⟨rfl, hB⟩
  | true =>
    go_wp2_with fail
    refine (H2.out _).mono ?_
    rintro e wb ⟨rfl, hb⟩
    have z1 := heap_below hb z0
    have hB1 := below_on hB hb
    have c1 := cell_at z1
    clear hb H2 z0 c0 hB
    cases c with
    | false =>
      go_wp2
      go_ret
      exact ⟨rfl, hB1⟩
    | true =>
      go_wp2_with fail
      refine (F1.out trivial _).mono ?_
      rintro e wc ⟨v1, rfl, hv1, hb⟩
      have z2 := heap_below hb z1
      have hB2 := below_on hB1 hb
      have HR := Hd.mk hv1
      clear hb F1 z1 c1 hB1 hv1
      go_wp2_with fail
      refine (G1.out _ _ HR.out).mono ?_
      rintro e wd ⟨rfl, hb⟩
      have z3 := heap_below hb z2
      have hB3 := below_on hB2 hb
      have c3 := cell_at z3
      clear hb G1 z2 hB2 HR
      cases f with
      | false =>
        go_wp2
        go_ret
        exact ⟨rfl, hB3⟩
      | true =>
        go_wp2_with fail
        refine (F2.out trivial _).mono ?_
        rintro e we ⟨v2, rfl, hv2, hb⟩
        have hB4 := below_on hB3 hb
        have HR := Hd.mk hv2
        clear hb F2 z3 c3 hB3 hv2
        go_wp2_with fail
        refine (G2.out _ _ HR.out).mono ?_
        rintro e wf ⟨rfl, hb⟩
        have hB5 := below_on hB4 hb
        clear hb G2 hB4 HR
        cases g
        all_goals
          go_wp2
          go_ret
          exact ⟨rfl, hB5⟩
theorem rpright_p (p q r s : Bool × Nat) (hp : p.2 < 2 ^ 256) (hq : q.2 < 2 ^ 256) (hr : r.2 < 2 ^ 256) (hs : s.2 < 2 ^ 256) (o : Bool) (ho : o = true ↔ okPt p q r s) (w : World) :
    Calls Tryz.prog 69 #[.agg #[.bool p.1, .int .u64 (dg (p.2) 0), .int .u64 (dg (p.2) 1), .int .u64 (dg (p.2) 2), .int .u64 (dg (p.2) 3), .bool q.1, .int .u64 (dg (q.2) 0), .int .u64 (dg (q.2) 1), .int .u64 (dg (q.2) 2), .int .u64 (dg (q.2) 3), .bool r.1, .int .u64 (dg (r.2) 0), .int .u64 (dg (r.2) 1), .int .u64 (dg (r.2) 2), .int .u64 (dg (r.2) 3), .bool s.1, .int .u64 (dg (s.2) 0), .int .u64 (dg (s.2) 1), .int .u64 (dg (s.2) 2), .int .u64 (dg (s.2) 3)]] w fun e w' => e = .returned (.bool o) ∧ Below w.heap.size w w' := by
  obtain ⟨b, hb⟩ : ∃ b : Bool, b = true ↔ okR p q := ⟨@decide (okR p q) (Classical.propDecidable _), by simp⟩
  obtain ⟨c, hc⟩ : ∃ c : Bool, c = true ↔ okR r s := ⟨@decide (okR r s) (Classical.propDecidable _), by simp⟩
  have h := rpright_any p q r s hp hq hr hs b c hb hc w
  have e : (b && (c && (fitsB p.2 q.2 && fitsB r.2 s.2))) = o := by
    rw [Bool.eq_iff_iff, ho]
    simp only [Bool.and_eq_true, hb, hc, okPt]
  rw [e] at h
  exact h
end Go.Proofs.YtfchmikbebdflaaGreatDoor
