/-
  Points of the references: of a node, the point of Ints. Conditions stand in each theorem.
-/
import Derived.Test.YtbhfnfokihdjjaaGreatDoorRb2
import Derived.Test.YtbhfnfokihdjjaaGreatDoorWg4
namespace Go.Proofs.YtbhfnfokihdjjaaGreatDoor
open Go.RowKit Go.BigFrame

theorem rout_nat (k : Nat) (hk : k < 2 ^ 256) (u : Value) (w : World) (hu : BigAt w u (k : Int)) :
    Calls Tryz.prog 74 #[u] w fun e w' => e = .returned (.tuple #[.agg #[.bool (false), .int .u64 (dg (k) 0), .int .u64 (dg (k) 1), .int .u64 (dg (k) 2), .int .u64 (dg (k) 3)], .int .i64 0]) ∧ Below w.heap.size w w' := by
  have h := rout_ok (k : Int) (by rw [ab_nat]; exact hk) u w hu
  rw [ng_nat, ab_nat] at h
  exact h
theorem four_split {W : World} {n d : Int} {A B : Option Addr} {c e : Nat} (h : (dd (ab n)).length ≤ c ∧ DigAt W A (dd (ab n)) ∧ (dd (ab d)).length ≤ e ∧ DigAt W B (dd (ab d))) :
    BigAt W (.agg #[.bool (ng n), .slice A (dd (ab n)).length c]) n ∧ BigAt W (.agg #[.bool (ng d), .slice B (dd (ab d)).length e]) d := ⟨⟨A, c, rfl, h.1, h.2.1⟩, ⟨B, e, rfl, h.2.2.1, h.2.2.2⟩⟩
set_option maxRecDepth 20000 in
set_option maxHeartbeats 2000000 in
theorem rrout_ok (n : Int) (k : Nat) (hn : ab n < 2 ^ 256) (hk : k < 2 ^ 256) (u : Value) (w : World) (hu : RatAt w u n (k : Int)) :
    Calls Tryz.prog 41 #[u] w fun e w' => e = .returned (.tuple #[.agg #[.bool (ng (n)), .int .u64 (dg (ab (n)) 0), .int .u64 (dg (ab (n)) 1), .int .u64 (dg (ab (n)) 2), .int .u64 (dg (ab (n)) 3), .bool false, .int .u64 (dg (k) 0), .int .u64 (dg (k) 1), .int .u64 (dg (k) 2), .int .u64 (dg (k) 3)], .int .i64 0]) ∧ Below w.heap.size w w' := by
  obtain ⟨A, c, B, e, rfl, g⟩ := hu
  have HA : Hd (∀ (v : Value) (w : World), BigAt w v n → Calls Tryz.prog 74 #[v] w fun e w' => e = .returned (.tuple #[.agg #[.bool (ng (n)), .int .u64 (dg (ab (n)) 0), .int .u64 (dg (ab (n)) 1), .int .u64 (dg (ab (n)) 2), .int .u64 (dg (ab (n)) 3)], .int .i64 0]) ∧ Below w.heap.size w w') := ⟨fun v w h => rout_ok n hn v w h⟩
  have HB : Hd (∀ (v : Value) (w : World), BigAt w v (k : Int) → Calls Tryz.prog 74 #[v] w fun e w' => e = .returned (.tuple #[.agg #[.bool (false), .int .u64 (dg (k) 0), .int .u64 (dg (k) 1), .int .u64 (dg (k) 2), .int .u64 (dg (k) 3)], .int .i64 0]) ∧ Below w.heap.size w w') := ⟨fun v w h => rout_nat k hk v w h⟩
  have HG := Hd.mk (four_split g)
  clear hn hk g
  go_enter Tryz.func41, Tryz.ntmps41
  go_wp2_with fail
  refine (HA.out _ _ (HG.out.1.below (by focus (repeat (first | (with_reducible exact Below.refl _ _) | (with_reducible assumption) | ((with_reducible refine Below.setCell ?_ ?_ _); rotate_left; (focus (first | omega | (simp; done) | (simp; omega)))) | ((with_reducible refine Below.alloc ?_ ?_ _); rotate_left; (focus (first | omega | (simp; done) | (simp; omega)))) | (with_reducible refine Below.drew ?_) | (refine below_on ?_ (by assumption))))))).mono ?_
  rintro e1 w1 ⟨rfl, hb⟩
  have z0 := heap_below hb (heap_old (heap_new w (.cells #[.bool (ng n), .slice A (dd (ab n)).length c, .bool (ng (k : Int)), .slice B (dd (ab (k : Int))).length e] 55)) _)
  have z1 := heap_below hb (heap_at (n := w.heap.size + 1) (by simp) (.cells #[.bool false, .int .u64 0, .int .u64 0, .int .u64 0, .int .u64 0, .bool false, .int .u64 0, .int .u64 0, .int .u64 0, .int .u64 0] 44))
  have hB : Below w.heap.size w w1 := below_on (by focus (repeat (first | (with_reducible exact Below.refl _ _) | (with_reducible assumption) | ((with_reducible refine Below.setCell ?_ ?_ _); rotate_left; (focus (first | omega | (simp; done) | (simp; omega)))) | ((with_reducible refine Below.alloc ?_ ?_ _); rotate_left; (focus (first | omega | (simp; done) | (simp; omega)))) | (with_reducible refine Below.drew ?_) | (refine below_on ?_ (by assumption))))) hb
  clear hb
  have s1 := lt_of_block z1
  go_upto_region 2 with (fail)
  refine abs_wp (fun W => W.heap[w.heap.size]? = some (.cells #[.bool (ng n), .slice A (dd (ab n)).length c, .bool (ng (k : Int)), .slice B (dd (ab (k : Int))).length e] 55 (0, 0)) ∧ W.heap[w.heap.size + 1]? = some (.cells #[.bool false, .int .u64 0, .int .u64 0, .int .u64 0, .int .u64 0, .bool false, .int .u64 0, .int .u64 0, .int .u64 0, .int .u64 0] 44 (0, 0)) ∧ W.heap[w1.heap.size]? = some (.cells #[.bool (ng (n)), .int .u64 (dg (ab (n)) 0), .int .u64 (dg (ab (n)) 1), .int .u64 (dg (ab (n)) 2), .int .u64 (dg (ab (n)) 3)] 42 (0, 0)) ∧ Below w.heap.size w W) ⟨heap_old z0 _, heap_old z1 _, heap_new _ _, by have := hB.size; focus (repeat (first | (with_reducible exact Below.refl _ _) | (with_reducible assumption) | ((with_reducible refine Below.setCell ?_ ?_ _); rotate_left; (focus (first | omega | (simp; done) | (simp; omega)))) | ((with_reducible refine Below.alloc ?_ ?_ _); rotate_left; (focus (first | omega | (simp; done) | (simp; omega)))) | (with_reducible refine Below.drew ?_) | (refine below_on ?_ (by assumption))))⟩ fun W ⟨y0, y1, y2, hB2⟩ => ?_
  obtain ⟨b1, hb1⟩ : ∃ b1, b1 = w1.heap.size := ⟨_, rfl⟩
  rw [← hb1] at y2 s1 ⊢
  clear z0 z1 hB hb1
  have c0 := cell_at y0
  go_wp2_with fail
  refine (HB.out _ _ (HG.out.2.below hB2)).mono ?_
  rintro e1 w3 ⟨rfl, hb⟩
  have z1 := heap_below hb y1
  have z2 := heap_below hb y2
  have hB3 := below_on hB2 hb
  clear hb y0 y1 y2 hB2 c0 HG
  have s3 := lt_of_block z2
  go_upto_region 5 with (fail)
  refine abs_wp (fun W => W.heap[w.heap.size + 1]? = some (.cells #[.bool false, .int .u64 0, .int .u64 0, .int .u64 0, .int .u64 0, .bool false, .int .u64 0, .int .u64 0, .int .u64 0, .int .u64 0] 44 (0, 0)) ∧ W.heap[b1]? = some (.cells #[.bool (ng (n)), .int .u64 (dg (ab (n)) 0), .int .u64 (dg (ab (n)) 1), .int .u64 (dg (ab (n)) 2), .int .u64 (dg (ab (n)) 3)] 42 (0, 0)) ∧ W.heap[w3.heap.size]? = some (.cells #[.bool (false), .int .u64 (dg (k) 0), .int .u64 (dg (k) 1), .int .u64 (dg (k) 2), .int .u64 (dg (k) 3)] 42 (0, 0)) ∧ Below w.heap.size w W) ⟨heap_old z1 _, heap_old z2 _, heap_new _ _, by have := hB3.size; focus (repeat (first | (with_reducible exact Below.refl _ _) | (with_reducible assumption) | ((with_reducible refine Below.setCell ?_ ?_ _); rotate_left; (focus (first | omega | (simp; done) | (simp; omega)))) | ((with_reducible refine Below.alloc ?_ ?_ _); rotate_left; (focus (first | omega | (simp; done) | (simp; omega)))) | (with_reducible refine Below.drew ?_) | (refine below_on ?_ (by assumption))))⟩ fun W ⟨y1, y2, y3, hB4⟩ => ?_
  clear z1 z2 hB3
  have c2 := cell_at y2
  have c3 := cell_at y3
  go_wp2_with (refine wpList_store_block rfl 44 (.tmp 2) (.tmp 29) rfl (w.heap.size + 1) #[.bool (ng (n)), .int .u64 (dg (ab (n)) 0), .int .u64 (dg (ab (n)) 1), .int .u64 (dg (ab (n)) 2), .int .u64 (dg (ab (n)) 3), .bool false, .int .u64 (dg (k) 0), .int .u64 (dg (k) 1), .int .u64 (dg (k) 2), .int .u64 (dg (k) 3)] rfl rfl y1 rfl (by kernel_rfl) rfl ?_; rintro W2 ⟨k1, k2, k3⟩; have hF := hB4.trans (k3 _ (by omega)); clear y1 y2 y3 hB4 k2 k3 c2 c3)
  have k2 := cell_at k1
  refine bodyPost_ret (by simp [results, Tryz.results41, go_sem, k2] <;> rfl) rfl ⟨rfl, hF⟩
/-- Does a fraction of the references fit? -/
def rfitsB (n : Int) (k : Nat) : Bool := decide ((dd (ab n)).length ≤ 6) && decide ((dd k).length ≤ 4)
theorem rfits_iff (n : Int) (k : Nat) : rfitsB n k = true ↔ ab n < 2 ^ 96 ∧ k < 2 ^ 64 := by
  unfold rfitsB
  rw [Bool.and_eq_true, decide_eq_true_eq, decide_eq_true_eq, dd_len, dd_len]
set_option maxRecDepth 20000 in
set_option maxHeartbeats 1000000 in
theorem rfits_any (n : Int) (k : Nat) (u : Value) (w : World) (hu : RatAt w u n (k : Int)) :
    Calls Tryz.prog 54 #[u] w fun e w' => e = .returned (.bool (rfitsB n k)) ∧ Below w.heap.size w w' := by
  obtain ⟨A, c, B, e, rfl, _, _, _, _⟩ := hu
  have hab : ab (k : Int) = k := ab_nat k
  unfold rfitsB
  rw [hab]
  obtain ⟨l1, h1⟩ : ∃ l1, (dd (ab n)).length = l1 := ⟨_, rfl⟩
  obtain ⟨l2, h2⟩ : ∃ l2, (dd k).length = l2 := ⟨_, rfl⟩
  rw [h1, h2]
  clear hab h1 h2
  by_cases hq1 : l1 ≤ 6
  · have d1 : decide (l1 ≤ 6) = true := by simpa using hq1
    have d1i : decide ((l1 : Int) ≤ 6) = true := by simp; omega
    go_enter Tryz.func54, Tryz.ntmps54
    go_upto_region 1 with (fail)
    refine abs_wp (fun W => W.heap[w.heap.size]? = some (.cells #[.bool (ng n), .slice A l1 c, .bool (ng (k : Int)), .slice B l2 e] 55 (0, 0)) ∧ Below w.heap.size w W) ⟨heap_new _ _, by focus (repeat (first | (with_reducible exact Below.refl _ _) | (with_reducible assumption) | ((with_reducible refine Below.setCell ?_ ?_ _); rotate_left; (focus (first | omega | (simp; done) | (simp; omega)))) | ((with_reducible refine Below.alloc ?_ ?_ _); rotate_left; (focus (first | omega | (simp; done) | (simp; omega)))) | (with_reducible refine Below.drew ?_) | (refine below_on ?_ (by assumption))))⟩ fun W ⟨z0, hB⟩ => ?_
    refine region_qt 7 (by kernel_rfl) (by kernel_rfl) fun X _ mk hmk hcl => ?_
    have c0 := mk_cell hmk z0
    simp only [List.take_succ_cons, List.take_zero, List.drop_succ_cons, List.drop_zero]
    repeat (go_big_quiet_step (skip))
    refine wpQuiet_nil ?_
    rintro _ ⟨x, rfl⟩
    clear c0
    have hx := hmk x
    clear hcl hmk
    generalize mk x = W1 at hx
    have hB1 := below_on hB hx
    clear hx z0 hB
    go_wp2
    go_ret
    exact ⟨by first | rfl | (simp [d1]; omega) | (simp [d1]; done), hB1⟩
  · have d1 : decide (l1 ≤ 6) = false := by simpa using hq1
    have d1i : decide ((l1 : Int) ≤ 6) = false := by simp; omega
    go_enter Tryz.func54, Tryz.ntmps54
    go_upto_region 1 with (fail)
    refine abs_wp (fun W => W.heap[w.heap.size]? = some (.cells #[.bool (ng n), .slice A l1 c, .bool (ng (k : Int)), .slice B l2 e] 55 (0, 0)) ∧ Below w.heap.size w W) ⟨heap_new _ _, by focus (repeat (first | (with_reducible exact Below.refl _ _) | (with_reducible assumption) | ((with_reducible refine Below.setCell ?_ ?_ _); rotate_left; (focus (first | omega | (simp; done) | (simp; omega)))) | ((with_reducible refine Below.alloc ?_ ?_ _); rotate_left; (focus (first | omega | (simp; done) | (simp; omega)))) | (with_reducible refine Below.drew ?_) | (refine below_on ?_ (by assumption))))⟩ fun W ⟨z0, hB⟩ => ?_
    refine region_qt 7 (by kernel_rfl) (by kernel_rfl) fun X _ mk hmk hcl => ?_
    have c0 := mk_cell hmk z0
    simp only [List.take_succ_cons, List.take_zero, List.drop_succ_cons, List.drop_zero]
    repeat (go_big_quiet_step (skip))
    refine wpQuiet_nil ?_
    rintro _ ⟨x, rfl⟩
    clear c0
    have hx := hmk x
    clear hcl hmk
    generalize mk x = W1 at hx
    have hB1 := below_on hB hx
    clear hx z0 hB
    go_wp2
    go_ret
    exact ⟨by first | rfl | (simp [d1]; omega) | (simp [d1]; done), hB1⟩
end Go.Proofs.YtbhfnfokihdjjaaGreatDoor

namespace Go.Proofs.YtbhfnfokihdjjaaGreatDoor
open Go.RowKit Go.BigFrame

theorem laid_8 (b : Nat) (W : World) (v0 v1 v2 v3 v4 v5 v6 v7 : Value) : LaidK 8 b #[v0, v1, v2, v3, v4, v5, v6, v7] W ((((((((W.setCell ⟨b, 0, none⟩ v0).setCell ⟨b, 1, none⟩ v1).setCell ⟨b, 2, none⟩ v2).setCell ⟨b, 3, none⟩ v3).setCell ⟨b, 4, none⟩ v4).setCell ⟨b, 5, none⟩ v5).setCell ⟨b, 6, none⟩ v6).setCell ⟨b, 7, none⟩ v7) := by
  refine ⟨fun {c t} h hs => ?_, fun k o hk h => ?_, fun n hn => ?_⟩
  · obtain ⟨c0, c1, c2, c3, c4, c5, c6, c7, rfl⟩ : ∃ c0 c1 c2 c3 c4 c5 c6 c7, c = #[c0, c1, c2, c3, c4, c5, c6, c7] := by
      obtain ⟨l⟩ := c
      match l, hs with
      | [c0, c1, c2, c3, c4, c5, c6, c7], _ => exact ⟨c0, c1, c2, c3, c4, c5, c6, c7, rfl⟩
    have := (heap_set (heap_set (heap_set (heap_set (heap_set (heap_set (heap_set (heap_set h 0 v0) 1 v1) 2 v2) 3 v3) 4 v4) 5 v5) 6 v6) 7 v7)
    simpa using this
  · repeat (refine heap_set_other ?_ hk _)
    exact h
  · repeat (refine Below.setCell ?_ hn _)
    exact Below.refl _ _
theorem no_int8 {s t s' t' : Bool} {A B A' B' : Option Addr} {n c m e n' c' m' e' : Nat} : ∀ (o : Nat) (x : Int), (#[Value.bool s, .slice A n c, .bool t, .slice B m e, .bool s', .slice A' n' c', .bool t', .slice B' m' e'] : Array Value)[o]? ≠ some (Value.int .i64 x)
  | 0, _, h => by simp at h
  | 1, _, h => by simp at h
  | 2, _, h => by simp at h
  | 3, _, h => by simp at h
  | 4, _, h => by simp at h
  | 5, _, h => by simp at h
  | 6, _, h => by simp at h
  | 7, _, h => by simp at h
  | _ + 8, _, h => by simp at h
/-- A point of the references. -/
def PntAt (W : World) (v : Value) (n1 : Int) (k1 : Nat) (n2 : Int) (k2 : Nat) : Prop :=
  ∃ (A : Option Addr) (c : Nat) (B : Option Addr) (e : Nat) (A2 : Option Addr) (c2 : Nat) (B2 : Option Addr) (e2 : Nat), v = .agg #[.bool (ng n1), .slice A (dd (ab n1)).length c, .bool (ng (k1 : Int)), .slice B (dd (ab (k1 : Int))).length e, .bool (ng n2), .slice A2 (dd (ab n2)).length c2, .bool (ng (k2 : Int)), .slice B2 (dd (ab (k2 : Int))).length e2] ∧
    RatAt W (.agg #[.bool (ng n1), .slice A (dd (ab n1)).length c, .bool (ng (k1 : Int)), .slice B (dd (ab (k1 : Int))).length e]) n1 (k1 : Int) ∧ RatAt W (.agg #[.bool (ng n2), .slice A2 (dd (ab n2)).length c2, .bool (ng (k2 : Int)), .slice B2 (dd (ab (k2 : Int))).length e2]) n2 (k2 : Int)
theorem RatAt.other {W W' : World} {v : Value} {n d : Int} {b : Nat} {c : Array Value} {t : TypeId} {f : Nat × Nat} (h : RatAt W v n d) (hb : W.heap[b]? = some (.cells c t f)) (hn : ∀ (o : Nat) (x : Int), c[o]? ≠ some (Value.int .i64 x)) (ho : ∀ k o, k ≠ b → W.heap[k]? = some o → W'.heap[k]? = some o) : RatAt W' v n d := by
  obtain ⟨A, c, B, e, h1, h2, h3, h4, h5⟩ := h
  exact ⟨A, c, B, e, h1, h2, h3.other hb hn ho, h4, h5.other hb hn ho⟩
theorem PntAt.below {W W1 : World} {v : Value} {n1 n2 : Int} {k1 k2 : Nat} (h : PntAt W v n1 k1 n2 k2) (hb : Below W.heap.size W W1) : PntAt W1 v n1 k1 n2 k2 := by
  obtain ⟨A, c, B, e, A2, c2, B2, e2, h1, h2, h3⟩ := h
  exact ⟨A, c, B, e, A2, c2, B2, e2, h1, h2.below hb, h3.below hb⟩
theorem load_rpnt {W : World} {b : Nat} {cs : Array Value} {t : TypeId} {f : Nat × Nat} (h : W.heap[b]? = some (.cells cs t f)) (hs : cs.size = 8) : (loadVar 57 ⟨b, 0, none⟩).run Tryz.prog W = .ok (.agg cs) W :=
  run_loadVar_row W b t _ cs f _ h Tryz.underlying57 rfl (by rw [hs]; kernel_rfl)
set_option maxRecDepth 20000 in
set_option maxHeartbeats 2000000 in
theorem rpof_any (x y : Int) (hx : -9223372036854775808 ≤ x ∧ x ≤ 9223372036854775807) (hy : -9223372036854775808 ≤ y ∧ y ≤ 9223372036854775807) (w : World) :
    Calls Tryz.prog 60 #[.agg #[.int .i64 x, .int .i64 y]] w fun e w' => ∃ v, e = .returned v ∧ PntAt w' v x 1 y 1 ∧ Below w.heap.size w w' := by
  have HX := Hd.mk (fun w => rrnum_any x hx.1 hx.2 w)
  have HY := Hd.mk (fun w => rrnum_any y hy.1 hy.2 w)
  clear hx hy
  go_enter Tryz.func60, Tryz.ntmps60
  go_upto_region 1 with (fail)
  refine abs_wp (fun W => W.heap[w.heap.size]? = some (.cells #[.int .i64 x, .int .i64 y] 23 (0, 0)) ∧ W.heap[w.heap.size + 1]? = some (.cells #[.bool false, .slice none 0 0, .bool false, .slice none 0 0, .bool false, .slice none 0 0, .bool false, .slice none 0 0] 57 (0, 0)) ∧ Below w.heap.size w W) ⟨heap_old (heap_new _ _) _, heap_at (by simp) _, by focus (repeat (first | (with_reducible exact Below.refl _ _) | (with_reducible assumption) | ((with_reducible refine Below.setCell ?_ ?_ _); rotate_left; (focus (first | omega | (simp; done) | (simp; omega)))) | ((with_reducible refine Below.alloc ?_ ?_ _); rotate_left; (focus (first | omega | (simp; done) | (simp; omega)))) | (with_reducible refine Below.drew ?_) | (refine below_on ?_ (by assumption))))⟩ fun W ⟨z0, z1, hB⟩ => ?_
  have HS : Hd (∀ W', Below (w.heap.size + 1) W W' → W'.cell? ⟨w.heap.size, 0, none⟩ = some (.int .i64 x) ∧ W'.cell? ⟨w.heap.size, 1, none⟩ = some (.int .i64 y)) := ⟨fun W' h => ⟨(h.cell (Nat.lt_succ_self _)).trans (cell_at z0 0), (h.cell (Nat.lt_succ_self _)).trans (cell_at z0 1)⟩⟩
  have hD0 : Below (w.heap.size + 1) W W.drew := Below.drew (Below.refl _ _)
  have hB0 : Below w.heap.size w W.drew := Below.drew hB
  have y1 : W.drew.heap[w.heap.size + 1]? = some (.cells #[.bool false, .slice none 0 0, .bool false, .slice none 0 0, .bool false, .slice none 0 0, .bool false, .slice none 0 0] 57 (0, 0)) := z1
  have hsz : w.heap.size + 1 ≤ W.heap.size := Nat.le_of_lt (lt_of_block z1)
  clear z0 z1 hB
  go_region_held3 (fun W' => W'.cell? ⟨w.heap.size, 0, none⟩ = some (.int .i64 x) ∧ W'.cell? ⟨w.heap.size, 1, none⟩ = some (.int .i64 y)) ((exact HS.out _ (by focus (repeat (first | (with_reducible exact Below.refl _ _) | (with_reducible assumption) | ((with_reducible refine Below.setCell ?_ ?_ _); rotate_left; (focus (first | omega | (simp; done) | (simp; omega)))) | ((with_reducible refine Below.alloc ?_ ?_ _); rotate_left; (focus (first | omega | (simp; done) | (simp; omega)))) | (with_reducible refine Below.drew ?_) | (refine below_on ?_ (by assumption)))))))
    ((first
      | (go_at_call 43; have hq := hV1; clear hq; refine (HY.out _).mono ?_; rintro e1 wb ⟨v2, rfl, ⟨A2, c2, B2, e2, rfl, g2⟩, hb⟩; have hR2 : RatAt wb _ y 1 := ⟨A2, c2, B2, e2, rfl, g2⟩; have hR1 := hR1.below hb; have hD2 := below_upw hsz hD1 hb; have hB2 := below_on hB1 hb; have y3 := heap_below hb y2; have q1 := cell_at y3; have q2 := frozen_at y3; clear hb)
      | (go_at_call 43; refine (HX.out _).mono ?_; rintro e1 wa ⟨v1, rfl, ⟨A, c, B, e, rfl, g1⟩, hb⟩; have hR1 : RatAt wa _ x 1 := ⟨A, c, B, e, rfl, g1⟩; have hV1 := True.intro; have hD1 := below_upw hsz hD0 hb; have hB1 := below_on hB0 hb; have y2 := heap_below hb y1; clear hb)))
  obtain ⟨l1, l2, l3⟩ := laid_8 (w.heap.size + 1) wb (.bool (ng x)) (.slice A (dd (ab x)).length c) (.bool (ng 1)) (.slice B (dd (ab 1)).length e) (.bool (ng y)) (.slice A2 (dd (ab y)).length c2) (.bool (ng 1)) (.slice B2 (dd (ab 1)).length e2)
  have HR := Hd.mk (And.intro (hR1.other y3 no_int8 l2) (hR2.other y3 no_int8 l2))
  have hF := hB2.trans (l3 _ (by omega))
  have k1 := l1 y3 rfl
  clear l1 l2 l3 HS hD0 hB0 y1 hV1 hD1 hB1 y2 g1 g2 hR1 hR2 hD2 hB2 y3 q1 q2
  generalize ((((((((wb.setCell ⟨w.heap.size + 1, 0, none⟩ (.bool (ng x))).setCell ⟨w.heap.size + 1, 1, none⟩ (.slice A (dd (ab x)).length c)).setCell ⟨w.heap.size + 1, 2, none⟩ (.bool (ng 1))).setCell ⟨w.heap.size + 1, 3, none⟩ (.slice B (dd (ab 1)).length e)).setCell ⟨w.heap.size + 1, 4, none⟩ (.bool (ng y))).setCell ⟨w.heap.size + 1, 5, none⟩ (.slice A2 (dd (ab y)).length c2)).setCell ⟨w.heap.size + 1, 6, none⟩ (.bool (ng 1))).setCell ⟨w.heap.size + 1, 7, none⟩ (.slice B2 (dd (ab 1)).length e2)) = wz at *
  go_wp2
  refine bodyPost_ret (by simp [results, Tryz.results60, asAddr, load_rpnt k1 rfl] <;> rfl) rfl ⟨_, rfl, ⟨A, c, B, e, A2, c2, B2, e2, rfl, HR.out.1, HR.out.2⟩, hF⟩
set_option maxRecDepth 20000 in
set_option maxHeartbeats 4000000 in
theorem rpout_ok (n1 : Int) (k1 : Nat) (n2 : Int) (k2 : Nat) (h1 : ab n1 < 2 ^ 96) (h2 : k1 < 2 ^ 64) (h3 : ab n2 < 2 ^ 96) (h4 : k2 < 2 ^ 64) (u : Value) (w : World) (hu : PntAt w u n1 k1 n2 k2) :
    Calls Tryz.prog 61 #[u] w fun e w' => e = .returned (.tuple #[.agg #[.bool (ng (n1)), .int .u64 (dg (ab (n1)) 0), .int .u64 (dg (ab (n1)) 1), .int .u64 (dg (ab (n1)) 2), .int .u64 (dg (ab (n1)) 3), .bool false, .int .u64 (dg (k1) 0), .int .u64 (dg (k1) 1), .int .u64 (dg (k1) 2), .int .u64 (dg (k1) 3), .bool (ng (n2)), .int .u64 (dg (ab (n2)) 0), .int .u64 (dg (ab (n2)) 1), .int .u64 (dg (ab (n2)) 2), .int .u64 (dg (ab (n2)) 3), .bool false, .int .u64 (dg (k2) 0), .int .u64 (dg (k2) 1), .int .u64 (dg (k2) 2), .int .u64 (dg (k2) 3)], .int .i64 0]) ∧ Below w.heap.size w w' := by
  have HA : Hd (∀ (v : Value) (w : World), RatAt w v n1 (k1 : Int) → Calls Tryz.prog 41 #[v] w fun e w' => e = .returned (.tuple #[.agg #[.bool (ng (n1)), .int .u64 (dg (ab (n1)) 0), .int .u64 (dg (ab (n1)) 1), .int .u64 (dg (ab (n1)) 2), .int .u64 (dg (ab (n1)) 3), .bool false, .int .u64 (dg (k1) 0), .int .u64 (dg (k1) 1), .int .u64 (dg (k1) 2), .int .u64 (dg (k1) 3)], .int .i64 0]) ∧ Below w.heap.size w w') := ⟨fun v w h => rrout_ok n1 k1 (lt_pow_of h1 (by decide)) (lt_pow_of h2 (by decide)) v w h⟩
  have HB : Hd (∀ (v : Value) (w : World), RatAt w v n2 (k2 : Int) → Calls Tryz.prog 41 #[v] w fun e w' => e = .returned (.tuple #[.agg #[.bool (ng (n2)), .int .u64 (dg (ab (n2)) 0), .int .u64 (dg (ab (n2)) 1), .int .u64 (dg (ab (n2)) 2), .int .u64 (dg (ab (n2)) 3), .bool false, .int .u64 (dg (k2) 0), .int .u64 (dg (k2) 1), .int .u64 (dg (k2) 2), .int .u64 (dg (k2) 3)], .int .i64 0]) ∧ Below w.heap.size w w') := ⟨fun v w h => rrout_ok n2 k2 (lt_pow_of h3 (by decide)) (lt_pow_of h4 (by decide)) v w h⟩
  have HF1 : Hd (∀ (v : Value) (w : World), RatAt w v n1 (k1 : Int) → Calls Tryz.prog 54 #[v] w fun e w' => e = .returned (.bool true) ∧ Below w.heap.size w w') := ⟨fun v w h => by
    have g := rfits_any n1 k1 v w h
    rw [(rfits_iff n1 k1).2 ⟨h1, h2⟩] at g
    exact g⟩
  have HF2 : Hd (∀ (v : Value) (w : World), RatAt w v n2 (k2 : Int) → Calls Tryz.prog 54 #[v] w fun e w' => e = .returned (.bool true) ∧ Below w.heap.size w w') := ⟨fun v w h => by
    have g := rfits_any n2 k2 v w h
    rw [(rfits_iff n2 k2).2 ⟨h3, h4⟩] at g
    exact g⟩
  obtain ⟨A, c, B, e, A2, c2, B2, e2, rfl, hr1, hr2⟩ := hu
  have HR := Hd.mk (And.intro hr1 hr2)
  clear h1 h2 h3 h4 hr1 hr2
  go_enter Tryz.func61, Tryz.ntmps61
  go_wp2_with fail
  refine (HA.out _ _ (HR.out.1.below (by focus (repeat (first | (with_reducible exact Below.refl _ _) | (with_reducible assumption) | ((with_reducible refine Below.setCell ?_ ?_ _); rotate_left; (focus (first | omega | (simp; done) | (simp; omega)))) | ((with_reducible refine Below.alloc ?_ ?_ _); rotate_left; (focus (first | omega | (simp; done) | (simp; omega)))) | (with_reducible refine Below.drew ?_) | (refine below_on ?_ (by assumption))))))).mono ?_
  rintro x1 w1 ⟨rfl, hb⟩
  have z0 := heap_below hb (heap_old (heap_new w (.cells #[.bool (ng n1), .slice A (dd (ab n1)).length c, .bool (ng (k1 : Int)), .slice B (dd (ab (k1 : Int))).length e, .bool (ng n2), .slice A2 (dd (ab n2)).length c2, .bool (ng (k2 : Int)), .slice B2 (dd (ab (k2 : Int))).length e2] 57)) _)
  have z1 := heap_below hb (heap_at (n := w.heap.size + 1) (by simp) (.cells #[.bool false, .int .u64 0, .int .u64 0, .int .u64 0, .int .u64 0, .bool false, .int .u64 0, .int .u64 0, .int .u64 0, .int .u64 0, .bool false, .int .u64 0, .int .u64 0, .int .u64 0, .int .u64 0, .bool false, .int .u64 0, .int .u64 0, .int .u64 0, .int .u64 0] 46))
  have hB : Below w.heap.size w w1 := below_on (by focus (repeat (first | (with_reducible exact Below.refl _ _) | (with_reducible assumption) | ((with_reducible refine Below.setCell ?_ ?_ _); rotate_left; (focus (first | omega | (simp; done) | (simp; omega)))) | ((with_reducible refine Below.alloc ?_ ?_ _); rotate_left; (focus (first | omega | (simp; done) | (simp; omega)))) | (with_reducible refine Below.drew ?_) | (refine below_on ?_ (by assumption))))) hb
  clear hb
  have s1 := lt_of_block z1
  go_upto_region 2 with (refine wpList_store_block rfl 44 (.tmp 4) (.tmp 12) rfl w1.heap.size #[.bool (ng (n1)), .int .u64 (dg (ab (n1)) 0), .int .u64 (dg (ab (n1)) 1), .int .u64 (dg (ab (n1)) 2), .int .u64 (dg (ab (n1)) 3), .bool false, .int .u64 (dg (k1) 0), .int .u64 (dg (k1) 1), .int .u64 (dg (k1) 2), .int .u64 (dg (k1) 3)] rfl rfl (heap_new _ _) rfl (by kernel_rfl) rfl ?_; rintro W3 ⟨q1, q2, q3⟩)
  refine abs_wp (fun W => W.heap[w.heap.size]? = some (.cells #[.bool (ng n1), .slice A (dd (ab n1)).length c, .bool (ng (k1 : Int)), .slice B (dd (ab (k1 : Int))).length e, .bool (ng n2), .slice A2 (dd (ab n2)).length c2, .bool (ng (k2 : Int)), .slice B2 (dd (ab (k2 : Int))).length e2] 57 (0, 0)) ∧ W.heap[w.heap.size + 1]? = some (.cells #[.bool false, .int .u64 0, .int .u64 0, .int .u64 0, .int .u64 0, .bool false, .int .u64 0, .int .u64 0, .int .u64 0, .int .u64 0, .bool false, .int .u64 0, .int .u64 0, .int .u64 0, .int .u64 0, .bool false, .int .u64 0, .int .u64 0, .int .u64 0, .int .u64 0] 46 (0, 0)) ∧ W.heap[w1.heap.size]? = some (.cells #[.bool (ng (n1)), .int .u64 (dg (ab (n1)) 0), .int .u64 (dg (ab (n1)) 1), .int .u64 (dg (ab (n1)) 2), .int .u64 (dg (ab (n1)) 3), .bool false, .int .u64 (dg (k1) 0), .int .u64 (dg (k1) 1), .int .u64 (dg (k1) 2), .int .u64 (dg (k1) 3)] 44 (0, 0)) ∧ Below w.heap.size w W) ⟨q2 _ _ (by omega) (heap_old z0 _), q2 _ _ (by omega) (heap_old z1 _), q1, (Below.alloc hB hB.size _).trans (q3 _ hB.size)⟩ fun W ⟨y0, y1, y2, hB2⟩ => ?_
  obtain ⟨b1, hb1⟩ : ∃ b1, b1 = w1.heap.size := ⟨_, rfl⟩
  rw [← hb1] at y2 s1 ⊢
  clear z0 z1 hB hb1 q1 q2 q3
  generalize (Value.tuple #[.agg #[.bool (ng (n1)), .int .u64 (dg (ab (n1)) 0), .int .u64 (dg (ab (n1)) 1), .int .u64 (dg (ab (n1)) 2), .int .u64 (dg (ab (n1)) 3), .bool false, .int .u64 (dg (k1) 0), .int .u64 (dg (k1) 1), .int .u64 (dg (k1) 2), .int .u64 (dg (k1) 3)], .int .i64 0]) = T1
  generalize (.agg #[.bool (ng (n1)), .int .u64 (dg (ab (n1)) 0), .int .u64 (dg (ab (n1)) 1), .int .u64 (dg (ab (n1)) 2), .int .u64 (dg (ab (n1)) 3), .bool false, .int .u64 (dg (k1) 0), .int .u64 (dg (k1) 1), .int .u64 (dg (k1) 2), .int .u64 (dg (k1) 3)] : Value) = V1
  have c0 := cell_at y0
  go_wp2_with fail
  refine (HB.out _ _ (HR.out.2.below hB2)).mono ?_
  rintro x1 w3 ⟨rfl, hb⟩
  have z0 := heap_below hb y0
  have z1 := heap_below hb y1
  have z2 := heap_below hb y2
  have hB3 := below_on hB2 hb
  clear hb y0 y1 y2 hB2 c0
  have s3 := lt_of_block z2
  go_upto_region 3 with (refine wpList_store_block rfl 44 (.tmp 6) (.tmp 18) rfl w3.heap.size #[.bool (ng (n2)), .int .u64 (dg (ab (n2)) 0), .int .u64 (dg (ab (n2)) 1), .int .u64 (dg (ab (n2)) 2), .int .u64 (dg (ab (n2)) 3), .bool false, .int .u64 (dg (k2) 0), .int .u64 (dg (k2) 1), .int .u64 (dg (k2) 2), .int .u64 (dg (k2) 3)] rfl rfl (heap_new _ _) rfl (by kernel_rfl) rfl ?_; rintro W3 ⟨q1, q2, q3⟩)
  refine abs_wp (fun W => W.heap[w.heap.size]? = some (.cells #[.bool (ng n1), .slice A (dd (ab n1)).length c, .bool (ng (k1 : Int)), .slice B (dd (ab (k1 : Int))).length e, .bool (ng n2), .slice A2 (dd (ab n2)).length c2, .bool (ng (k2 : Int)), .slice B2 (dd (ab (k2 : Int))).length e2] 57 (0, 0)) ∧ W.heap[w.heap.size + 1]? = some (.cells #[.bool false, .int .u64 0, .int .u64 0, .int .u64 0, .int .u64 0, .bool false, .int .u64 0, .int .u64 0, .int .u64 0, .int .u64 0, .bool false, .int .u64 0, .int .u64 0, .int .u64 0, .int .u64 0, .bool false, .int .u64 0, .int .u64 0, .int .u64 0, .int .u64 0] 46 (0, 0)) ∧ W.heap[b1]? = some (.cells #[.bool (ng (n1)), .int .u64 (dg (ab (n1)) 0), .int .u64 (dg (ab (n1)) 1), .int .u64 (dg (ab (n1)) 2), .int .u64 (dg (ab (n1)) 3), .bool false, .int .u64 (dg (k1) 0), .int .u64 (dg (k1) 1), .int .u64 (dg (k1) 2), .int .u64 (dg (k1) 3)] 44 (0, 0)) ∧ W.heap[w3.heap.size]? = some (.cells #[.bool (ng (n2)), .int .u64 (dg (ab (n2)) 0), .int .u64 (dg (ab (n2)) 1), .int .u64 (dg (ab (n2)) 2), .int .u64 (dg (ab (n2)) 3), .bool false, .int .u64 (dg (k2) 0), .int .u64 (dg (k2) 1), .int .u64 (dg (k2) 2), .int .u64 (dg (k2) 3)] 44 (0, 0)) ∧ Below w.heap.size w W) ⟨q2 _ _ (by omega) (heap_old z0 _), q2 _ _ (by omega) (heap_old z1 _), q2 _ _ (by have := lt_of_block z2; omega) (heap_old z2 _), q1, (Below.alloc hB3 hB3.size _).trans (q3 _ hB3.size)⟩ fun W ⟨y0, y1, y2, y3, hB4⟩ => ?_
  obtain ⟨b3, hb3⟩ : ∃ b3, b3 = w3.heap.size := ⟨_, rfl⟩
  rw [← hb3] at y3 s3 ⊢
  clear z0 z1 z2 hB3 hb3 q1 q2 q3
  generalize (Value.tuple #[.agg #[.bool (ng (n2)), .int .u64 (dg (ab (n2)) 0), .int .u64 (dg (ab (n2)) 1), .int .u64 (dg (ab (n2)) 2), .int .u64 (dg (ab (n2)) 3), .bool false, .int .u64 (dg (k2) 0), .int .u64 (dg (k2) 1), .int .u64 (dg (k2) 2), .int .u64 (dg (k2) 3)], .int .i64 0]) = T2
  generalize (.agg #[.bool (ng (n2)), .int .u64 (dg (ab (n2)) 0), .int .u64 (dg (ab (n2)) 1), .int .u64 (dg (ab (n2)) 2), .int .u64 (dg (ab (n2)) 3), .bool false, .int .u64 (dg (k2) 0), .int .u64 (dg (k2) 1), .int .u64 (dg (k2) 2), .int .u64 (dg (k2) 3)] : Value) = V2
  have c0 := cell_at y0
  go_wp2_with fail
  refine (HF1.out _ _ (HR.out.1.below hB4)).mono ?_
  rintro x1 w5 ⟨rfl, hb⟩
  have z0 := heap_below hb y0
  have z1 := heap_below hb y1
  have z2 := heap_below hb y2
  have z3 := heap_below hb y3
  have hB5 := below_on hB4 hb
  clear hb y0 y1 y2 y3 hB4 c0
  have c0 := cell_at z0
  go_wp2_with fail
  refine (HF2.out _ _ (HR.out.2.below hB5)).mono ?_
  rintro x1 w6 ⟨rfl, hb⟩
  have y1 := heap_below hb z1
  have y2 := heap_below hb z2
  have y3 := heap_below hb z3
  have hB6 := below_on hB5 hb
  clear hb z0 z1 z2 z3 hB5 c0
  have c2 := cell_at y2
  have c3 := cell_at y3
  go_wp2_with (refine wpList_store_block rfl 46 (.tmp 2) (.tmp 41) rfl (w.heap.size + 1) #[.bool (ng (n1)), .int .u64 (dg (ab (n1)) 0), .int .u64 (dg (ab (n1)) 1), .int .u64 (dg (ab (n1)) 2), .int .u64 (dg (ab (n1)) 3), .bool false, .int .u64 (dg (k1) 0), .int .u64 (dg (k1) 1), .int .u64 (dg (k1) 2), .int .u64 (dg (k1) 3), .bool (ng (n2)), .int .u64 (dg (ab (n2)) 0), .int .u64 (dg (ab (n2)) 1), .int .u64 (dg (ab (n2)) 2), .int .u64 (dg (ab (n2)) 3), .bool false, .int .u64 (dg (k2) 0), .int .u64 (dg (k2) 1), .int .u64 (dg (k2) 2), .int .u64 (dg (k2) 3)] rfl rfl y1 rfl (by kernel_rfl) rfl ?_; rintro W2 ⟨j1, j2, j3⟩; have hF := hB6.trans (j3 _ (by omega)); clear y1 y2 y3 hB6 j2 j3 c2 c3)
  refine bodyPost_ret (by simp [results, Tryz.results61, asAddr, load_point j1 rfl] <;> rfl) rfl ⟨rfl, hF⟩
set_option maxRecDepth 20000 in
set_option maxHeartbeats 2000000 in
theorem law_at (nx ny : Int) (hx : -67108864 ≤ nx ∧ nx ≤ 67108864) (hy : -67108864 ≤ ny ∧ ny ≤ 67108864) (w : World) :
    Calls Tryz.prog 35 #[.int .i64 nx, .int .i64 ny] w fun e w' => e = .returned (.agg #[.bool (ng (nx)), .int .u64 (dg (ab (nx)) 0), .int .u64 (dg (ab (nx)) 1), .int .u64 (dg (ab (nx)) 2), .int .u64 (dg (ab (nx)) 3), .bool false, .int .u64 (dg (1) 0), .int .u64 (dg (1) 1), .int .u64 (dg (1) 2), .int .u64 (dg (1) 3), .bool (ng (ny)), .int .u64 (dg (ab (ny)) 0), .int .u64 (dg (ab (ny)) 1), .int .u64 (dg (ab (ny)) 2), .int .u64 (dg (ab (ny)) 3), .bool false, .int .u64 (dg (1) 0), .int .u64 (dg (1) 1), .int .u64 (dg (1) 2), .int .u64 (dg (1) 3)]) ∧ Below w.heap.size w w' := by
  have HO := Hd.mk (fun w => rpof_any nx ny (by omega) (by omega) w)
  have HU := Hd.mk (fun u w h => rpout_ok nx 1 ny 1 (by unfold ab; omega) (by decide) (by unfold ab; omega) (by decide) u w h)
  clear hx hy
  go_enter Tryz.func35, Tryz.ntmps35
  go_wp2_with fail
  refine (HO.out _).mono ?_
  rintro x1 w1 ⟨v, rfl, hv, hb⟩
  have z0 := heap_below hb (heap_new w (.cells #[.bool false, .int .u64 0, .int .u64 0, .int .u64 0, .int .u64 0, .bool false, .int .u64 0, .int .u64 0, .int .u64 0, .int .u64 0, .bool false, .int .u64 0, .int .u64 0, .int .u64 0, .int .u64 0, .bool false, .int .u64 0, .int .u64 0, .int .u64 0, .int .u64 0] 46))
  have hB : Below w.heap.size w w1 := below_on (by focus (repeat (first | (with_reducible exact Below.refl _ _) | (with_reducible assumption) | ((with_reducible refine Below.setCell ?_ ?_ _); rotate_left; (focus (first | omega | (simp; done) | (simp; omega)))) | ((with_reducible refine Below.alloc ?_ ?_ _); rotate_left; (focus (first | omega | (simp; done) | (simp; omega)))) | (with_reducible refine Below.drew ?_) | (refine below_on ?_ (by assumption))))) hb
  have HP := Hd.mk hv
  clear hb hv
  go_wp2_with fail
  refine (HU.out _ _ HP.out).mono ?_
  rintro x1 w2 ⟨rfl, hb⟩
  have z1 := heap_below hb z0
  have hB2 := below_on hB hb
  clear hb z0 hB HP
  have s1 := lt_of_block z1
  go_upto_region 2 with (refine wpList_store_block rfl 46 (.tmp 5) (.tmp 13) rfl w2.heap.size #[.bool (ng (nx)), .int .u64 (dg (ab (nx)) 0), .int .u64 (dg (ab (nx)) 1), .int .u64 (dg (ab (nx)) 2), .int .u64 (dg (ab (nx)) 3), .bool false, .int .u64 (dg (1) 0), .int .u64 (dg (1) 1), .int .u64 (dg (1) 2), .int .u64 (dg (1) 3), .bool (ng (ny)), .int .u64 (dg (ab (ny)) 0), .int .u64 (dg (ab (ny)) 1), .int .u64 (dg (ab (ny)) 2), .int .u64 (dg (ab (ny)) 3), .bool false, .int .u64 (dg (1) 0), .int .u64 (dg (1) 1), .int .u64 (dg (1) 2), .int .u64 (dg (1) 3)] rfl rfl (heap_new _ _) rfl (by kernel_rfl) rfl ?_; rintro W3 ⟨q1, q2, q3⟩)
  refine abs_wp (fun W => W.heap[w.heap.size]? = some (.cells #[.bool false, .int .u64 0, .int .u64 0, .int .u64 0, .int .u64 0, .bool false, .int .u64 0, .int .u64 0, .int .u64 0, .int .u64 0, .bool false, .int .u64 0, .int .u64 0, .int .u64 0, .int .u64 0, .bool false, .int .u64 0, .int .u64 0, .int .u64 0, .int .u64 0] 46 (0, 0)) ∧ W.heap[w2.heap.size]? = some (.cells #[.bool (ng (nx)), .int .u64 (dg (ab (nx)) 0), .int .u64 (dg (ab (nx)) 1), .int .u64 (dg (ab (nx)) 2), .int .u64 (dg (ab (nx)) 3), .bool false, .int .u64 (dg (1) 0), .int .u64 (dg (1) 1), .int .u64 (dg (1) 2), .int .u64 (dg (1) 3), .bool (ng (ny)), .int .u64 (dg (ab (ny)) 0), .int .u64 (dg (ab (ny)) 1), .int .u64 (dg (ab (ny)) 2), .int .u64 (dg (ab (ny)) 3), .bool false, .int .u64 (dg (1) 0), .int .u64 (dg (1) 1), .int .u64 (dg (1) 2), .int .u64 (dg (1) 3)] 46 (0, 0)) ∧ Below w.heap.size w W) ⟨q2 _ _ (by omega) (heap_old z1 _), q1, (Below.alloc hB2 hB2.size _).trans (q3 _ hB2.size)⟩ fun W ⟨y0, y1, hB3⟩ => ?_
  clear z1 hB2 q1 q2 q3
  generalize (Value.tuple #[.agg #[.bool (ng (nx)), .int .u64 (dg (ab (nx)) 0), .int .u64 (dg (ab (nx)) 1), .int .u64 (dg (ab (nx)) 2), .int .u64 (dg (ab (nx)) 3), .bool false, .int .u64 (dg (1) 0), .int .u64 (dg (1) 1), .int .u64 (dg (1) 2), .int .u64 (dg (1) 3), .bool (ng (ny)), .int .u64 (dg (ab (ny)) 0), .int .u64 (dg (ab (ny)) 1), .int .u64 (dg (ab (ny)) 2), .int .u64 (dg (ab (ny)) 3), .bool false, .int .u64 (dg (1) 0), .int .u64 (dg (1) 1), .int .u64 (dg (1) 2), .int .u64 (dg (1) 3)], .int .i64 0]) = T1
  generalize (Value.agg #[.bool (ng (nx)), .int .u64 (dg (ab (nx)) 0), .int .u64 (dg (ab (nx)) 1), .int .u64 (dg (ab (nx)) 2), .int .u64 (dg (ab (nx)) 3), .bool false, .int .u64 (dg (1) 0), .int .u64 (dg (1) 1), .int .u64 (dg (1) 2), .int .u64 (dg (1) 3), .bool (ng (ny)), .int .u64 (dg (ab (ny)) 0), .int .u64 (dg (ab (ny)) 1), .int .u64 (dg (ab (ny)) 2), .int .u64 (dg (ab (ny)) 3), .bool false, .int .u64 (dg (1) 0), .int .u64 (dg (1) 1), .int .u64 (dg (1) 2), .int .u64 (dg (1) 3)]) = V1
  go_wp2_with (first
    | (refine wpList_load_point (.tmp 5) rfl rfl _ rfl y1 rfl ?_)
    | (refine wpList_store_block rfl 46 (.tmp 4) (.tmp 15) rfl w.heap.size #[.bool (ng (nx)), .int .u64 (dg (ab (nx)) 0), .int .u64 (dg (ab (nx)) 1), .int .u64 (dg (ab (nx)) 2), .int .u64 (dg (ab (nx)) 3), .bool false, .int .u64 (dg (1) 0), .int .u64 (dg (1) 1), .int .u64 (dg (1) 2), .int .u64 (dg (1) 3), .bool (ng (ny)), .int .u64 (dg (ab (ny)) 0), .int .u64 (dg (ab (ny)) 1), .int .u64 (dg (ab (ny)) 2), .int .u64 (dg (ab (ny)) 3), .bool false, .int .u64 (dg (1) 0), .int .u64 (dg (1) 1), .int .u64 (dg (1) 2), .int .u64 (dg (1) 3)] rfl rfl y0 rfl (by kernel_rfl) rfl ?_; rintro W2 ⟨k1, k2, k3⟩; have hF := hB3.trans (k3 _ (Nat.le_refl _)); clear y0 y1 hB3 k2 k3))
  refine bodyPost_ret (by simp [results, Tryz.results35, asAddr, Act.put, load_point k1 rfl] <;> rfl) rfl ⟨rfl, hF⟩
end Go.Proofs.YtbhfnfokihdjjaaGreatDoor
