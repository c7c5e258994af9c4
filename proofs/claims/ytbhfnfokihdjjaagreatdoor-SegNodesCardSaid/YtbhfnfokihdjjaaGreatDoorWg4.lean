/-
  Plain laws: on which side of a line a point is, by cross products. Conditions stand in each theorem.
-/
import Derived.Test.YtbhfnfokihdjjaaGreatDoorBk
import Derived.Test.YtbhfnfokihdjjaaGreatDoorWf5
import Derived.Test.YtbhfnfokihdjjaaGreatDoorSg10
namespace Go.Proofs.YtbhfnfokihdjjaaGreatDoor
open Go.RowKit Go.BigFrame

theorem rat_of_w (n : Int) (h1 : -9223372036854775808 ≤ n) (h2 : n < 9223372036854775808) (w : World) :
    Calls Tryz.prog 83 #[.int .i64 n] w fun e w' => e = .returned (.agg #[.bool (ng (n)), .int .u64 (dg (ab (n)) 0), .int .u64 (dg (ab (n)) 1), .int .u64 (dg (ab (n)) 2), .int .u64 (dg (ab (n)) 3), .bool false, .int .u64 (dg (1) 0), .int .u64 (dg (1) 1), .int .u64 (dg (1) 2), .int .u64 (dg (1) 3)]) ∧ Below w.heap.size w w' := rat_of n h1 h2 w
theorem load_point {W : World} {b : Nat} {cs : Array Value} {t : TypeId} {f : Nat × Nat} (h : W.heap[b]? = some (.cells cs t f)) (hs : cs.size = 20) : (loadVar 46 ⟨b, 0, none⟩).run Tryz.prog W = .ok (.agg cs) W :=
  run_loadVar_row W b t _ cs f _ h Tryz.underlying46 rfl (by rw [hs]; kernel_rfl)
theorem loadAt_point {W : World} {b : Nat} {cs : Array Value} {t : TypeId} {f : Nat × Nat} (h : W.heap[b]? = some (.cells cs t f)) (hs : cs.size = 20) : (Instr.loadAt 46 (.pointer (some ⟨b, 0, none⟩))).run Tryz.prog W = .ok (.agg cs) W := by
  simp only [Instr.loadAt, Instr.sureAddr, Sem.run_bind, Sem.run_pure, Result.andThen_ok, load_point h hs]
set_option maxRecDepth 20000 in
set_option maxHeartbeats 2000000 in
theorem point_of_ok (nx ny : Int) (hn : nodeB nx ny = true) (w : World) :
    Calls Tryz.prog 51 #[.agg #[.int .i64 nx, .int .i64 ny]] w fun e w' => e = .returned (.tuple #[.agg #[.bool (ng (nx)), .int .u64 (dg (ab (nx)) 0), .int .u64 (dg (ab (nx)) 1), .int .u64 (dg (ab (nx)) 2), .int .u64 (dg (ab (nx)) 3), .bool false, .int .u64 (dg (1) 0), .int .u64 (dg (1) 1), .int .u64 (dg (1) 2), .int .u64 (dg (1) 3), .bool (ng (ny)), .int .u64 (dg (ab (ny)) 0), .int .u64 (dg (ab (ny)) 1), .int .u64 (dg (ab (ny)) 2), .int .u64 (dg (ab (ny)) 3), .bool false, .int .u64 (dg (1) 0), .int .u64 (dg (1) 1), .int .u64 (dg (1) 2), .int .u64 (dg (1) 3)], .int .i64 0]) ∧ Below w.heap.size w w' := by
  obtain ⟨⟨a1, a2⟩, a3, a4⟩ := node_range hn
  have HC := Hd.mk (fun w => pcheck_v nx ny true hn w)
  have HO : Hd (∀ n, (n = nx ∨ n = ny) → ∀ w, Calls Tryz.prog 83 #[.int .i64 n] w fun e w' => e = .returned (.agg #[.bool (ng (n)), .int .u64 (dg (ab (n)) 0), .int .u64 (dg (ab (n)) 1), .int .u64 (dg (ab (n)) 2), .int .u64 (dg (ab (n)) 3), .bool false, .int .u64 (dg (1) 0), .int .u64 (dg (1) 1), .int .u64 (dg (1) 2), .int .u64 (dg (1) 3)]) ∧ Below w.heap.size w w') := ⟨by
    rintro n (rfl | rfl) w
    · exact rat_of_w _ (by omega) (by omega) w
    · exact rat_of_w _ (by omega) (by omega) w⟩
  clear a1 a2 a3 a4 hn
  go_enter Tryz.func51, Tryz.ntmps51
  go_wp2_with fail
  refine (HC.out _).mono ?_
  rintro e w1 ⟨rfl, hb⟩
  have z0 := heap_below hb (heap_old (heap_new w (.cells #[.int .i64 nx, .int .i64 ny] 23)) _)
  have z1 := heap_below hb (heap_at (n := w.heap.size + 1) (by simp) (.cells #[.bool false, .int .u64 0, .int .u64 0, .int .u64 0, .int .u64 0, .bool false, .int .u64 0, .int .u64 0, .int .u64 0, .int .u64 0, .bool false, .int .u64 0, .int .u64 0, .int .u64 0, .int .u64 0, .bool false, .int .u64 0, .int .u64 0, .int .u64 0, .int .u64 0] 46))
  have hB : Below w.heap.size w w1 := below_on (by focus (repeat (first | (with_reducible exact Below.refl _ _) | (with_reducible assumption) | ((with_reducible refine Below.setCell ?_ ?_ _); rotate_left; (focus (first | omega | (simp; done) | (simp; omega)))) | ((with_reducible refine Below.alloc ?_ ?_ _); rotate_left; (focus (first | omega | (simp; done) | (simp; omega)))) | (with_reducible refine Below.drew ?_) | (refine below_on ?_ (by assumption))))) hb
  clear hb
  go_upto_region 4 with (fail)
  refine region_qt 7 (by kernel_rfl) (by kernel_rfl) fun X _ mk hmk hcl => ?_
  have c0 := mk_cell hmk z0
  simp only [List.take_succ_cons, List.take_zero, List.drop_succ_cons, List.drop_zero]
  repeat (go_big_quiet_step ((go_at_call 83; exact (HO.out _ (by first | (with_reducible exact Or.inl rfl) | (with_reducible exact Or.inr rfl)) _).mono fun e w' h => ⟨h.1, hcl _ _ h.2⟩)))
  refine wpQuiet_nil ?_
  rintro _ ⟨x, rfl⟩
  clear c0
  have hx := hmk x
  clear hcl hmk
  generalize mk x = W1 at hx
  have y1 := heap_below hx z1
  have hB1 := below_on hB hx
  clear hx z0 z1 hB
  refine wpList_store_block rfl 46 (.tmp 2) (.tmp 17) rfl (w.heap.size + 1) #[.bool (ng (nx)), .int .u64 (dg (ab (nx)) 0), .int .u64 (dg (ab (nx)) 1), .int .u64 (dg (ab (nx)) 2), .int .u64 (dg (ab (nx)) 3), .bool false, .int .u64 (dg (1) 0), .int .u64 (dg (1) 1), .int .u64 (dg (1) 2), .int .u64 (dg (1) 3), .bool (ng (ny)), .int .u64 (dg (ab (ny)) 0), .int .u64 (dg (ab (ny)) 1), .int .u64 (dg (ab (ny)) 2), .int .u64 (dg (ab (ny)) 3), .bool false, .int .u64 (dg (1) 0), .int .u64 (dg (1) 1), .int .u64 (dg (1) 2), .int .u64 (dg (1) 3)] rfl rfl y1 rfl (by kernel_rfl) rfl ?_
  rintro W2 ⟨k1, _, k3⟩
  have hB2 := hB1.trans (k3 _ (Nat.le_succ _))
  clear y1 hB1 k3
  go_wp2
  refine bodyPost_ret (by simp [results, Tryz.results51, asAddr, load_point k1 rfl]) rfl ⟨rfl, hB2⟩
/-- A point that may be. -/
structure Pt (X : Int) (D : Nat) (Y : Int) (E : Nat) : Prop where
  x : Rt 96 X D
  y : Rt 96 Y E
  dx : D < 2 ^ 64
  dy : E < 2 ^ 64
theorem fits_true {a b : Nat} (ha : a < 2 ^ 96) (hb : b < 2 ^ 64) : fitsB a b = true := (fits_iff (lt_pow_of ha (by decide)) (lt_pow_of hb (by decide))).2 ⟨ha, hb⟩
theorem pright_ok (X : Int) (D : Nat) (Y : Int) (E : Nat) (h : Pt X D Y E) (w : World) :
    Calls Tryz.prog 49 #[.agg #[.bool (ng (X)), .int .u64 (dg (ab (X)) 0), .int .u64 (dg (ab (X)) 1), .int .u64 (dg (ab (X)) 2), .int .u64 (dg (ab (X)) 3), .bool false, .int .u64 (dg (D) 0), .int .u64 (dg (D) 1), .int .u64 (dg (D) 2), .int .u64 (dg (D) 3), .bool (ng (Y)), .int .u64 (dg (ab (Y)) 0), .int .u64 (dg (ab (Y)) 1), .int .u64 (dg (ab (Y)) 2), .int .u64 (dg (ab (Y)) 3), .bool false, .int .u64 (dg (E) 0), .int .u64 (dg (E) 1), .int .u64 (dg (E) 2), .int .u64 (dg (E) 3)]] w fun e w' => e = .returned (.int .i64 0) ∧ Below w.heap.size w w' := by
  have r1 := h.x.mono (show 96 ≤ 256 by decide)
  have r2 := h.y.mono (show 96 ≤ 256 by decide)
  have g := pright_any (ng X, ab X) (false, D) (ng Y, ab Y) (false, E) r1.nb r1.db r2.nb r2.db true true ⟨fun _ => r1.ok, fun _ => rfl⟩ ⟨fun _ => r2.ok, fun _ => rfl⟩ w
  have f1 : fitsB (ab X) D = true := fits_true h.x.nb h.dx
  have f2 : fitsB (ab Y) E = true := fits_true h.y.nb h.dy
  simp only [f1, f2, Bool.and_self, if_true] at g
  exact g
/-- How two points stand. -/
def pntC (X1 : Int) (D1 : Nat) (Y1 : Int) (E1 : Nat) (X2 : Int) (D2 : Nat) (Y2 : Int) (E2 : Nat) : Int :=
  if sgI (X1 * D2 - X2 * D1) == 0 then sgI (Y1 * E2 - Y2 * E1) else sgI (X1 * D2 - X2 * D1)
theorem cmpR_v (X1 : Int) (D1 : Nat) (X2 : Int) (D2 : Nat) : cmpR (ng X1, ab X1) (false, D1) (ng X2, ab X2) (false, D2) = sgI (X1 * D2 - X2 * D1) := by
  unfold cmpR
  show sgI (zof (ng X1) (ab X1) * zof false D2 - zof (ng X2) (ab X2) * zof false D1) = _
  rw [zof_ng_ab, zof_ng_ab]
  rfl
theorem clear_pcmp {W : World} {b : Nat} {c : Array Value} {t : TypeId} (h : W.heap[b]? = some (.cells c t (0, 0))) (hs : c.size = 1) :
    Calls Tryz.prog 86 #[.pointer (some ⟨b, 0, none⟩)] W fun e w' => e = .returned (.tuple #[]) ∧ Laid1 b (.int .i64 0) W w' := by
  have hf := frozen_at h
  obtain ⟨c0, rfl⟩ : ∃ c0, c = #[c0] := Array.size_eq_one_iff.1 hs
  have h0 : W.cell? ⟨b, 0, none⟩ = some c0 := cell_at h 0
  go_enter Tryz.func86, Tryz.ntmps86
  go_wp2
  go_end0
  exact ⟨rfl, laid_one ..⟩
set_option maxRecDepth 20000 in
set_option maxHeartbeats 2000000 in
theorem point_cmp_ok (X1 : Int) (D1 : Nat) (Y1 : Int) (E1 : Nat) (X2 : Int) (D2 : Nat) (Y2 : Int) (E2 : Nat) (h1 : Pt X1 D1 Y1 E1) (h2 : Pt X2 D2 Y2 E2) (w : World) :
    Calls Tryz.prog 52 #[.agg #[.bool (ng (X1)), .int .u64 (dg (ab (X1)) 0), .int .u64 (dg (ab (X1)) 1), .int .u64 (dg (ab (X1)) 2), .int .u64 (dg (ab (X1)) 3), .bool false, .int .u64 (dg (D1) 0), .int .u64 (dg (D1) 1), .int .u64 (dg (D1) 2), .int .u64 (dg (D1) 3), .bool (ng (Y1)), .int .u64 (dg (ab (Y1)) 0), .int .u64 (dg (ab (Y1)) 1), .int .u64 (dg (ab (Y1)) 2), .int .u64 (dg (ab (Y1)) 3), .bool false, .int .u64 (dg (E1) 0), .int .u64 (dg (E1) 1), .int .u64 (dg (E1) 2), .int .u64 (dg (E1) 3)], .agg #[.bool (ng (X2)), .int .u64 (dg (ab (X2)) 0), .int .u64 (dg (ab (X2)) 1), .int .u64 (dg (ab (X2)) 2), .int .u64 (dg (ab (X2)) 3), .bool false, .int .u64 (dg (D2) 0), .int .u64 (dg (D2) 1), .int .u64 (dg (D2) 2), .int .u64 (dg (D2) 3), .bool (ng (Y2)), .int .u64 (dg (ab (Y2)) 0), .int .u64 (dg (ab (Y2)) 1), .int .u64 (dg (ab (Y2)) 2), .int .u64 (dg (ab (Y2)) 3), .bool false, .int .u64 (dg (E2) 0), .int .u64 (dg (E2) 1), .int .u64 (dg (E2) 2), .int .u64 (dg (E2) 3)]] w fun e w' => e = .returned (.tuple #[.int .i64 (pntC X1 D1 Y1 E1 X2 D2 Y2 E2), .int .i64 0]) ∧ Below w.heap.size w w' := by
  have hmf : ∀ (fn : Fn) (first cap : Array Value) (w : World), (Instr.makeFunc fn first cap).run Tryz.prog w = .ok (.func fn first cap) w := fun _ _ _ _ => rfl
  have HR1 := Hd.mk (fun w => pright_ok X1 D1 Y1 E1 h1 w)
  have HR2 := Hd.mk (fun w => pright_ok X2 D2 Y2 E2 h2 w)
  obtain ⟨v, hv⟩ : ∃ v, v = pntC X1 D1 Y1 E1 X2 D2 Y2 E2 := ⟨_, rfl⟩
  have sm : ∀ {X : Int} {D : Nat}, Rt 96 X D → SmallF (ng X, ab X) (false, D) := fun h => ⟨(h.mono (show 96 ≤ 256 by decide)).nb, (h.mono (show 96 ≤ 256 by decide)).db, h.ok⟩
  have HP : Hd (∀ w, Calls Tryz.prog 88 #[.agg #[.bool (ng (X1)), .int .u64 (dg (ab (X1)) 0), .int .u64 (dg (ab (X1)) 1), .int .u64 (dg (ab (X1)) 2), .int .u64 (dg (ab (X1)) 3), .bool false, .int .u64 (dg (D1) 0), .int .u64 (dg (D1) 1), .int .u64 (dg (D1) 2), .int .u64 (dg (D1) 3), .bool (ng (Y1)), .int .u64 (dg (ab (Y1)) 0), .int .u64 (dg (ab (Y1)) 1), .int .u64 (dg (ab (Y1)) 2), .int .u64 (dg (ab (Y1)) 3), .bool false, .int .u64 (dg (E1) 0), .int .u64 (dg (E1) 1), .int .u64 (dg (E1) 2), .int .u64 (dg (E1) 3)], .agg #[.bool (ng (X2)), .int .u64 (dg (ab (X2)) 0), .int .u64 (dg (ab (X2)) 1), .int .u64 (dg (ab (X2)) 2), .int .u64 (dg (ab (X2)) 3), .bool false, .int .u64 (dg (D2) 0), .int .u64 (dg (D2) 1), .int .u64 (dg (D2) 2), .int .u64 (dg (D2) 3), .bool (ng (Y2)), .int .u64 (dg (ab (Y2)) 0), .int .u64 (dg (ab (Y2)) 1), .int .u64 (dg (ab (Y2)) 2), .int .u64 (dg (ab (Y2)) 3), .bool false, .int .u64 (dg (E2) 0), .int .u64 (dg (E2) 1), .int .u64 (dg (E2) 2), .int .u64 (dg (E2) 3)]] w fun e w' => e = .returned (.int .i64 v) ∧ Below w.heap.size w w') := ⟨fun w => by
    have g := place_cmp (ng X1, ab X1) (false, D1) (ng Y1, ab Y1) (false, E1) (ng X2, ab X2) (false, D2) (ng Y2, ab Y2) (false, E2) (sm h1.x) (sm h1.y) (sm h2.x) (sm h2.y) w
    rw [cmpR_v, cmpR_v] at g
    rw [hv]
    exact g⟩
  rw [← hv]
  clear h1 h2 sm hv
  go_enter_defers Tryz.func52, Tryz.ntmps52
  go_upto_region 2 with (fail)
  refine abs_wp (fun W => W.heap[w.heap.size]? = some (.cells #[.bool (ng (X1)), .int .u64 (dg (ab (X1)) 0), .int .u64 (dg (ab (X1)) 1), .int .u64 (dg (ab (X1)) 2), .int .u64 (dg (ab (X1)) 3), .bool false, .int .u64 (dg (D1) 0), .int .u64 (dg (D1) 1), .int .u64 (dg (D1) 2), .int .u64 (dg (D1) 3), .bool (ng (Y1)), .int .u64 (dg (ab (Y1)) 0), .int .u64 (dg (ab (Y1)) 1), .int .u64 (dg (ab (Y1)) 2), .int .u64 (dg (ab (Y1)) 3), .bool false, .int .u64 (dg (E1) 0), .int .u64 (dg (E1) 1), .int .u64 (dg (E1) 2), .int .u64 (dg (E1) 3)] 46 (0, 0)) ∧ W.heap[w.heap.size + 1]? = some (.cells #[.bool (ng (X2)), .int .u64 (dg (ab (X2)) 0), .int .u64 (dg (ab (X2)) 1), .int .u64 (dg (ab (X2)) 2), .int .u64 (dg (ab (X2)) 3), .bool false, .int .u64 (dg (D2) 0), .int .u64 (dg (D2) 1), .int .u64 (dg (D2) 2), .int .u64 (dg (D2) 3), .bool (ng (Y2)), .int .u64 (dg (ab (Y2)) 0), .int .u64 (dg (ab (Y2)) 1), .int .u64 (dg (ab (Y2)) 2), .int .u64 (dg (ab (Y2)) 3), .bool false, .int .u64 (dg (E2) 0), .int .u64 (dg (E2) 1), .int .u64 (dg (E2) 2), .int .u64 (dg (E2) 3)] 46 (0, 0)) ∧ W.heap[w.heap.size + 1 + 1]? = some (.cells #[.int .i64 0] 3 (0, 0)) ∧ W.heap[w.heap.size + 1 + 1 + 1]? = some (.cells #[.int .i64 0] 26 (0, 0)) ∧ Below w.heap.size w W) ⟨heap_old (heap_old (heap_old (heap_new w _) _) _) _, heap_old (heap_old (heap_at (by simp) _) _) _, heap_old (heap_at (by simp) _) _, heap_at (by simp) _, by focus (repeat (first | (with_reducible exact Below.refl _ _) | (with_reducible assumption) | ((with_reducible refine Below.setCell ?_ ?_ _); rotate_left; (focus (first | omega | (simp; done) | (simp; omega)))) | ((with_reducible refine Below.alloc ?_ ?_ _); rotate_left; (focus (first | omega | (simp; done) | (simp; omega)))) | (with_reducible refine Below.drew ?_) | (refine below_on ?_ (by assumption))))⟩ fun W ⟨z0, z1, z2, z3, hB⟩ => ?_
  go_wp2_with (refine wpList_load_point (.tmp 2) rfl rfl _ rfl z0 rfl ?_)
  refine (HR1.out _).mono ?_
  rintro e w2 ⟨rfl, hb⟩
  have y0 := heap_below hb z0
  have y1 := heap_below hb z1
  have y2 := heap_below hb z2
  have y3 := heap_below hb z3
  have hB1 := below_on hB hb
  clear hb z0 z1 z2 z3 hB
  go_wp2_with (refine wpList_load_point (.tmp 3) rfl rfl _ rfl y1 rfl ?_)
  refine (HR2.out _).mono ?_
  rintro e w3 ⟨rfl, hb⟩
  have z0 := heap_below hb y0
  have z1 := heap_below hb y1
  have z2 := heap_below hb y2
  have z3 := heap_below hb y3
  have hB2 := below_on hB1 hb
  clear hb y0 y1 y2 y3 hB1
  go_wp2_with (first
    | (refine wpList_load_point (.tmp 2) rfl rfl _ rfl z0 rfl ?_)
    | (refine wpList_load_point (.tmp 3) rfl rfl _ rfl z1 rfl ?_)
    | (go_at_call 87; refine (point_must_ok _ _).mono ?_; rintro e w4 ⟨rfl, rfl⟩)
    | (go_at_call 88; refine (HP.out _).mono ?_; rintro e w5 ⟨rfl, hb⟩; have x2 := heap_below hb z2; have x3 := heap_below hb z3; have hB3 := below_on hB2 hb; have k2 := cell_at x2; have g2 := frozen_at x2; have k3 := cell_at x3; have g3 := frozen_at x3; clear hb z0 z1 z2 z3 hB2))
  refine leaves_cons (f := 85) (args := #[.pointer (some ⟨w.heap.size + 1 + 1 + 1, 0, none⟩), .func (.func 86) #[] #[.pointer (some ⟨w.heap.size + 1 + 1, 0, none⟩)]]) (by simp) (by simp [go_sem]) ?_
  refine (point_caught_idle _ _ _).mono ?_
  rintro e u' w6 ⟨rfl, rfl, rfl⟩
  refine abs_leaves (OutI w (w.heap.size + 1 + 1) (w.heap.size + 1 + 1 + 1) v 0) (outI_of (by omega) (by omega) x2 x3 rfl rfl hB3 (laid_one ..) (laid_one ..)) fun W ⟨y1, y2, hB⟩ => ?_
  have c1 := cell_at y1
  have c2 := cell_at y2
  simp [Leaves, settle, results, Tryz.results52, go_sem, c1, c2]
  exact hB
end Go.Proofs.YtbhfnfokihdjjaaGreatDoor

namespace Go.Proofs.YtbhfnfokihdjjaaGreatDoor

theorem sgI_range (z : Int) : -1 ≤ sgI z ∧ sgI z ≤ 1 := by unfold sgI; split <;> (try split) <;> omega
theorem sgI_pos {z : Int} (h : 0 < z) : sgI z = 1 := by unfold sgI; rw [if_neg (by omega), if_neg (by omega)]
theorem sgI_neg (z : Int) : sgI (-z) = -sgI z := by unfold sgI; split <;> (try split) <;> (try split) <;> (try split) <;> omega
theorem sgI_zero : sgI 0 = 0 := rfl
theorem sgI_mul (a b : Int) : sgI (a * b) = sgI a * sgI b := by
  have hpos : ∀ x y : Int, 0 < x → 0 < y → sgI (x * y) = sgI x * sgI y := fun x y hx hy => by rw [sgI_pos hx, sgI_pos hy, sgI_pos (Int.mul_pos hx hy)]; rfl
  rcases Int.lt_trichotomy a 0 with ha | rfl | ha
  · rcases Int.lt_trichotomy b 0 with hb | rfl | hb
    · have := hpos (-a) (-b) (by omega) (by omega)
      rw [sgI_neg, sgI_neg, Int.neg_mul_neg, Int.neg_mul_neg] at this
      exact this
    · rw [Int.mul_zero, sgI_zero, Int.mul_zero]
    · have := hpos (-a) b (by omega) hb
      rw [sgI_neg, Int.neg_mul, sgI_neg, Int.neg_mul] at this
      omega
  · rw [Int.zero_mul, sgI_zero, Int.zero_mul]
  · rcases Int.lt_trichotomy b 0 with hb | rfl | hb
    · have := hpos a (-b) ha (by omega)
      rw [sgI_neg, Int.mul_neg, sgI_neg, Int.mul_neg] at this
      omega
    · rw [Int.mul_zero, sgI_zero, Int.mul_zero]
    · exact hpos a b ha hb
theorem sgI_sgn (z : Int) : sgI z = sgn z := by unfold sgI sgn; split <;> (try split) <;> (try split) <;> (try split) <;> omega
theorem cmpI_zero (p : Int) : cmpI p 0 = sgI p := by unfold cmpI sgI; split <;> (try split) <;> (try split) <;> (try split) <;> omega
/-- On which side of a line from (ax, ay), so far to (dx, dy), the point X by D1, Y by D2 is. -/
def sideV (ax ay dx dy X : Int) (D1 : Nat) (Y : Int) (D2 : Nat) : Int := sgI (dx * ((Y - ay * D2) * D1) - dy * ((X - ax * D1) * D2))
/-- Where a line is, by the quotient. -/
theorem cut_value {S C X f g : Int} {D SD E n : Int} {ag : Int} (hg : 0 < ag) (hSD : 0 < SD) (h1 : S * D = (X - f * D) * SD) (h2 : C * (SD * ag) = n * E) (h3 : n * g = S * ag) : C * (D * g) = (X - f * D) * E := by
  have e1 : (C * (D * g)) * (SD * ag) = ((X - f * D) * E) * (SD * ag) := by
    calc (C * (D * g)) * (SD * ag) = (C * (SD * ag)) * (D * g) := by ac_rfl
      _ = (n * E) * (D * g) := by rw [h2]
      _ = (n * g) * (E * D) := by ac_rfl
      _ = (S * ag) * (E * D) := by rw [h3]
      _ = (S * D) * (E * ag) := by ac_rfl
      _ = ((X - f * D) * SD) * (E * ag) := by rw [h1]
      _ = ((X - f * D) * E) * (SD * ag) := by ac_rfl
  exact Int.eq_of_mul_eq_mul_right (Int.ne_of_gt (Int.mul_pos hSD hg)) e1
/-- Two fractions of the way, held against one another. -/
theorem side_value {C1 E1 C2 E2 u v D1 D2 dx dy : Int} (hE1 : 0 < E1) (hE2 : 0 < E2) (hD1 : 0 < D1) (hD2 : 0 < D2) (h1 : C1 * (D1 * dx) = u * E1) (h2 : C2 * (D2 * dy) = v * E2) :
    sgI (C2 * E1 - C1 * E2) * sgI dx * sgI dy = sgI (dx * (v * D1) - dy * (u * D2)) := by
  have e : (dx * (v * D1) - dy * (u * D2)) * (E1 * E2) = (C2 * E1 - C1 * E2) * dx * dy * (D1 * D2) := by
    rw [Int.sub_mul, Int.sub_mul, Int.sub_mul, Int.sub_mul]
    have a1 : dx * (v * D1) * (E1 * E2) = C2 * E1 * dx * dy * (D1 * D2) := by
      calc dx * (v * D1) * (E1 * E2) = (v * E2) * (dx * D1 * E1) := by ac_rfl
        _ = (C2 * (D2 * dy)) * (dx * D1 * E1) := by rw [h2]
        _ = C2 * E1 * dx * dy * (D1 * D2) := by ac_rfl
    have a2 : dy * (u * D2) * (E1 * E2) = C1 * E2 * dx * dy * (D1 * D2) := by
      calc dy * (u * D2) * (E1 * E2) = (u * E1) * (dy * D2 * E2) := by ac_rfl
        _ = (C1 * (D1 * dx)) * (dy * D2 * E2) := by rw [h1]
        _ = C1 * E2 * dx * dy * (D1 * D2) := by ac_rfl
    rw [a1, a2]
  have hs := congrArg sgI e
  rw [sgI_mul, sgI_mul E1, sgI_pos hE1, sgI_pos hE2, sgI_mul _ (D1 * D2), sgI_mul D1, sgI_pos hD1, sgI_pos hD2, sgI_mul _ dy, sgI_mul _ dx] at hs
  omega
theorem side_upright {X ax D1 D2 dy ay Y : Int} (hD2 : 0 < D2) : -sgI (X * 1 - ax * D1) * sgI dy = sgI (0 * ((Y - ay * D2) * D1) - dy * ((X - ax * D1) * D2)) := by
  rw [Int.zero_mul, Int.zero_sub, sgI_neg, sgI_mul, sgI_mul, sgI_pos hD2, Int.mul_one, Int.mul_one, Int.neg_mul, Int.mul_comm]
theorem side_level {X ax D1 D2 dx ay Y : Int} (hD1 : 0 < D1) : sgI (Y * 1 - ay * D2) * sgI dx = sgI (dx * ((Y - ay * D2) * D1) - 0 * ((X - ax * D1) * D2)) := by
  rw [Int.zero_mul, Int.sub_zero, sgI_mul, sgI_mul, sgI_pos hD1, Int.mul_one, Int.mul_one, Int.mul_comm]
end Go.Proofs.YtbhfnfokihdjjaaGreatDoor
