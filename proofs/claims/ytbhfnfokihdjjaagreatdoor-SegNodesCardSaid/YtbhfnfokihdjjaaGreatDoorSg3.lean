/-
  Walks of seg and the references: which segment may be. Conditions stand in each theorem.
-/
import Derived.Deep.RegionHeld3
import Derived.Test.YtbhfnfokihdjjaaGreatDoorWd7
import Derived.Test.YtbhfnfokihdjjaaGreatDoorWd5
namespace Go.Proofs.YtbhfnfokihdjjaaGreatDoor
open Go.RowKit Go.BigFrame

set_option maxRecDepth 20000 in
set_option maxHeartbeats 1000000 in
theorem rat_check_any (p q : Bool × Nat) (hp : p.2 < 2 ^ 256) (hq : q.2 < 2 ^ 256) (b : Bool) (hb : b = true ↔ okR p q) (w : World) :
    Calls Tryz.prog 80 #[.agg #[.bool (p.1), .int .u64 (dg (p.2) 0), .int .u64 (dg (p.2) 1), .int .u64 (dg (p.2) 2), .int .u64 (dg (p.2) 3), .bool (q.1), .int .u64 (dg (q.2) 0), .int .u64 (dg (q.2) 1), .int .u64 (dg (q.2) 2), .int .u64 (dg (q.2) 3)]] w fun e w' => e = .returned (.int .i64 (if b then 0 else 2)) ∧ Below w.heap.size w w' := by
  have HP := Hd.mk hp
  have HQ := Hd.mk hq
  have HB := Hd.mk hb
  clear hp hq hb
  go_enter Tryz.func80, Tryz.ntmps80
  go_wp2_with fail
  refine (rat_right_any p q HP.out HQ.out b HB.out _).mono ?_
  rintro e wa ⟨rfl, hb⟩
  have hB := Hd.mk (show Below w.heap.size w wa from below_on (by focus (repeat (first | (with_reducible exact Below.refl _ _) | (with_reducible assumption) | ((with_reducible refine Below.setCell ?_ ?_ _); rotate_left; (focus (first | omega | (simp; done) | (simp; omega)))) | ((with_reducible refine Below.alloc ?_ ?_ _); rotate_left; (focus (first | omega | (simp; done) | (simp; omega)))) | (with_reducible refine Below.drew ?_) | (refine below_on ?_ (by assumption))))) hb)
  clear hb HB
  cases b with
  | true =>
    go_wp2
    go_ret
    exact ⟨rfl, hB.out⟩
  | false =>
    go_wp2
    go_ret
    exact ⟨rfl, hB.out⟩
set_option maxRecDepth 20000 in
set_option maxHeartbeats 1000000 in
theorem rat_of (n : Int) (h1 : -9223372036854775808 ≤ n) (h2 : n < 9223372036854775808) (w : World) :
    Calls Tryz.prog 83 #[.int .i64 n] w fun e w' => e = .returned (.agg #[.bool (ng n), .int .u64 (dg (ab n) 0), .int .u64 (dg (ab n) 1), .int .u64 (dg (ab n) 2), .int .u64 (dg (ab n) 3), .bool (ng 1), .int .u64 (dg (ab 1) 0), .int .u64 (dg (ab 1) 1), .int .u64 (dg (ab 1) 2), .int .u64 (dg (ab 1) 3)]) ∧ Below w.heap.size w w' := by
  go_enter Tryz.func83, Tryz.ntmps83
  go_wp2_with fail
  refine (of_word n h1 h2 _).mono ?_
  rintro e wa ⟨rfl, hb⟩
  have z0 := heap_below hb (heap_new w _)
  have hB : Below w.heap.size w wa := below_on (by focus (repeat (first | (with_reducible exact Below.refl _ _) | (with_reducible assumption) | ((with_reducible refine Below.setCell ?_ ?_ _); rotate_left; (focus (first | omega | (simp; done) | (simp; omega)))) | ((with_reducible refine Below.alloc ?_ ?_ _); rotate_left; (focus (first | omega | (simp; done) | (simp; omega)))) | (with_reducible refine Below.drew ?_) | (refine below_on ?_ (by assumption))))) hb
  clear hb
  go_wp2_with fail
  refine (of_word 1 (by decide) (by decide) _).mono ?_
  rintro e wb ⟨rfl, hb⟩
  have z1 := heap_below hb z0
  have hB2 := below_on hB hb
  have c1 := cell_at z1
  have f1 := frozen_at z1
  have HB2 := Hd.mk hB2
  clear hb z0 hB hB2
  go_wp2
  obtain ⟨l1, l2, l3⟩ := laid_10 w.heap.size wb (.bool (ng n)) (.int .u64 (dg (ab n) 0)) (.int .u64 (dg (ab n) 1)) (.int .u64 (dg (ab n) 2)) (.int .u64 (dg (ab n) 3)) (.bool (ng 1)) (.int .u64 (dg (ab 1) 0)) (.int .u64 (dg (ab 1) 1)) (.int .u64 (dg (ab 1) 2)) (.int .u64 (dg (ab 1) 3))
  have c2 := cell_at (l1 z1 rfl)
  refine bodyPost_ret (by simp [results, Tryz.results83, go_sem, c2]) rfl ⟨rfl, HB2.out.trans (l3 w.heap.size (Nat.le_refl _))⟩
set_option maxRecDepth 20000 in
set_option maxHeartbeats 2000000 in
theorem all_two (B : Nat) (p q r s : Bool × Nat) (hp : p.2 < 2 ^ 256) (hq : q.2 < 2 ^ 256) (hr : r.2 < 2 ^ 256) (hs : s.2 < 2 ^ 256) (ty : TypeId) (b c : Bool) (hb : b = true ↔ okR p q) (hc : c = true ↔ okR r s) (w : World)
    (hz : w.heap[B]? = some (.cells #[.bool p.1, .int .u64 (dg (p.2) 0), .int .u64 (dg (p.2) 1), .int .u64 (dg (p.2) 2), .int .u64 (dg (p.2) 3), .bool q.1, .int .u64 (dg (q.2) 0), .int .u64 (dg (q.2) 1), .int .u64 (dg (q.2) 2), .int .u64 (dg (q.2) 3), .bool r.1, .int .u64 (dg (r.2) 0), .int .u64 (dg (r.2) 1), .int .u64 (dg (r.2) 2), .int .u64 (dg (r.2) 3), .bool s.1, .int .u64 (dg (s.2) 0), .int .u64 (dg (s.2) 1), .int .u64 (dg (s.2) 2), .int .u64 (dg (s.2) 3)] ty (0, 0))) :
    Calls Tryz.prog 109 #[.slice (some ⟨B, 0, none⟩) 2 2] w fun e w' => e = (if b && c then .returned (.tuple #[]) else .panicked [{ v := .iface 26 (.int .i64 2), recovered := false }]) ∧ Below w.heap.size w w' := by
  have HP := Hd.mk hp
  have HQ := Hd.mk hq
  have HR := Hd.mk hr
  have HS := Hd.mk hs
  have HB := Hd.mk hb
  have HC := Hd.mk hc
  clear hp hq hr hs hb hc
  have c0 := cell_at hz
  go_enter Tryz.func109, Tryz.ntmps109
  go_wp2
  refine wp_loop_rounds 3 ?_
  rw [rounds_succ]
  go_wp2_with fail
  refine (rat_check_any p q HP.out HQ.out b HB.out _).mono ?_
  rintro e wa ⟨rfl, hb⟩
  have z1 := heap_below hb (heap_old hz _)
  have hB1 : Below w.heap.size w wa := below_on (by focus (repeat (first | (with_reducible exact Below.refl _ _) | (with_reducible assumption) | ((with_reducible refine Below.setCell ?_ ?_ _); rotate_left; (focus (first | omega | (simp; done) | (simp; omega)))) | ((with_reducible refine Below.alloc ?_ ?_ _); rotate_left; (focus (first | omega | (simp; done) | (simp; omega)))) | (with_reducible refine Below.drew ?_) | (refine below_on ?_ (by assumption))))) hb
  have c1 := cell_at z1
  clear hb HB c0
  cases b with
  | false =>
    go_wp2_with (go_at_call 125; refine (ratio_must_no _ _).mono ?_; rintro e w' ⟨rfl, rfl⟩)
    exact ⟨rfl, rfl, hB1⟩
  | true =>
    go_wp2_with (go_at_call 125; refine (ratio_must_ok _ _).mono ?_; rintro e w' ⟨rfl, rfl⟩)
    rw [rounds_succ]
    go_wp2_with fail
    refine (rat_check_any r s HR.out HS.out c HC.out _).mono ?_
    rintro e wb ⟨rfl, hb⟩
    have hB2 := Hd.mk (show Below w.heap.size w wb from below_on (by have := hB1.size; focus (repeat (first | (with_reducible exact Below.refl _ _) | (with_reducible assumption) | ((with_reducible refine Below.setCell ?_ ?_ _); rotate_left; (focus (first | omega | (simp; done) | (simp; omega)))) | ((with_reducible refine Below.alloc ?_ ?_ _); rotate_left; (focus (first | omega | (simp; done) | (simp; omega)))) | (with_reducible refine Below.drew ?_) | (refine below_on ?_ (by assumption))))) hb)
    clear hb HC c1 z1 hB1
    cases c with
    | false =>
      go_wp2_with (go_at_call 125; refine (ratio_must_no _ _).mono ?_; rintro e w' ⟨rfl, rfl⟩)
      exact ⟨rfl, rfl, hB2.out⟩
    | true =>
      go_wp2_with (go_at_call 125; refine (ratio_must_ok _ _).mono ?_; rintro e w' ⟨rfl, rfl⟩)
      rw [rounds_succ]
      go_wp2
      go_end0
      exact ⟨rfl, hB2.out⟩
end Go.Proofs.YtbhfnfokihdjjaaGreatDoor

namespace Go.Proofs.YtbhfnfokihdjjaaGreatDoor
open Go.RowKit Go.BigFrame

theorem ex_putw {T : Array Value} {ds : List Deferred} {G : (Nat → Value) → Act} {R : Prop} (h : (Act.mk T ds = G (fun i => T.getD i undef)) ∧ R) : ∃ v : Nat → Value, (Act.mk T ds = G v) ∧ R := ⟨_, h⟩
theorem region_abs_w {P : Program} {id : Nat} {ops : Array Oper} {dr : Bool} {Q : Exit → Act → World → Prop} {a : Act} {w : World} (Qr : Act → Act → World → Prop)
    (h1 : ∀ K : Act → World → Prop, (∀ a' w', Qr a a' w' → K a' w') → (Code.region id ops dr).wp P (fun ex a' w' => ex = .normal ∧ K a' w') a w) (h2 : ∀ a' w', Qr a a' w' → Q .normal a' w') : (Code.region id ops dr).wp P Q a w :=
  Code.wp_mono (fun ex a' w' h => by obtain ⟨rfl, h⟩ := h; exact h2 a' w' h) (h1 (fun a' w' => Qr a a' w') (fun _ _ h => h))
theorem szof_mul (a b : Bool) (x y : Nat) : zof (!(a == b)) (x * y) = zof a x * zof b y := by
  cases a <;> cases b <;> simp [zof, Int.neg_mul, Int.mul_neg]
theorem szof_mul_neg (a b : Bool) (x y : Nat) : zof (a == b) (x * y) = -(zof a x * zof b y) := by
  cases a <;> cases b <;> simp [zof, Int.neg_mul, Int.mul_neg]
theorem pow_three (k n : Nat) (h : k + k + 1 ≤ n) : (2 ^ k * 2 ^ k) * 2 ^ 1 ≤ 2 ^ n := by
  rw [← Nat.pow_add, ← Nat.pow_add]
  exact Nat.pow_le_pow_right (by decide) h
theorem prod_bound {a b c d : Nat} (ha : a < 2 ^ 256) (hb : b < 2 ^ 256) (hc : c < 2 ^ 256) (hd : d < 2 ^ 256) : a * b < 2 ^ (64 * 9) ∧ c * d < 2 ^ (64 * 9) ∧ a * b + c * d < 2 ^ (64 * 9) := by
  have h1 : a * b < 2 ^ 256 * 2 ^ 256 := Nat.mul_lt_mul'' ha hb
  have h2 : c * d < 2 ^ 256 * 2 ^ 256 := Nat.mul_lt_mul'' hc hd
  have h3 := pow_three 256 (64 * 9) (by decide)
  rw [Nat.pow_one] at h3
  generalize 2 ^ (64 * 9) = X at h3 ⊢
  generalize 2 ^ 256 * 2 ^ 256 = Y at h1 h2 h3
  omega
theorem clear_rcmp {W : World} {b : Nat} {c : Array Value} {t : TypeId} (h : W.heap[b]? = some (.cells c t (0, 0))) (hs : c.size = 1) :
    Calls Tryz.prog 108 #[.pointer (some ⟨b, 0, none⟩)] W fun e w' => e = .returned (.tuple #[]) ∧ Laid1 b (.int .i64 0) W w' := by
  have hf := frozen_at h
  obtain ⟨c0, rfl⟩ : ∃ c0, c = #[c0] := Array.size_eq_one_iff.1 hs
  have h0 : W.cell? ⟨b, 0, none⟩ = some c0 := cell_at h 0
  go_enter Tryz.func108, Tryz.ntmps108
  go_wp2
  go_end0
  exact ⟨rfl, laid_one ..⟩
set_option maxRecDepth 20000 in
set_option maxHeartbeats 2000000 in
theorem rcmp_bad (p q r s : Bool × Nat) (hp : p.2 < 2 ^ 256) (hq : q.2 < 2 ^ 256) (hr : r.2 < 2 ^ 256) (hs : s.2 < 2 ^ 256) (b c : Bool) (hb : b = true ↔ okR p q) (hc : c = true ↔ okR r s) (h : (b && c) = false) (w : World) :
    Calls Tryz.prog 82 #[.agg #[.bool (p.1), .int .u64 (dg (p.2) 0), .int .u64 (dg (p.2) 1), .int .u64 (dg (p.2) 2), .int .u64 (dg (p.2) 3), .bool (q.1), .int .u64 (dg (q.2) 0), .int .u64 (dg (q.2) 1), .int .u64 (dg (q.2) 2), .int .u64 (dg (q.2) 3)], .agg #[.bool (r.1), .int .u64 (dg (r.2) 0), .int .u64 (dg (r.2) 1), .int .u64 (dg (r.2) 2), .int .u64 (dg (r.2) 3), .bool (s.1), .int .u64 (dg (s.2) 0), .int .u64 (dg (s.2) 1), .int .u64 (dg (s.2) 2), .int .u64 (dg (s.2) 3)]] w fun e w' => e = .returned (.tuple #[.int .i64 (0), .int .i64 2]) ∧ Below w.heap.size w w' := by
  have hmf : ∀ (fn : Fn) (first cap : Array Value) (w : World), (Instr.makeFunc fn first cap).run Tryz.prog w = .ok (.func fn first cap) w := fun _ _ _ _ => rfl
  have HP := Hd.mk hp
  have HQ := Hd.mk hq
  have HR := Hd.mk hr
  have HS := Hd.mk hs
  have HB := Hd.mk hb
  have HC := Hd.mk hc
  have HH := Hd.mk h
  clear hp hq hr hs hb hc h
  go_enter_defers Tryz.func82, Tryz.ntmps82
  go_wp2_with fail
  refine (all_two (w.heap.size + 1 + 1 + 1 + 1) p q r s HP.out HQ.out HR.out HS.out _ b c HB.out HC.out _ (by focus (repeat (first | (with_reducible exact heap_at (by first | rfl | (simp; done) | (simp; omega)) _) | (with_reducible refine heap_old ?_ _))))).mono ?_
  rw [HH.out]
  rintro e w1 ⟨rfl, hb1⟩
  have z1 : w1.heap[w.heap.size + 1 + 1]? = some _ := heap_below hb1 (heap_old (heap_old (heap_at (n := w.heap.size + 1 + 1) (by simp) _) _) _)
  have c1 := cell_at z1
  have f1 := frozen_at z1
  have z2 : w1.heap[w.heap.size + 1 + 1 + 1]? = some _ := heap_below hb1 (heap_old (heap_at (n := w.heap.size + 1 + 1 + 1) (by simp) _) _)
  have c2 := cell_at z2
  have f2 := frozen_at z2
  have hw1 : Below w.heap.size w w1 := by
    focus (repeat (first | (with_reducible exact Below.refl _ _) | (with_reducible assumption) | ((with_reducible refine Below.setCell ?_ ?_ _); rotate_left; (focus (first | omega | (simp; done) | (simp; omega)))) | ((with_reducible refine Below.alloc ?_ ?_ _); rotate_left; (focus (first | omega | (simp; done) | (simp; omega)))) | (with_reducible refine Below.drew ?_) | (refine below_on ?_ (by assumption))))
  clear hb1
  go_wp2
  refine leaves_cons (f := 107) (args := #[.pointer (some ⟨w.heap.size + 1 + 1 + 1, 0, none⟩), .func (.func 108) #[] #[.pointer (some ⟨w.heap.size + 1 + 1, 0, none⟩)]]) (by simp) (by simp [go_sem]) ?_
  refine (ratio_caught_full _ _ 2 _ _ _ _ (Laid1 (w.heap.size + 1 + 1) (.int .i64 0) _) (cell_at z2 0) (frozen_at z2 0) (fun _ => rfl) (clear_rcmp (heap_set_other z1 (by simp) _) rfl)).mono ?_
  rintro e u' w3 ⟨rfl, rfl, hL⟩
  refine abs_leaves (OutI w (w.heap.size + 1 + 1) (w.heap.size + 1 + 1 + 1) 0 2) (outI_cleared (by omega) (by omega) z1 z2 rfl rfl hw1 (laid_one ..) hL) fun W ⟨y1, y2, hB⟩ => ?_
  have c1 := cell_at y1
  have c2 := cell_at y2
  simp [Leaves, settle, results, Tryz.results82, go_sem, c1, c2]
  exact hB
set_option maxRecDepth 20000 in
set_option maxHeartbeats 2000000 in
theorem rcmp_ok (p q r s : Bool × Nat) (hp : p.2 < 2 ^ 256) (hq : q.2 < 2 ^ 256) (hr : r.2 < 2 ^ 256) (hs : s.2 < 2 ^ 256) (h1 : okR p q) (h2 : okR r s) (w : World) :
    Calls Tryz.prog 82 #[.agg #[.bool (p.1), .int .u64 (dg (p.2) 0), .int .u64 (dg (p.2) 1), .int .u64 (dg (p.2) 2), .int .u64 (dg (p.2) 3), .bool (q.1), .int .u64 (dg (q.2) 0), .int .u64 (dg (q.2) 1), .int .u64 (dg (q.2) 2), .int .u64 (dg (q.2) 3)], .agg #[.bool (r.1), .int .u64 (dg (r.2) 0), .int .u64 (dg (r.2) 1), .int .u64 (dg (r.2) 2), .int .u64 (dg (r.2) 3), .bool (s.1), .int .u64 (dg (s.2) 0), .int .u64 (dg (s.2) 1), .int .u64 (dg (s.2) 2), .int .u64 (dg (s.2) 3)]] w fun e w' => e = .returned (.tuple #[.int .i64 (sgI (zof p.1 p.2 * zof s.1 s.2 - zof r.1 r.2 * zof q.1 q.2)), .int .i64 0]) ∧ Below w.heap.size w w' := by
  have hmf : ∀ (fn : Fn) (first cap : Array Value) (w : World), (Instr.makeFunc fn first cap).run Tryz.prog w = .ok (.func fn first cap) w := fun _ _ _ _ => rfl
  have HP := Hd.mk hp
  have HQ := Hd.mk hq
  have HR := Hd.mk hr
  have HS := Hd.mk hs
  have HB := Hd.mk h1
  have HC := Hd.mk h2
  have HPB := Hd.mk (prod_bound hp hs hr hq)
  clear hp hq hr hs h1 h2
  go_enter_defers Tryz.func82, Tryz.ntmps82
  go_wp2_with fail
  refine (all_two (w.heap.size + 1 + 1 + 1 + 1) p q r s HP.out HQ.out HR.out HS.out _ true true ⟨fun _ => HB.out, fun _ => rfl⟩ ⟨fun _ => HC.out, fun _ => rfl⟩ _ (by focus (repeat (first | (with_reducible exact heap_at (by first | rfl | (simp; done) | (simp; omega)) _) | (with_reducible refine heap_old ?_ _))))).mono ?_
  rintro e w1 ⟨rfl, hb1⟩
  have z0 : w1.heap[w.heap.size]? = some _ := heap_below hb1 (heap_old (heap_old (heap_old (heap_old (heap_new w _) _) _) _) _)
  have c0 := cell_at z0
  have f0 := frozen_at z0
  have z7 : w1.heap[w.heap.size + 1]? = some _ := heap_below hb1 (heap_old (heap_old (heap_old (heap_at (n := w.heap.size + 1) (by simp) _) _) _) _)
  have c7 := cell_at z7
  have f7 := frozen_at z7
  have z1 : w1.heap[w.heap.size + 1 + 1]? = some _ := heap_below hb1 (heap_old (heap_old (heap_at (n := w.heap.size + 1 + 1) (by simp) _) _) _)
  have c1 := cell_at z1
  have f1 := frozen_at z1
  have z2 : w1.heap[w.heap.size + 1 + 1 + 1]? = some _ := heap_below hb1 (heap_old (heap_at (n := w.heap.size + 1 + 1 + 1) (by simp) _) _)
  have c2 := cell_at z2
  have f2 := frozen_at z2
  have hw1 : Below w.heap.size w w1 := by
    focus (repeat (first | (with_reducible exact Below.refl _ _) | (with_reducible assumption) | ((with_reducible refine Below.setCell ?_ ?_ _); rotate_left; (focus (first | omega | (simp; done) | (simp; omega)))) | ((with_reducible refine Below.alloc ?_ ?_ _); rotate_left; (focus (first | omega | (simp; done) | (simp; omega)))) | (with_reducible refine Below.drew ?_) | (refine below_on ?_ (by assumption))))
  clear hb1
  go_wp2_with fail
  refine (times_w r.1 q.1 r.2 q.2 HR.out HQ.out _).mono ?_
  rintro e w2 ⟨rfl, hb2⟩
  have y0 := heap_below hb2 z0
  have y7 := heap_below hb2 z7
  have y1 := heap_below hb2 z1
  have y2 := heap_below hb2 z2
  have hw2 : Below w.heap.size w w2 := below_on hw1 hb2
  clear z0 c0 f0 z7 c7 f7 z1 c1 f1 z2 c2 f2 hw1 hb2
  have l2 := lt_of_block y2
  go_upto_region 5 with (fail)
  have hl2 := hw2.size
  refine abs_wp (fun W => W.heap[w.heap.size]? = some (.cells #[.bool (p.1), .int .u64 (dg (p.2) 0), .int .u64 (dg (p.2) 1), .int .u64 (dg (p.2) 2), .int .u64 (dg (p.2) 3), .bool (q.1), .int .u64 (dg (q.2) 0), .int .u64 (dg (q.2) 1), .int .u64 (dg (q.2) 2), .int .u64 (dg (q.2) 3)] 44 (0, 0)) ∧ W.heap[w.heap.size + 1]? = some (.cells #[.bool (r.1), .int .u64 (dg (r.2) 0), .int .u64 (dg (r.2) 1), .int .u64 (dg (r.2) 2), .int .u64 (dg (r.2) 3), .bool (s.1), .int .u64 (dg (s.2) 0), .int .u64 (dg (s.2) 1), .int .u64 (dg (s.2) 2), .int .u64 (dg (s.2) 3)] 44 (0, 0)) ∧ W.heap[w.heap.size + 1 + 1]? = some (.cells #[.int .i64 0] 3 (0, 0)) ∧ W.heap[w.heap.size + 1 + 1 + 1]? = some (.cells #[.int .i64 0] 26 (0, 0)) ∧ W.heap[w2.heap.size]? = some (.cells #[.int .u64 (dg (r.2 * q.2) 0), .int .u64 (dg (r.2 * q.2) 1), .int .u64 (dg (r.2 * q.2) 2), .int .u64 (dg (r.2 * q.2) 3), .int .u64 (dg (r.2 * q.2) 4), .int .u64 (dg (r.2 * q.2) 5), .int .u64 (dg (r.2 * q.2) 6), .int .u64 (dg (r.2 * q.2) 7), .int .u64 (dg (r.2 * q.2) 8), .bool (r.1 == q.1)] 162 (0, 0)) ∧ Below w.heap.size w W) ⟨heap_old y0 _, heap_old y7 _, heap_old y1 _, heap_old y2 _, heap_new _ _, by focus (repeat (first | (with_reducible exact Below.refl _ _) | (with_reducible assumption) | ((with_reducible refine Below.setCell ?_ ?_ _); rotate_left; (focus (first | omega | (simp; done) | (simp; omega)))) | ((with_reducible refine Below.alloc ?_ ?_ _); rotate_left; (focus (first | omega | (simp; done) | (simp; omega)))) | (with_reducible refine Below.drew ?_) | (refine below_on ?_ (by assumption))))⟩ fun W ⟨z0, z7, z1, z2, z6, hB⟩ => ?_
  clear y0 y7 y1 y2 hw2 hl2
  have HPB1 := HPB.out.2.1
  have hD : Below w.heap.size w W.drew := Below.drew hB
  have x0 : W.drew.heap[w.heap.size]? = some _ := z0
  have x7 : W.drew.heap[w.heap.size + 1]? = some _ := z7
  have x1 : W.drew.heap[w.heap.size + 1 + 1]? = some _ := z1
  have x2 : W.drew.heap[w.heap.size + 1 + 1 + 1]? = some _ := z2
  have x6 : W.drew.heap[w2.heap.size]? = some _ := z6
  have q0 := cell_at z0
  have q7 := cell_at z7
  have q6 := cell_at z6
  clear z0 z7 z1 z2 z6 hB HPB1
  refine region_abs_w (fun a0 a' w' => ∃ v : Nat → Value, (a' = (Act.put (Act.put (Act.put (Act.put (Act.put (Act.put (Act.put (Act.put a0 (some 21) (v 21)) (some 22) (v 22)) (some 23) (v 23)) (some 24) (v 24)) (some 25) (v 25)) (some 26) (v 26)) (some 27) (v 27)) (some 28) (v 28))) ∧ OutI w (w.heap.size + 1 + 1) (w.heap.size + 1 + 1 + 1) (sgI (zof p.1 p.2 * zof s.1 s.2 - zof r.1 r.2 * zof q.1 q.2)) 0 w') (fun KR hKR => wp_region_noPanic ?_) ?_
  · go_region_with
      ((first
        | (go_at_call 110; refine (times_w p.1 s.1 p.2 s.2 HP.out HS.out _).mono ?_; rintro e wa ⟨rfl, hb⟩; have hD1 := below_on hD hb; have u1 := heap_below hb x1; have u2 := heap_below hb x2; have u6 := heap_below hb x6; have k6 := cell_at u6; have k7 := cell_at (heap_below hb x7); clear hb)
        | (go_at_call 111; refine (splus_any _ _ _ _ HPB.out.1 HPB.out.2.1 _).mono ?_; rintro e wb ⟨bb, nn, rfl, hzz, hnn, hb⟩; have hD2 := below_on hD1 hb; have v1 := heap_below hb u1; have v2 := heap_below hb u2; clear hb)
        | (go_at_call 112; refine (ssign_any _ _ (Nat.lt_of_le_of_lt hnn HPB.out.2.2) _).mono ?_; rintro e wc ⟨rfl, hb⟩; have hD3 := below_on hD2 hb; have g1 := heap_below hb v1; have g2 := heap_below hb v2; have m1 := cell_at g1; have m2 := frozen_at g1; have m3 := cell_at g2; have m4 := frozen_at g2; clear hb)))
    all_goals
      have hz : sgI (zof (!(p.1 == s.1)) (p.2 * s.2) + zof (r.1 == q.1) (r.2 * q.2)) = sgI (zof p.1 p.2 * zof s.1 s.2 - zof r.1 r.2 * zof q.1 q.2) := by rw [szof_mul, szof_mul_neg, ← Int.sub_eq_add_neg]
      have hO := outI_of (z := sgI (zof (!(p.1 == s.1)) (p.2 * s.2) + zof (r.1 == q.1) (r.2 * q.2))) (n := 0) (by omega) (by omega) g1 g2 rfl rfl hD3 (laid_one ..) (laid_one ..)
      rw [hz] at hO
      exact NoPanic.normal ⟨rfl, hKR _ _ (ex_putw ⟨by kernel_rfl, by rw [hz]; exact hO⟩)⟩
  rintro a' W5 ⟨v, rfl, hO⟩
  clear x0 x7 x1 x2 x6 q0 q7 q6 hD
  simp only [Act.put, List.setIfInBounds_toArray, List.set_cons_succ, List.set_cons_zero]
  have HO := Hd.mk hO
  clear hO
  go_wp2
  refine leaves_cons (f := 107) (args := #[.pointer (some ⟨w.heap.size + 1 + 1 + 1, 0, none⟩), .func (.func 108) #[] #[.pointer (some ⟨w.heap.size + 1 + 1, 0, none⟩)]]) (by simp) (by simp [go_sem]) ?_
  refine (ratio_caught_idle _ _ _).mono ?_
  rintro e u' w4 ⟨rfl, rfl, rfl⟩
  refine abs_leaves (OutI w (w.heap.size + 1 + 1) (w.heap.size + 1 + 1 + 1) (sgI (zof p.1 p.2 * zof s.1 s.2 - zof r.1 r.2 * zof q.1 q.2)) 0) HO.out fun W ⟨y1, y2, hB⟩ => ?_
  have c1 := cell_at y1
  have c2 := cell_at y2
  simp [Leaves, settle, results, Tryz.results82, go_sem, c1, c2]
  exact hB
end Go.Proofs.YtbhfnfokihdjjaaGreatDoor

namespace Go.Proofs.YtbhfnfokihdjjaaGreatDoor
open Go.RowKit Go.BigFrame

theorem fieldsNode : (Tryz.prog.fieldsOf 23).toList.map (fun f => (f.name == "_", f.type, f.offset)) = [(false, 2, 0), (false, 2, 1)] := by kernel_rfl
@[go_sem] theorem eqNode (w : World) (d : Nat) (a0 a1 b0 b1 : Int) :
    (Op.equalIn (d + 2) 23 (.agg #[.int .i64 a0, .int .i64 a1]) (.agg #[.int .i64 b0, .int .i64 b1])).run Tryz.prog w = .ok (a0 == b0 && a1 == b1) w := by
  rw [run_equalIn_struct (P := Tryz.prog) w (d + 1) 23 _ _ (by kernel_rfl) (by kernel_rfl)]
  have h := fieldsNode
  generalize (Tryz.prog.fieldsOf 23).toList = fs at h
  obtain ⟨f0, f1, rfl⟩ : ∃ f0 f1, fs = [f0, f1] := by
    have hl := congrArg List.length h
    rw [List.length_map] at hl
    cases fs with
    | nil => simp at hl
    | cons f0 fs =>
      cases fs with
      | nil => simp at hl
      | cons f1 fs =>
        cases fs with
        | nil => exact ⟨f0, f1, rfl⟩
        | cons f2 fs => simp at hl
  · simp only [List.map_cons, List.map_nil, List.cons.injEq, Prod.mk.injEq, and_true] at h
    obtain ⟨⟨n0, t0, o0⟩, n1, t1, o1⟩ := h
    have m0 : f0.name ≠ "_" := by simpa using n0
    have m1 : f1.name ≠ "_" := by simpa using n1
    have g0 : ∀ w : World, (isAgg 2).run Tryz.prog w = .ok false w := fun w => by simp [isAgg, run_underlying Tryz.underlying2]
    simp only [Op.eqFields, if_pos m0, if_pos m1, t0, t1, o0, o1, part, Sem.run_bind, g0, Result.andThen_ok]
    have e0 := fun w => run_equalIn_int (P := Tryz.prog) w d 2 .i64 .i64 a0 b0 Tryz.underlying2
    have e1 := fun w => run_equalIn_int (P := Tryz.prog) w d 2 .i64 .i64 a1 b1 Tryz.underlying2
    cases hb : (a0 == b0)
    · rw [hb] at e0
      simp [e0]
    · rw [hb] at e0
      cases hr : (a1 == b1)
      · rw [hr] at e1
        simp [e0, e1]
      · rw [hr] at e1
        simp [e0, e1]
def inR (n l m : Int) : Bool := decide (l ≤ n) && decide (n ≤ m)
set_option maxHeartbeats 400000 in
theorem pin_any (n l m : Int) (w : World) : Calls Tryz.prog 72 #[.int .i64 n, .int .i64 l, .int .i64 m] w fun e w' => e = .returned (.bool (inR n l m)) ∧ w = w' := by
  unfold inR
  by_cases h : l ≤ n
  · have h1 : decide (l ≤ n) = true := by simpa using h
    clear h
    rw [h1]
    go_enter Tryz.func72, Tryz.ntmps72
    go_wp2
    go_ret
    exact ⟨by simp, rfl⟩
  · have h1 : decide (l ≤ n) = false := by simpa using h
    clear h
    rw [h1]
    go_enter Tryz.func72, Tryz.ntmps72
    go_wp2
    go_ret
    exact ⟨by simp, rfl⟩
/-- May a node be? -/
def nodeB (x y : Int) : Bool := inR x (-67108864) 67108864 && inR y (-67108864) 67108864
set_option maxHeartbeats 400000 in
theorem pcheck_any (x y : Int) (w : World) : Calls Tryz.prog 37 #[.agg #[.int .i64 x, .int .i64 y]] w fun e w' => e = .returned (.int .i64 (if nodeB x y then 0 else 2)) ∧ Below w.heap.size w w' := by
  unfold nodeB
  cases h1 : inR x (-67108864) 67108864
  · have H1 := h1
    go_enter Tryz.func37, Tryz.ntmps37
    go_wp2_with (go_at_call 72; refine (pin_any _ _ _ _).mono ?_; rintro e w' ⟨rfl, rfl⟩)
    go_ret
    exact ⟨rfl, by focus (repeat (first | (with_reducible exact Below.refl _ _) | (with_reducible assumption) | ((with_reducible refine Below.setCell ?_ ?_ _); rotate_left; (focus (first | omega | (simp; done) | (simp; omega)))) | ((with_reducible refine Below.alloc ?_ ?_ _); rotate_left; (focus (first | omega | (simp; done) | (simp; omega)))) | (with_reducible refine Below.drew ?_) | (refine below_on ?_ (by assumption))))⟩
  · cases h2 : inR y (-67108864) 67108864
    · go_enter Tryz.func37, Tryz.ntmps37
      go_wp2_with (go_at_call 72; refine (pin_any _ _ _ _).mono ?_; rintro e w' ⟨rfl, rfl⟩)
      go_ret
      exact ⟨rfl, by focus (repeat (first | (with_reducible exact Below.refl _ _) | (with_reducible assumption) | ((with_reducible refine Below.setCell ?_ ?_ _); rotate_left; (focus (first | omega | (simp; done) | (simp; omega)))) | ((with_reducible refine Below.alloc ?_ ?_ _); rotate_left; (focus (first | omega | (simp; done) | (simp; omega)))) | (with_reducible refine Below.drew ?_) | (refine below_on ?_ (by assumption))))⟩
    · go_enter Tryz.func37, Tryz.ntmps37
      go_wp2_with (go_at_call 72; refine (pin_any _ _ _ _).mono ?_; rintro e w' ⟨rfl, rfl⟩)
      go_ret
      exact ⟨rfl, by focus (repeat (first | (with_reducible exact Below.refl _ _) | (with_reducible assumption) | ((with_reducible refine Below.setCell ?_ ?_ _); rotate_left; (focus (first | omega | (simp; done) | (simp; omega)))) | ((with_reducible refine Below.alloc ?_ ?_ _); rotate_left; (focus (first | omega | (simp; done) | (simp; omega)))) | (with_reducible refine Below.drew ?_) | (refine below_on ?_ (by assumption))))⟩
theorem law_num (n : Int) (w : World) : Calls Tryz.prog 13 #[.int .i64 n] w fun e w' => e = .returned (.int .i64 n) ∧ w = w' := by
  go_enter Tryz.func13, Tryz.ntmps13
  go_wp2
  go_ret
  exact ⟨rfl, rfl⟩
end Go.Proofs.YtbhfnfokihdjjaaGreatDoor

namespace Go.Proofs.YtbhfnfokihdjjaaGreatDoor
open Go.RowKit Go.BigFrame

set_option maxHeartbeats 400000 in
theorem isnan64 (n : Int) (w : World) : Calls Tryz.prog 73 #[.int .i64 n] w fun e w' => e = .returned (.bool false) ∧ w = w' := by
  go_enter Tryz.func73, Tryz.ntmps73
  go_wp2
  go_ret
  exact ⟨by simp, rfl⟩
set_option maxHeartbeats 400000 in
theorem compare64 (x y : Int) (w : World) : Calls Tryz.prog 40 #[.int .i64 x, .int .i64 y] w fun e w' => e = .returned (.int .i64 (cmpI x y)) ∧ w = w' := by
  by_cases h1 : x < y
  · have h2 : decide (x < y) = true := by simpa using h1
    have HV := Hd.mk (show cmpI x y = -1 by simp [cmpI, h1])
    clear h1
    go_enter Tryz.func40, Tryz.ntmps40
    go_wp2_with (go_at_call 73; refine (isnan64 _ _).mono ?_; rintro e w' ⟨rfl, rfl⟩)
    go_ret
    exact ⟨by rw [HV.out]; rfl, rfl⟩
  · have h2 : decide (x < y) = false := by simpa using h1
    by_cases h3 : x > y
    · have h4 : decide (x > y) = true := by simpa using h3
      have HV := Hd.mk (show cmpI x y = 1 by simp [cmpI, h1, h3])
      clear h1 h3
      go_enter Tryz.func40, Tryz.ntmps40
      go_wp2_with (go_at_call 73; refine (isnan64 _ _).mono ?_; rintro e w' ⟨rfl, rfl⟩)
      go_ret
      exact ⟨by rw [HV.out]; rfl, rfl⟩
    · have h4 : decide (x > y) = false := by simpa using h3
      have HV := Hd.mk (show cmpI x y = 0 by simp [cmpI, h1, h3])
      clear h1 h3
      go_enter Tryz.func40, Tryz.ntmps40
      go_wp2_with (go_at_call 73; refine (isnan64 _ _).mono ?_; rintro e w' ⟨rfl, rfl⟩)
      go_ret
      exact ⟨by rw [HV.out]; rfl, rfl⟩
theorem sign64 (x y : Int) (w : World) : Calls Tryz.prog 38 #[.int .i64 x, .int .i64 y] w fun e w' => e = .returned (.int .i64 (cmpI x y)) ∧ w = w' := by
  go_enter Tryz.func38, Tryz.ntmps38
  go_wp2_with (go_at_call 40; refine (compare64 _ _ _).mono ?_; rintro e w' ⟨rfl, rfl⟩)
  go_ret
  exact ⟨rfl, rfl⟩
set_option maxHeartbeats 400000 in
theorem rsign64 (n : Int) (w : World) : Calls Tryz.prog 45 #[.int .i64 n] w fun e w' => e = .returned (.int .i64 (sgI n)) ∧ w = w' := by
  by_cases h1 : n < 0
  · have h2 : decide (n < 0) = true := by simpa using h1
    have HV := Hd.mk (show sgI n = -1 by simp [sgI, h1])
    clear h1
    go_enter Tryz.func45, Tryz.ntmps45
    go_wp2
    go_ret
    exact ⟨by rw [HV.out]; rfl, rfl⟩
  · have h2 : decide (n < 0) = false := by simpa using h1
    by_cases h3 : n > 0
    · have h4 : decide (n > 0) = true := by simpa using h3
      have HV := Hd.mk (show sgI n = 1 by unfold sgI; rw [if_neg h1, if_neg (by omega)])
      clear h1 h3
      go_enter Tryz.func45, Tryz.ntmps45
      go_wp2
      go_ret
      exact ⟨by rw [HV.out]; rfl, rfl⟩
    · have h4 : decide (n > 0) = false := by simpa using h3
      have HV := Hd.mk (show sgI n = 0 by unfold sgI; rw [if_neg h1, if_pos (by omega)])
      clear h1 h3
      go_enter Tryz.func45, Tryz.ntmps45
      go_wp2
      go_ret
      exact ⟨by rw [HV.out]; rfl, rfl⟩
set_option maxHeartbeats 1000000 in
theorem rnode_any (x y : Int) (w : World) : Calls Tryz.prog 16 #[.agg #[.int .i64 x, .int .i64 y]] w fun e w' => e = .returned (.bool (nodeB x y)) ∧ Below w.heap.size w w' := by
  unfold nodeB inR
  cases h1 : decide (-67108864 ≤ x)
  · have g1 : decide (x ≥ -67108864) = false := h1
    go_enter Tryz.func16, Tryz.ntmps16
    go_wp2
    go_ret
    exact ⟨by simp, by focus (repeat (first | (with_reducible exact Below.refl _ _) | (with_reducible assumption) | ((with_reducible refine Below.setCell ?_ ?_ _); rotate_left; (focus (first | omega | (simp; done) | (simp; omega)))) | ((with_reducible refine Below.alloc ?_ ?_ _); rotate_left; (focus (first | omega | (simp; done) | (simp; omega)))) | (with_reducible refine Below.drew ?_) | (refine below_on ?_ (by assumption))))⟩
  · have g1 : decide (x ≥ -67108864) = true := h1
    cases h2 : decide (x ≤ 67108864)
    · go_enter Tryz.func16, Tryz.ntmps16
      go_wp2
      go_ret
      exact ⟨by simp, by focus (repeat (first | (with_reducible exact Below.refl _ _) | (with_reducible assumption) | ((with_reducible refine Below.setCell ?_ ?_ _); rotate_left; (focus (first | omega | (simp; done) | (simp; omega)))) | ((with_reducible refine Below.alloc ?_ ?_ _); rotate_left; (focus (first | omega | (simp; done) | (simp; omega)))) | (with_reducible refine Below.drew ?_) | (refine below_on ?_ (by assumption))))⟩
    · cases h3 : decide (-67108864 ≤ y)
      · have g3 : decide (y ≥ -67108864) = false := h3
        go_enter Tryz.func16, Tryz.ntmps16
        go_wp2
        go_ret
        exact ⟨by simp, by focus (repeat (first | (with_reducible exact Below.refl _ _) | (with_reducible assumption) | ((with_reducible refine Below.setCell ?_ ?_ _); rotate_left; (focus (first | omega | (simp; done) | (simp; omega)))) | ((with_reducible refine Below.alloc ?_ ?_ _); rotate_left; (focus (first | omega | (simp; done) | (simp; omega)))) | (with_reducible refine Below.drew ?_) | (refine below_on ?_ (by assumption))))⟩
      · have g3 : decide (y ≥ -67108864) = true := h3
        cases h4 : decide (y ≤ 67108864)
        · go_enter Tryz.func16, Tryz.ntmps16
          go_wp2
          go_ret
          exact ⟨by simp, by focus (repeat (first | (with_reducible exact Below.refl _ _) | (with_reducible assumption) | ((with_reducible refine Below.setCell ?_ ?_ _); rotate_left; (focus (first | omega | (simp; done) | (simp; omega)))) | ((with_reducible refine Below.alloc ?_ ?_ _); rotate_left; (focus (first | omega | (simp; done) | (simp; omega)))) | (with_reducible refine Below.drew ?_) | (refine below_on ?_ (by assumption))))⟩
        · go_enter Tryz.func16, Tryz.ntmps16
          go_wp2
          go_ret
          exact ⟨by simp, by focus (repeat (first | (with_reducible exact Below.refl _ _) | (with_reducible assumption) | ((with_reducible refine Below.setCell ?_ ?_ _); rotate_left; (focus (first | omega | (simp; done) | (simp; omega)))) | ((with_reducible refine Below.alloc ?_ ?_ _); rotate_left; (focus (first | omega | (simp; done) | (simp; omega)))) | (with_reducible refine Below.drew ?_) | (refine below_on ?_ (by assumption))))⟩
end Go.Proofs.YtbhfnfokihdjjaaGreatDoor

namespace Go.Proofs.YtbhfnfokihdjjaaGreatDoor
open Go.RowKit Go.BigFrame

/-- May a segment be? -/
def segB (ax ay bx by_ : Int) : Bool := nodeB ax ay && (nodeB bx by_ && !(ax == bx && ay == by_))
theorem pcheck_v (x y : Int) (b : Bool) (h : nodeB x y = b) (w : World) : Calls Tryz.prog 37 #[.agg #[.int .i64 x, .int .i64 y]] w fun e w' => e = .returned (.int .i64 (if b then 0 else 2)) ∧ Below w.heap.size w w' := by
  rw [← h]
  exact pcheck_any x y w
theorem rnode_v (x y : Int) (b : Bool) (h : nodeB x y = b) (w : World) : Calls Tryz.prog 16 #[.agg #[.int .i64 x, .int .i64 y]] w fun e w' => e = .returned (.bool b) ∧ Below w.heap.size w w' := by
  rw [← h]
  exact rnode_any x y w
set_option maxRecDepth 20000 in
set_option maxHeartbeats 1000000 in
theorem seg_check (ax ay bx by_ : Int) (w : World) : Calls Tryz.prog 14 #[.agg #[.int .i64 ax, .int .i64 ay, .int .i64 bx, .int .i64 by_]] w fun e w' => e = .returned (.int .i64 (if segB ax ay bx by_ then 0 else 2)) ∧ Below w.heap.size w w' := by
  unfold segB
  obtain ⟨p, hp⟩ : ∃ p, nodeB ax ay = p := ⟨_, rfl⟩
  obtain ⟨q, hq⟩ : ∃ q, nodeB bx by_ = q := ⟨_, rfl⟩
  obtain ⟨r, hr⟩ : ∃ r, (ax == bx && ay == by_) = r := ⟨_, rfl⟩
  have HP := Hd.mk hp
  have HQ := Hd.mk hq
  rw [hp, hq, hr]
  have HR := Hd.mk hr
  clear hp hq hr
  go_enter Tryz.func14, Tryz.ntmps14
  go_wp2_with fail
  refine (pcheck_v ax ay p HP.out _).mono ?_
  rintro e wa ⟨rfl, hb⟩
  have z0 := heap_below hb (heap_new w (.cells #[.int .i64 ax, .int .i64 ay, .int .i64 bx, .int .i64 by_] 25))
  have hB : Below w.heap.size w wa := below_on (by focus (repeat (first | (with_reducible exact Below.refl _ _) | (with_reducible assumption) | ((with_reducible refine Below.setCell ?_ ?_ _); rotate_left; (focus (first | omega | (simp; done) | (simp; omega)))) | ((with_reducible refine Below.alloc ?_ ?_ _); rotate_left; (focus (first | omega | (simp; done) | (simp; omega)))) | (with_reducible refine Below.drew ?_) | (refine below_on ?_ (by assumption))))) hb
  have c0 := cell_at z0
  clear hb HP
  cases p with
  | false =>
    go_wp2
    go_ret
    exact ⟨rfl, hB⟩
  | true =>
    go_wp2_with fail
    refine (pcheck_v bx by_ q HQ.out _).mono ?_
    rintro e wb ⟨rfl, hb⟩
    have z1 := heap_below hb z0
    have hB2 := below_on hB hb
    have c1 := cell_at z1
    clear hb HQ z0 c0 hB
    cases q with
    | false =>
      go_wp2
      go_ret
      exact ⟨rfl, hB2⟩
    | true =>
      have hr := HR.out
      cases r with
      | false =>
        go_wp2
        all_goals first
          | (exfalso; simp_all; done)
          | (go_ret; exact ⟨by first | rfl | simp_all, hB2⟩)
      | true =>
        go_wp2
        all_goals first
          | (exfalso; simp_all; done)
          | (go_ret; exact ⟨by first | rfl | simp_all, hB2⟩)
set_option maxRecDepth 20000 in
set_option maxHeartbeats 1000000 in
theorem rseg_right (ax ay bx by_ : Int) (w : World) : Calls Tryz.prog 12 #[.agg #[.int .i64 ax, .int .i64 ay, .int .i64 bx, .int .i64 by_]] w fun e w' => e = .returned (.bool (segB ax ay bx by_)) ∧ Below w.heap.size w w' := by
  unfold segB
  obtain ⟨p, hp⟩ : ∃ p, nodeB ax ay = p := ⟨_, rfl⟩
  obtain ⟨q, hq⟩ : ∃ q, nodeB bx by_ = q := ⟨_, rfl⟩
  obtain ⟨r, hr⟩ : ∃ r, (ax == bx && ay == by_) = r := ⟨_, rfl⟩
  have HP := Hd.mk hp
  have HQ := Hd.mk hq
  rw [hp, hq, hr]
  have HR := Hd.mk hr
  clear hp hq hr
  go_enter Tryz.func12, Tryz.ntmps12
  go_wp2_with fail
  refine (rnode_v ax ay p HP.out _).mono ?_
  rintro e wa ⟨rfl, hb⟩
  have z0 := heap_below hb (heap_new w (.cells #[.int .i64 ax, .int .i64 ay, .int .i64 bx, .int .i64 by_] 25))
  have hB : Below w.heap.size w wa := below_on (by focus (repeat (first | (with_reducible exact Below.refl _ _) | (with_reducible assumption) | ((with_reducible refine Below.setCell ?_ ?_ _); rotate_left; (focus (first | omega | (simp; done) | (simp; omega)))) | ((with_reducible refine Below.alloc ?_ ?_ _); rotate_left; (focus (first | omega | (simp; done) | (simp; omega)))) | (with_reducible refine Below.drew ?_) | (refine below_on ?_ (by assumption))))) hb
  have c0 := cell_at z0
  clear hb HP
  cases p with
  | false =>
    go_wp2
    go_ret
    exact ⟨rfl, hB⟩
  | true =>
    go_wp2_with fail
    refine (rnode_v bx by_ q HQ.out _).mono ?_
    rintro e wb ⟨rfl, hb⟩
    have z1 := heap_below hb z0
    have hB2 := below_on hB hb
    have c1 := cell_at z1
    clear hb HQ z0 c0 hB
    cases q with
    | false =>
      go_wp2
      go_ret
      exact ⟨rfl, hB2⟩
    | true =>
      have hr := HR.out
      cases r with
      | false =>
        go_wp2
        all_goals first
          | (exfalso; simp_all; done)
          | (go_ret; exact ⟨by first | rfl | simp_all, hB2⟩)
      | true =>
        go_wp2
        all_goals first
          | (exfalso; simp_all; done)
          | (go_ret; exact ⟨by first | rfl | simp_all, hB2⟩)
end Go.Proofs.YtbhfnfokihdjjaaGreatDoor
