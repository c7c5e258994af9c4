/-
  Walks of ratio: right, Check. Conditions stand in each theorem.
-/
import Derived.Test.YtfchmikbebdflaaGreatDoorWd3
import Derived.Test.YtfchmikbebdflaaGreatDoorLm21
import Derived.Test.YtfchmikbebdflaaGreatDoorRf6
namespace Go.Proofs.YtfchmikbebdflaaGreatDoor
open Go.RowKit Go.BigFrame

/-- May a fraction of Ints be? -/
def okR (p q : Bool × Nat) : Prop := okP p ∧ okP q ∧ 0 < zof q.1 q.2 ∧ Nat.gcd p.2 q.2 = 1
theorem eq_one (g : Nat) (hg : g < 2 ^ 256) : (ng (g : Int) == ng 1 && (dg (ab (g : Int)) 0 == dg (ab 1) 0 && (dg (ab (g : Int)) 1 == dg (ab 1) 1 && (dg (ab (g : Int)) 2 == dg (ab 1) 2 && dg (ab (g : Int)) 3 == dg (ab 1) 3)))) = decide (g = 1) := by
  have h1 : ng (g : Int) = false := ng_nat g
  have h2 : ng 1 = false := rfl
  have h3 : ab (g : Int) = g := ab_nat g
  have h4 : ab 1 = 1 := rfl
  rw [h1, h2, h3, h4, Bool.eq_iff_iff]
  simp only [Bool.and_eq_true, beq_iff_eq, decide_eq_true_eq, true_and]
  constructor
  · rintro ⟨e0, e1, e2, e3⟩
    exact dg_inj hg (by decide) e0 e1 e2 e3
  · rintro rfl
    exact ⟨rfl, rfl, rfl, rfl⟩
set_option maxRecDepth 20000 in
set_option maxHeartbeats 1000000 in
theorem right_bad (p q : Bool × Nat) (hp : p.2 < 2 ^ 256) (hq : q.2 < 2 ^ 256) (h : ¬ (okP p ∧ okP q)) (w : World) :
    Calls Tryz.prog 107 #[.agg #[.bool (p.1), .int .u64 (dg (p.2) 0), .int .u64 (dg (p.2) 1), .int .u64 (dg (p.2) 2), .int .u64 (dg (p.2) 3), .bool (q.1), .int .u64 (dg (q.2) 0), .int .u64 (dg (q.2) 1), .int .u64 (dg (q.2) 2), .int .u64 (dg (q.2) 3)]] w fun e w' => e = .returned (.bool false) ∧ Below w.heap.size w w' := by
  have HP := Hd.mk hp
  have HQ := Hd.mk hq
  have HH := Hd.mk h
  clear hp hq h
  go_enter Tryz.func107, Tryz.ntmps107
  go_wp2_with fail
  refine (gcd_bad p q HP.out HQ.out HH.out _).mono ?_
  rintro e wa ⟨rfl, hb⟩
  go_upto_region 2 with (fail)
  have y1 := heap_below hb (heap_new w (.cells #[.bool (p.1), .int .u64 (dg (p.2) 0), .int .u64 (dg (p.2) 1), .int .u64 (dg (p.2) 2), .int .u64 (dg (p.2) 3), .bool (q.1), .int .u64 (dg (q.2) 0), .int .u64 (dg (q.2) 1), .int .u64 (dg (q.2) 2), .int .u64 (dg (q.2) 3)] 165))
  have hB1 : Below w.heap.size w wa := below_on (by focus (repeat (first | (with_reducible exact Below.refl _ _) | (with_reducible assumption) | ((with_reducible refine Below.setCell ?_ ?_ _); rotate_left; (focus (first | omega | (simp; done) | (simp; omega)))) | ((with_reducible refine Below.alloc ?_ ?_ _); rotate_left; (focus (first | omega | (simp; done) | (simp; omega)))) | (with_reducible refine Below.drew ?_) | (refine below_on ?_ (by assumption))))) hb
  clear hb
  refine abs_wp (fun W => W.heap[w.heap.size]? = some (.cells #[.bool (p.1), .int .u64 (dg (p.2) 0), .int .u64 (dg (p.2) 1), .int .u64 (dg (p.2) 2), .int .u64 (dg (p.2) 3), .bool (q.1), .int .u64 (dg (q.2) 0), .int .u64 (dg (q.2) 1), .int .u64 (dg (q.2) 2), .int .u64 (dg (q.2) 3)] 165 (0, 0)) ∧ W.heap[wa.heap.size]? = some (.cells #[.bool (ng (0)), .int .u64 (dg (ab (0)) 0), .int .u64 (dg (ab (0)) 1), .int .u64 (dg (ab (0)) 2), .int .u64 (dg (ab (0)) 3)] 89 (0, 0)) ∧ Below w.heap.size w W) ⟨heap_old y1 _, heap_new _ _, by have hs := hB1.size; focus (repeat (first | (with_reducible exact Below.refl _ _) | (with_reducible assumption) | ((with_reducible refine Below.setCell ?_ ?_ _); rotate_left; (focus (first | omega | (simp; done) | (simp; omega)))) | ((with_reducible refine Below.alloc ?_ ?_ _); rotate_left; (focus (first | omega | (simp; done) | (simp; omega)))) | (with_reducible refine Below.drew ?_) | (refine below_on ?_ (by assumption))))⟩ fun W ⟨z1, z3, hB⟩ => ?_
  clear y1 hB1
  refine region_qt 12 (by kernel_rfl) (by kernel_rfl) fun X _ mk hmk hcl => ?_
  have c1 := mk_cell hmk z1
  have c3 := mk_cell hmk z3
  simp only [List.take_succ_cons, List.take_zero, List.drop_succ_cons, List.drop_zero]
  repeat (go_big_quiet_step (skip))
  refine wpQuiet_nil ?_
  rintro _ ⟨x, rfl⟩
  have hbx := hmk x
  clear hcl hmk c1 c3
  generalize mk x = W2 at hbx ⊢
  have hB2 := Hd.mk (below_on hB hbx)
  clear hB hbx z1 z3
  go_wp2
  go_ret
  exact ⟨rfl, hB2.out⟩
set_option maxRecDepth 20000 in
set_option maxHeartbeats 1000000 in
theorem right_neg (m n : Int) (hm : ab m < 2 ^ 256) (hn : ab n < 2 ^ 256) (h : ¬ 0 < n) (w : World) :
    Calls Tryz.prog 107 #[.agg #[.bool (ng m), .int .u64 (dg (ab m) 0), .int .u64 (dg (ab m) 1), .int .u64 (dg (ab m) 2), .int .u64 (dg (ab m) 3), .bool (ng n), .int .u64 (dg (ab n) 0), .int .u64 (dg (ab n) 1), .int .u64 (dg (ab n) 2), .int .u64 (dg (ab n) 3)]] w fun e w' => e = .returned (.bool false) ∧ Below w.heap.size w w' := by
  have HM := Hd.mk hm
  have HN := Hd.mk hn
  clear hm hn
  go_enter Tryz.func107, Tryz.ntmps107
  go_wp2_with fail
  refine (gcd_ok m n HM.out HN.out _).mono ?_
  generalize Nat.gcd (ab m) (ab n) = g
  rintro e wa ⟨rfl, hb⟩
  go_upto_region 2 with (fail)
  have y1 := heap_below hb (heap_new w (.cells #[.bool (ng m), .int .u64 (dg (ab m) 0), .int .u64 (dg (ab m) 1), .int .u64 (dg (ab m) 2), .int .u64 (dg (ab m) 3), .bool (ng n), .int .u64 (dg (ab n) 0), .int .u64 (dg (ab n) 1), .int .u64 (dg (ab n) 2), .int .u64 (dg (ab n) 3)] 165))
  have hB1 : Below w.heap.size w wa := below_on (by focus (repeat (first | (with_reducible exact Below.refl _ _) | (with_reducible assumption) | ((with_reducible refine Below.setCell ?_ ?_ _); rotate_left; (focus (first | omega | (simp; done) | (simp; omega)))) | ((with_reducible refine Below.alloc ?_ ?_ _); rotate_left; (focus (first | omega | (simp; done) | (simp; omega)))) | (with_reducible refine Below.drew ?_) | (refine below_on ?_ (by assumption))))) hb
  clear hb
  refine abs_wp (fun W => W.heap[w.heap.size]? = some (.cells #[.bool (ng m), .int .u64 (dg (ab m) 0), .int .u64 (dg (ab m) 1), .int .u64 (dg (ab m) 2), .int .u64 (dg (ab m) 3), .bool (ng n), .int .u64 (dg (ab n) 0), .int .u64 (dg (ab n) 1), .int .u64 (dg (ab n) 2), .int .u64 (dg (ab n) 3)] 165 (0, 0)) ∧ W.heap[wa.heap.size]? = some (.cells #[.bool (ng ((g : Nat))), .int .u64 (dg (ab ((g : Nat))) 0), .int .u64 (dg (ab ((g : Nat))) 1), .int .u64 (dg (ab ((g : Nat))) 2), .int .u64 (dg (ab ((g : Nat))) 3)] 89 (0, 0)) ∧ Below w.heap.size w W) ⟨heap_old y1 _, heap_new _ _, by have hs := hB1.size; focus (repeat (first | (with_reducible exact Below.refl _ _) | (with_reducible assumption) | ((with_reducible refine Below.setCell ?_ ?_ _); rotate_left; (focus (first | omega | (simp; done) | (simp; omega)))) | ((with_reducible refine Below.alloc ?_ ?_ _); rotate_left; (focus (first | omega | (simp; done) | (simp; omega)))) | (with_reducible refine Below.drew ?_) | (refine below_on ?_ (by assumption))))⟩ fun W ⟨z1, z3, hB⟩ => ?_
  clear y1 hB1
  refine region_qt 12 (by kernel_rfl) (by kernel_rfl) fun X _ mk hmk hcl => ?_
  have c1 := mk_cell hmk z1
  have c3 := mk_cell hmk z3
  have hs : decide (sgn n > 0) = false := by unfold sgn; simp; split <;> (try split) <;> omega
  clear h
  simp only [List.take_succ_cons, List.take_zero, List.drop_succ_cons, List.drop_zero]
  repeat (go_big_quiet_step ((go_at_call 134; exact (sign_ok n HN.out _).mono fun e w' ⟨he, hw⟩ => ⟨he, hcl _ _ hw⟩)))
  refine wpQuiet_nil ?_
  rintro _ ⟨x, rfl⟩
  have hbx := hmk x
  clear hcl hmk c1 c3
  generalize mk x = W2 at hbx ⊢
  have hB2 := Hd.mk (below_on hB hbx)
  clear hB hbx z1 z3
  go_wp2
  go_ret
  exact ⟨rfl, hB2.out⟩
theorem gcd_one (m n : Int) (hm : ab m < 2 ^ 256) (hn : ab n < 2 ^ 256) (h : Nat.gcd (ab m) (ab n) = 1) (w : World) :
    Calls Tryz.prog 133 #[.agg #[.bool (ng (m)), .int .u64 (dg (ab (m)) 0), .int .u64 (dg (ab (m)) 1), .int .u64 (dg (ab (m)) 2), .int .u64 (dg (ab (m)) 3)], .agg #[.bool (ng (n)), .int .u64 (dg (ab (n)) 0), .int .u64 (dg (ab (n)) 1), .int .u64 (dg (ab (n)) 2), .int .u64 (dg (ab (n)) 3)]] w fun e w' => e = .returned (.tuple #[.agg #[.bool (ng (1)), .int .u64 (dg (ab (1)) 0), .int .u64 (dg (ab (1)) 1), .int .u64 (dg (ab (1)) 2), .int .u64 (dg (ab (1)) 3)], .int .i64 0]) ∧ Below w.heap.size w w' := by
  have h1 := gcd_ok m n hm hn w
  rw [h] at h1
  exact h1
set_option maxRecDepth 20000 in
set_option maxHeartbeats 1000000 in
theorem right_one (m n : Int) (hm : ab m < 2 ^ 256) (hn : ab n < 2 ^ 256) (h : 0 < n) (h1 : Nat.gcd (ab m) (ab n) = 1) (w : World) :
    Calls Tryz.prog 107 #[.agg #[.bool (ng m), .int .u64 (dg (ab m) 0), .int .u64 (dg (ab m) 1), .int .u64 (dg (ab m) 2), .int .u64 (dg (ab m) 3), .bool (ng n), .int .u64 (dg (ab n) 0), .int .u64 (dg (ab n) 1), .int .u64 (dg (ab n) 2), .int .u64 (dg (ab n) 3)]] w fun e w' => e = .returned (.bool true) ∧ Below w.heap.size w w' := by
  have HC := Hd.mk h1
  clear h1
  have HM := Hd.mk hm
  have HN := Hd.mk hn
  clear hm hn
  go_enter Tryz.func107, Tryz.ntmps107
  go_wp2_with fail
  refine (gcd_one m n HM.out HN.out HC.out _).mono ?_
  rintro e wa ⟨rfl, hb⟩
  go_upto_region 2 with (fail)
  have y1 := heap_below hb (heap_new w (.cells #[.bool (ng m), .int .u64 (dg (ab m) 0), .int .u64 (dg (ab m) 1), .int .u64 (dg (ab m) 2), .int .u64 (dg (ab m) 3), .bool (ng n), .int .u64 (dg (ab n) 0), .int .u64 (dg (ab n) 1), .int .u64 (dg (ab n) 2), .int .u64 (dg (ab n) 3)] 165))
  have hB1 : Below w.heap.size w wa := below_on (by focus (repeat (first | (with_reducible exact Below.refl _ _) | (with_reducible assumption) | ((with_reducible refine Below.setCell ?_ ?_ _); rotate_left; (focus (first | omega | (simp; done) | (simp; omega)))) | ((with_reducible refine Below.alloc ?_ ?_ _); rotate_left; (focus (first | omega | (simp; done) | (simp; omega)))) | (with_reducible refine Below.drew ?_) | (refine below_on ?_ (by assumption))))) hb
  clear hb
  refine abs_wp (fun W => W.heap[w.heap.size]? = some (.cells #[.bool (ng m), .int .u64 (dg (ab m) 0), .int .u64 (dg (ab m) 1), .int .u64 (dg (ab m) 2), .int .u64 (dg (ab m) 3), .bool (ng n), .int .u64 (dg (ab n) 0), .int .u64 (dg (ab n) 1), .int .u64 (dg (ab n) 2), .int .u64 (dg (ab n) 3)] 165 (0, 0)) ∧ W.heap[wa.heap.size]? = some (.cells #[.bool (ng (1)), .int .u64 (dg (ab (1)) 0), .int .u64 (dg (ab (1)) 1), .int .u64 (dg (ab (1)) 2), .int .u64 (dg (ab (1)) 3)] 89 (0, 0)) ∧ Below w.heap.size w W) ⟨heap_old y1 _, heap_new _ _, by have hs := hB1.size; focus (repeat (first | (with_reducible exact Below.refl _ _) | (with_reducible assumption) | ((with_reducible refine Below.setCell ?_ ?_ _); rotate_left; (focus (first | omega | (simp; done) | (simp; omega)))) | ((with_reducible refine Below.alloc ?_ ?_ _); rotate_left; (focus (first | omega | (simp; done) | (simp; omega)))) | (with_reducible refine Below.drew ?_) | (refine below_on ?_ (by assumption))))⟩ fun W ⟨z1, z3, hB⟩ => ?_
  clear y1 hB1
  refine region_qt 12 (by kernel_rfl) (by kernel_rfl) fun X _ mk hmk hcl => ?_
  have c1 := mk_cell hmk z1
  have c3 := mk_cell hmk z3
  have hs : decide (sgn n > 0) = true := by unfold sgn; simp; split <;> (try split) <;> omega
  clear h
  simp only [List.take_succ_cons, List.take_zero, List.drop_succ_cons, List.drop_zero]
  repeat (go_big_quiet_step (first | (go_at_call 134; exact (sign_ok n HN.out _).mono fun e w' ⟨he, hw⟩ => ⟨he, hcl _ _ hw⟩) | (go_at_call 112; exact (of_word 1 (by decide) (by decide) _).mono fun e w' ⟨he, hw⟩ => ⟨he, hcl _ _ hw⟩)))
  refine wpQuiet_nil ?_
  rintro _ ⟨x, rfl⟩
  have hbx := hmk x
  clear hcl hmk c1 c3
  generalize mk x = W2 at hbx ⊢
  have hB2 := Hd.mk (below_on hB hbx)
  clear hB hbx z1 z3
  go_wp2
  go_ret
  exact ⟨rfl, hB2.out⟩
set_option maxRecDepth 20000 in
set_option maxHeartbeats 1000000 in
theorem right_not (m n : Int) (hm : ab m < 2 ^ 256) (hn : ab n < 2 ^ 256) (h : 0 < n) (h1 : ¬ Nat.gcd (ab m) (ab n) = 1) (w : World) :
    Calls Tryz.prog 107 #[.agg #[.bool (ng m), .int .u64 (dg (ab m) 0), .int .u64 (dg (ab m) 1), .int .u64 (dg (ab m) 2), .int .u64 (dg (ab m) 3), .bool (ng n), .int .u64 (dg (ab n) 0), .int .u64 (dg (ab n) 1), .int .u64 (dg (ab n) 2), .int .u64 (dg (ab n) 3)]] w fun e w' => e = .returned (.bool false) ∧ Below w.heap.size w w' := by
  have hab : 0 < ab n := by unfold ab; omega
  have hgl : Nat.gcd (ab m) (ab n) < 2 ^ 256 := Nat.lt_of_le_of_lt (Nat.gcd_le_right _ hab) hn
  have hq := eq_one _ hgl
  clear hab hgl
  rw [decide_eq_false h1] at hq
  have HG := Hd.mk hq
  clear hq h1
  have HM := Hd.mk hm
  have HN := Hd.mk hn
  clear hm hn
  go_enter Tryz.func107, Tryz.ntmps107
  go_wp2_with fail
  refine (gcd_ok m n HM.out HN.out _).mono ?_
  generalize Nat.gcd (ab m) (ab n) = g at HG ⊢
  rintro e wa ⟨rfl, hb⟩
  go_upto_region 2 with (fail)
  have y1 := heap_below hb (heap_new w (.cells #[.bool (ng m), .int .u64 (dg (ab m) 0), .int .u64 (dg (ab m) 1), .int .u64 (dg (ab m) 2), .int .u64 (dg (ab m) 3), .bool (ng n), .int .u64 (dg (ab n) 0), .int .u64 (dg (ab n) 1), .int .u64 (dg (ab n) 2), .int .u64 (dg (ab n) 3)] 165))
  have hB1 : Below w.heap.size w wa := below_on (by focus (repeat (first | (with_reducible exact Below.refl _ _) | (with_reducible assumption) | ((with_reducible refine Below.setCell ?_ ?_ _); rotate_left; (focus (first | omega | (simp; done) | (simp; omega)))) | ((with_reducible refine Below.alloc ?_ ?_ _); rotate_left; (focus (first | omega | (simp; done) | (simp; omega)))) | (with_reducible refine Below.drew ?_) | (refine below_on ?_ (by assumption))))) hb
  clear hb
  refine abs_wp (fun W => W.heap[w.heap.size]? = some (.cells #[.bool (ng m), .int .u64 (dg (ab m) 0), .int .u64 (dg (ab m) 1), .int .u64 (dg (ab m) 2), .int .u64 (dg (ab m) 3), .bool (ng n), .int .u64 (dg (ab n) 0), .int .u64 (dg (ab n) 1), .int .u64 (dg (ab n) 2), .int .u64 (dg (ab n) 3)] 165 (0, 0)) ∧ W.heap[wa.heap.size]? = some (.cells #[.bool (ng ((g : Nat))), .int .u64 (dg (ab ((g : Nat))) 0), .int .u64 (dg (ab ((g : Nat))) 1), .int .u64 (dg (ab ((g : Nat))) 2), .int .u64 (dg (ab ((g : Nat))) 3)] 89 (0, 0)) ∧ Below w.heap.size w W) ⟨heap_old y1 _, heap_new _ _, by have hs := hB1.size; focus (repeat (first | (with_reducible exact Below.refl _ _) | (with_reducible assumption) | ((with_reducible refine Below.setCell ?_ ?_ _); rotate_left; (focus (first | omega | (simp; done) | (simp; omega)))) | ((with_reducible refine Below.alloc ?_ ?_ _); rotate_left; (focus (first | omega | (simp; done) | (simp; omega)))) | (with_reducible refine Below.drew ?_) | (refine below_on ?_ (by assumption))))⟩ fun W ⟨z1, z3, hB⟩ => ?_
  clear y1 hB1
  refine region_qt 12 (by kernel_rfl) (by kernel_rfl) fun X _ mk hmk hcl => ?_
  have c1 := mk_cell hmk z1
  have c3 := mk_cell hmk z3
  have hs : decide (sgn n > 0) = true := by unfold sgn; simp; split <;> (try split) <;> omega
  clear h
  have he := HG.out
  simp only [List.take_succ_cons, List.take_zero, List.drop_succ_cons, List.drop_zero]
  repeat (go_big_quiet_step (first | (go_at_call 134; exact (sign_ok n HN.out _).mono fun e w' ⟨he, hw⟩ => ⟨he, hcl _ _ hw⟩) | (go_at_call 112; exact (of_word 1 (by decide) (by decide) _).mono fun e w' ⟨he, hw⟩ => ⟨he, hcl _ _ hw⟩)))
  refine wpQuiet_nil ?_
  rintro _ ⟨x, rfl⟩
  have hbx := hmk x
  clear hcl hmk c1 c3
  generalize mk x = W2 at hbx ⊢
  have hB2 := Hd.mk (below_on hB hbx)
  clear hB hbx z1 z3
  go_wp2
  all_goals first
    | (exfalso; simp_all; done)
    | (go_ret; exact ⟨rfl, hB2.out⟩)
theorem rat_ng {p : Bool × Nat} (h : okP p) : ng (zof p.1 p.2) = p.1 := by
  obtain ⟨s, n⟩ := p
  rw [ng_zof]
  cases s
  · rfl
  · simp [okP] at h; simp [h]
/-- A fraction of Ints: may it be? -/
theorem rat_right_any (p q : Bool × Nat) (hp : p.2 < 2 ^ 256) (hq : q.2 < 2 ^ 256) (b : Bool) (hb : b = true ↔ okR p q) (w : World) :
    Calls Tryz.prog 107 #[.agg #[.bool (p.1), .int .u64 (dg (p.2) 0), .int .u64 (dg (p.2) 1), .int .u64 (dg (p.2) 2), .int .u64 (dg (p.2) 3), .bool (q.1), .int .u64 (dg (q.2) 0), .int .u64 (dg (q.2) 1), .int .u64 (dg (q.2) 2), .int .u64 (dg (q.2) 3)]] w fun e w' => e = .returned (.bool b) ∧ Below w.heap.size w w' := by
  unfold okR at hb
  by_cases h : okP p ∧ okP q
  · obtain ⟨m, hm⟩ : ∃ m, m = zof p.1 p.2 := ⟨_, rfl⟩
    obtain ⟨n, hn⟩ : ∃ n, n = zof q.1 q.2 := ⟨_, rfl⟩
    have e1 : ng m = p.1 := by rw [hm]; exact rat_ng h.1
    have e2 : ab m = p.2 := by rw [hm]; exact ab_zof _ _
    have e3 : ng n = q.1 := by rw [hn]; exact rat_ng h.2
    have e4 : ab n = q.2 := by rw [hn]; exact ab_zof _ _
    rw [← hn, ← e2, ← e4] at hb
    clear hm hn
    rw [← e1, ← e2, ← e3, ← e4]
    rw [← e2] at hp
    rw [← e4] at hq
    by_cases h2 : 0 < n
    · by_cases h3 : Nat.gcd (ab m) (ab n) = 1
      · have hbt : b = true := hb.2 ⟨h.1, h.2, h2, h3⟩
        rw [hbt]
        exact right_one m n hp hq h2 h3 w
      · have hbt : b = false := by
          cases b
          · rfl
          · exact absurd (hb.1 rfl).2.2.2 h3
        rw [hbt]
        exact right_not m n hp hq h2 h3 w
    · have hbt : b = false := by
        cases b
        · rfl
        · exact absurd (hb.1 rfl).2.2.1 h2
      rw [hbt]
      exact right_neg m n hp hq h2 w
  · have hbt : b = false := by
      cases b
      · rfl
      · exact absurd ⟨(hb.1 rfl).1, (hb.1 rfl).2.1⟩ h
    rw [hbt]
    exact right_bad p q hp hq h w
end Go.Proofs.YtfchmikbebdflaaGreatDoor
