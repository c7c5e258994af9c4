/-
  Walks of seg and the references: which segment may be. Conditions stand in each theorem.
-/
import Derived.Deep.RegionHeld3
import Derived.Test.YtfchmikbebdflaaGreatDoorWd5
import Derived.Test.YtfchmikbebdflaaGreatDoorWd7
namespace Go.Proofs.YtfchmikbebdflaaGreatDoor
open Go.RowKit Go.BigFrame

set_option maxRecDepth 20000 in
set_option maxHeartbeats 1000000 in
theorem rat_check_any (p q : Bool × Nat) (hp : p.2 < 2 ^ 256) (hq : q.2 < 2 ^ 256) (b : Bool) (hb : b = true ↔ okR p q) (w : World) :
    Calls Tryz.prog 86 #[.agg #[.bool (p.1), .int .u64 (dg (p.2) 0), .int .u64 (dg (p.2) 1), .int .u64 (dg (p.2) 2), .int .u64 (dg (p.2) 3), .bool (q.1), .int .u64 (dg (q.2) 0), .int .u64 (dg (q.2) 1), .int .u64 (dg (q.2) 2), .int .u64 (dg (q.2) 3)]] w fun e w' => e = .returned (.int .i64 (if b then 0 else 2)) ∧ Below w.heap.size w w' := by
  have HP := Hd.mk hp
  have HQ := Hd.mk hq
  have HB := Hd.mk hb
  clear hp hq hb
  go_enter Tryz.func86, Tryz.ntmps86
  go_wp2_with fail
  refine (rat_right_any p q HP.out HQ.out b HB.out _).mono ?_
  rintro e wa ⟨rfl, hb⟩
  have hB := Hd.mk (show Below w.heap.size w wa from below_on (by focus (repeat (first | (with_reducible exact Below.refl _ _) | (with_reducible assumption) | ((with_reducible refine Below.setCell ?_ ?_ _); rotate_left; (focus (first | omega | (simp; done) | (simp; omega)))) | ((with_reducible refine Below.alloc ?_ ?_ _); rotate_left; (focus (first | omega | (simp; done) | (simp; omega)))) | (with_reducible refine Below.drew ?_) | (refine below_on ?_ (by assumption))))) hb)
  clear hb HB
  cases b with
  | true =>
    go_wp2
    go_ret
    exact ⟨rfl, hB.out⟩
  | false =>
    go_wp2
    go_ret
    exact ⟨rfl, hB.out⟩
end Go.Proofs.YtfchmikbebdflaaGreatDoor

namespace Go.Proofs.YtfchmikbebdflaaGreatDoor
open Go.RowKit Go.BigFrame

theorem ex_putw {T : Array Value} {ds : List Deferred} {G : (Nat → Value) → Act} {R : Prop} (h : (Act.mk T ds = G (fun i => T.getD i undef)) ∧ R) : ∃ v : Nat → Value, (Act.mk T ds = G v) ∧ R := ⟨_, h⟩
theorem region_abs_w {P : Program} {id : Nat} {ops : Array Oper} {dr : Bool} {Q : Exit → Act → World → Prop} {a : Act} {w : World} (Qr : Act → Act → World → Prop)
    (h1 : ∀ K : Act → World → Prop, (∀ a' w', Qr a a' w' → K a' w') → (Code.region id ops dr).wp P (fun ex a' w' => ex = .normal ∧ K a' w') a w) (h2 : ∀ a' w', Qr a a' w' → Q .normal a' w') : (Code.region id ops dr).wp P Q a w :=
  Code.wp_mono (fun ex a' w' h => by obtain ⟨rfl, h⟩ := h; exact h2 a' w' h) (h1 (fun a' w' => Qr a a' w') (fun _ _ h => h))
theorem szof_mul (a b : Bool) (x y : Nat) : zof (!(a == b)) (x * y) = zof a x * zof b y := by
  cases a <;> cases b <;> simp [zof, Int.neg_mul, Int.mul_neg]
theorem szof_mul_neg (a b : Bool) (x y : Nat) : zof (a == b) (x * y) = -(zof a x * zof b y) := by
  cases a <;> cases b <;> simp [zof, Int.neg_mul, Int.mul_neg]
theorem pow_three (k n : Nat) (h : k + k + 1 ≤ n) : (2 ^ k * 2 ^ k) * 2 ^ 1 ≤ 2 ^ n := by
  rw [← Nat.pow_add, ← Nat.pow_add]
  exact Nat.pow_le_pow_right (by decide) h
theorem prod_bound {a b c d : Nat} (ha : a < 2 ^ 256) (hb : b < 2 ^ 256) (hc : c < 2 ^ 256) (hd : d < 2 ^ 256) : a * b < 2 ^ (64 * 9) ∧ c * d < 2 ^ (64 * 9) ∧ a * b + c * d < 2 ^ (64 * 9) := by
  have h1 : a * b < 2 ^ 256 * 2 ^ 256 := Nat.mul_lt_mul'' ha hb
  have h2 : c * d < 2 ^ 256 * 2 ^ 256 := Nat.mul_lt_mul'' hc hd
  have h3 := pow_three 256 (64 * 9) (by decide)
  rw [Nat.pow_one] at h3
  generalize 2 ^ (64 * 9) = X at h3 ⊢
  generalize 2 ^ 256 * 2 ^ 256 = Y at h1 h2 h3
  omega
end Go.Proofs.YtfchmikbebdflaaGreatDoor

namespace Go.Proofs.YtfchmikbebdflaaGreatDoor
open Go.RowKit Go.BigFrame

theorem fieldsNode : (Tryz.prog.fieldsOf 24).toList.map (fun f => (f.name == "_", f.type, f.offset)) = [(false, 2, 0), (false, 2, 1)] := by kernel_rfl
@[go_sem] theorem eqNode (w : World) (d : Nat) (a0 a1 b0 b1 : Int) :
    (Op.equalIn (d + 2) 24 (.agg #[.int .i64 a0, .int .i64 a1]) (.agg #[.int .i64 b0, .int .i64 b1])).run Tryz.prog w = .ok (a0 == b0 && a1 == b1) w := by
  rw [run_equalIn_struct (P := Tryz.prog) w (d + 1) 24 _ _ (by kernel_rfl) (by kernel_rfl)]
  have h := fieldsNode
  generalize (Tryz.prog.fieldsOf 24).toList = fs at h
  obtain ⟨f0, f1, rfl⟩ : ∃ f0 f1, fs = [f0, f1] := by
    have hl := congrArg List.length h
    rw [List.length_map] at hl
    cases fs with
    | nil => simp at hl
    | cons f0 fs =>
      cases fs with
      | nil => simp at hl
      | cons f1 fs =>
        cases fs with
        | nil => exact ⟨f0, f1, rfl⟩
        | cons f2 fs => simp at hl
  · simp only [List.map_cons, List.map_nil, List.cons.injEq, Prod.mk.injEq, and_true] at h
    obtain ⟨⟨n0, t0, o0⟩, n1, t1, o1⟩ := h
    have m0 : f0.name ≠ "_" := by simpa using n0
    have m1 : f1.name ≠ "_" := by simpa using n1
    have g0 : ∀ w : World, (isAgg 2).run Tryz.prog w = .ok false w := fun w => by simp [isAgg, run_underlying Tryz.underlying2]
    simp only [Op.eqFields, if_pos m0, if_pos m1, t0, t1, o0, o1, part, Sem.run_bind, g0, Result.andThen_ok]
    have e0 := fun w => run_equalIn_int (P := Tryz.prog) w d 2 .i64 .i64 a0 b0 Tryz.underlying2
    have e1 := fun w => run_equalIn_int (P := Tryz.prog) w d 2 .i64 .i64 a1 b1 Tryz.underlying2
    cases hb : (a0 == b0)
    · rw [hb] at e0
      simp [e0]
    · rw [hb] at e0
      cases hr : (a1 == b1)
      · rw [hr] at e1
        simp [e0, e1]
      · rw [hr] at e1
        simp [e0, e1]
def inR (n l m : Int) : Bool := decide (l ≤ n) && decide (n ≤ m)
set_option maxHeartbeats 400000 in
theorem pin_any (n l m : Int) (w : World) : Calls Tryz.prog 63 #[.int .i64 n, .int .i64 l, .int .i64 m] w fun e w' => e = .returned (.bool (inR n l m)) ∧ w = w' := by
  unfold inR
  by_cases h : l ≤ n
  · have h1 : decide (l ≤ n) = true := by simpa using h
    clear h
    rw [h1]
    go_enter Tryz.func63, Tryz.ntmps63
    go_wp2
    go_ret
    exact ⟨by simp, rfl⟩
  · have h1 : decide (l ≤ n) = false := by simpa using h
    clear h
    rw [h1]
    go_enter Tryz.func63, Tryz.ntmps63
    go_wp2
    go_ret
    exact ⟨by simp, rfl⟩
/-- May a node be? -/
def nodeB (x y : Int) : Bool := inR x (-67108864) 67108864 && inR y (-67108864) 67108864
set_option maxHeartbeats 400000 in
theorem pcheck_any (x y : Int) (w : World) : Calls Tryz.prog 36 #[.agg #[.int .i64 x, .int .i64 y]] w fun e w' => e = .returned (.int .i64 (if nodeB x y then 0 else 2)) ∧ Below w.heap.size w w' := by
  unfold nodeB
  cases h1 : inR x (-67108864) 67108864
  · have H1 := h1
    go_enter Tryz.func36, Tryz.ntmps36
    go_wp2_with (go_at_call 63; refine (pin_any _ _ _ _).mono ?_; rintro e w' ⟨rfl, rfl⟩)
    go_ret
    exact ⟨rfl, by focus (repeat (first | (with_reducible exact Below.refl _ _) | (with_reducible assumption) | ((with_reducible refine Below.setCell ?_ ?_ _); rotate_left; (focus (first | omega | (simp; done) | (simp; omega)))) | ((with_reducible refine Below.alloc ?_ ?_ _); rotate_left; (focus (first | omega | (simp; done) | (simp; omega)))) | (with_reducible refine Below.drew ?_) | (refine below_on ?_ (by assumption))))⟩
  · cases h2 : inR y (-67108864) 67108864
    · go_enter Tryz.func36, Tryz.ntmps36
      go_wp2_with (go_at_call 63; refine (pin_any _ _ _ _).mono ?_; rintro e w' ⟨rfl, rfl⟩)
      go_ret
      exact ⟨rfl, by focus (repeat (first | (with_reducible exact Below.refl _ _) | (with_reducible assumption) | ((with_reducible refine Below.setCell ?_ ?_ _); rotate_left; (focus (first | omega | (simp; done) | (simp; omega)))) | ((with_reducible refine Below.alloc ?_ ?_ _); rotate_left; (focus (first | omega | (simp; done) | (simp; omega)))) | (with_reducible refine Below.drew ?_) | (refine below_on ?_ (by assumption))))⟩
    · go_enter Tryz.func36, Tryz.ntmps36
      go_wp2_with (go_at_call 63; refine (pin_any _ _ _ _).mono ?_; rintro e w' ⟨rfl, rfl⟩)
      go_ret
      exact ⟨rfl, by focus (repeat (first | (with_reducible exact Below.refl _ _) | (with_reducible assumption) | ((with_reducible refine Below.setCell ?_ ?_ _); rotate_left; (focus (first | omega | (simp; done) | (simp; omega)))) | ((with_reducible refine Below.alloc ?_ ?_ _); rotate_left; (focus (first | omega | (simp; done) | (simp; omega)))) | (with_reducible refine Below.drew ?_) | (refine below_on ?_ (by assumption))))⟩
end Go.Proofs.YtfchmikbebdflaaGreatDoor

namespace Go.Proofs.YtfchmikbebdflaaGreatDoor
open Go.RowKit Go.BigFrame

set_option maxHeartbeats 1000000 in
theorem rnode_any (x y : Int) (w : World) : Calls Tryz.prog 66 #[.agg #[.int .i64 x, .int .i64 y]] w fun e w' => e = .returned (.bool (nodeB x y)) ∧ Below w.heap.size w w' := by
  unfold nodeB inR
  cases h1 : decide (-67108864 ≤ x)
  · have g1 : decide (x ≥ -67108864) = false := h1
    go_enter Tryz.func66, Tryz.ntmps66
    go_wp2
    go_ret
    exact ⟨by simp, by focus (repeat (first | (with_reducible exact Below.refl _ _) | (with_reducible assumption) | ((with_reducible refine Below.setCell ?_ ?_ _); rotate_left; (focus (first | omega | (simp; done) | (simp; omega)))) | ((with_reducible refine Below.alloc ?_ ?_ _); rotate_left; (focus (first | omega | (simp; done) | (simp; omega)))) | (with_reducible refine Below.drew ?_) | (refine below_on ?_ (by assumption))))⟩
  · have g1 : decide (x ≥ -67108864) = true := h1
    cases h2 : decide (x ≤ 67108864)
    · go_enter Tryz.func66, Tryz.ntmps66
      go_wp2
      go_ret
      exact ⟨by simp, by focus (repeat (first | (with_reducible exact Below.refl _ _) | (with_reducible assumption) | ((with_reducible refine Below.setCell ?_ ?_ _); rotate_left; (focus (first | omega | (simp; done) | (simp; omega)))) | ((with_reducible refine Below.alloc ?_ ?_ _); rotate_left; (focus (first | omega | (simp; done) | (simp; omega)))) | (with_reducible refine Below.drew ?_) | (refine below_on ?_ (by assumption))))⟩
    · cases h3 : decide (-67108864 ≤ y)
      · have g3 : decide (y ≥ -67108864) = false := h3
        go_enter Tryz.func66, Tryz.ntmps66
        go_wp2
        go_ret
        exact ⟨by simp, by focus (repeat (first | (with_reducible exact Below.refl _ _) | (with_reducible assumption) | ((with_reducible refine Below.setCell ?_ ?_ _); rotate_left; (focus (first | omega | (simp; done) | (simp; omega)))) | ((with_reducible refine Below.alloc ?_ ?_ _); rotate_left; (focus (first | omega | (simp; done) | (simp; omega)))) | (with_reducible refine Below.drew ?_) | (refine below_on ?_ (by assumption))))⟩
      · have g3 : decide (y ≥ -67108864) = true := h3
        cases h4 : decide (y ≤ 67108864)
        · go_enter Tryz.func66, Tryz.ntmps66
          go_wp2
          go_ret
          exact ⟨by simp, by focus (repeat (first | (with_reducible exact Below.refl _ _) | (with_reducible assumption) | ((with_reducible refine Below.setCell ?_ ?_ _); rotate_left; (focus (first | omega | (simp; done) | (simp; omega)))) | ((with_reducible refine Below.alloc ?_ ?_ _); rotate_left; (focus (first | omega | (simp; done) | (simp; omega)))) | (with_reducible refine Below.drew ?_) | (refine below_on ?_ (by assumption))))⟩
        · go_enter Tryz.func66, Tryz.ntmps66
          go_wp2
          go_ret
          exact ⟨by simp, by focus (repeat (first | (with_reducible exact Below.refl _ _) | (with_reducible assumption) | ((with_reducible refine Below.setCell ?_ ?_ _); rotate_left; (focus (first | omega | (simp; done) | (simp; omega)))) | ((with_reducible refine Below.alloc ?_ ?_ _); rotate_left; (focus (first | omega | (simp; done) | (simp; omega)))) | (with_reducible refine Below.drew ?_) | (refine below_on ?_ (by assumption))))⟩
end Go.Proofs.YtfchmikbebdflaaGreatDoor

namespace Go.Proofs.YtfchmikbebdflaaGreatDoor
open Go.RowKit Go.BigFrame

/-- May a segment be? -/
def segB (ax ay bx by_ : Int) : Bool := nodeB ax ay && (nodeB bx by_ && !(ax == bx && ay == by_))
theorem pcheck_v (x y : Int) (b : Bool) (h : nodeB x y = b) (w : World) : Calls Tryz.prog 36 #[.agg #[.int .i64 x, .int .i64 y]] w fun e w' => e = .returned (.int .i64 (if b then 0 else 2)) ∧ Below w.heap.size w w' := by
  rw [← h]
  exact pcheck_any x y w
theorem rnode_v (x y : Int) (b : Bool) (h : nodeB x y = b) (w : World) : Calls Tryz.prog 66 #[.agg #[.int .i64 x, .int .i64 y]] w fun e w' => e = .returned (.bool b) ∧ Below w.heap.size w w' := by
  rw [← h]
  exact rnode_any x y w
set_option maxRecDepth 20000 in
set_option maxHeartbeats 1000000 in
theorem seg_check (ax ay bx by_ : Int) (w : World) : Calls Tryz.prog 34 #[.agg #[.int .i64 ax, .int .i64 ay, .int .i64 bx, .int .i64 by_]] w fun e w' => e = .returned (.int .i64 (if segB ax ay bx by_ then 0 else 2)) ∧ Below w.heap.size w w' := by
  unfold segB
  obtain ⟨p, hp⟩ : ∃ p, nodeB ax ay = p := ⟨_, rfl⟩
  obtain ⟨q, hq⟩ : ∃ q, nodeB bx by_ = q := ⟨_, rfl⟩
  obtain ⟨r, hr⟩ : ∃ r, (ax == bx && ay == by_) = r := ⟨_, rfl⟩
  have HP := Hd.mk hp
  have HQ := Hd.mk hq
  rw [hp, hq, hr]
  have HR := Hd.mk hr
  clear hp hq hr
  go_enter Tryz.func34, Tryz.ntmps34
  go_wp2_with fail
  refine (pcheck_v ax ay p HP.out _).mono ?_
  rintro e wa ⟨rfl, hb⟩
  have z0 := heap_below hb (heap_new w (.cells #[.int .i64 ax, .int .i64 ay, .int .i64 bx, .int .i64 by_] 26))
  have hB : Below w.heap.size w wa := below_on (by focus (repeat (first | (with_reducible exact Below.refl _ _) | (with_reducible assumption) | ((with_reducible refine Below.setCell ?_ ?_ _); rotate_left; (focus (first | omega | (simp; done) | (simp; omega)))) | ((with_reducible refine Below.alloc ?_ ?_ _); rotate_left; (focus (first | omega | (simp; done) | (simp; omega)))) | (with_reducible refine Below.drew ?_) | (refine below_on ?_ (by assumption))))) hb
  have c0 := cell_at z0
  clear hb HP
  cases p with
  | false =>
    go_wp2
    go_ret
    exact ⟨rfl, hB⟩
  | true =>
    go_wp2_with fail
    refine (pcheck_v bx by_ q HQ.out _).mono ?_
    rintro e wb ⟨rfl, hb⟩
    have z1 := heap_below hb z0
    have hB2 := below_on hB hb
    have c1 := cell_at z1
    clear hb HQ z0 c0 hB
    cases q with
    | false =>
      go_wp2
      go_ret
      exact ⟨rfl, hB2⟩
    | true =>
      have hr := HR.out
      cases r with
      | false =>
        go_wp2
        all_goals first
          | (exfalso; simp_all; done)
          | (go_ret; exact ⟨by first | rfl | simp_all, hB2⟩)
      | true =>
        go_wp2
        all_goals first
          | (exfalso; simp_all; done)
          | (go_ret; exact ⟨by first | rfl | simp_all, hB2⟩)
set_option maxRecDepth 20000 in
set_option maxHeartbeats 1000000 in
theorem rseg_right (ax ay bx by_ : Int) (w : World) : Calls Tryz.prog 65 #[.agg #[.int .i64 ax, .int .i64 ay, .int .i64 bx, .int .i64 by_]] w fun e w' => e = .returned (.bool (segB ax ay bx by_)) ∧ Below w.heap.size w w' := by
  unfold segB
  obtain ⟨p, hp⟩ : ∃ p, nodeB ax ay = p := ⟨_, rfl⟩
  obtain ⟨q, hq⟩ : ∃ q, nodeB bx by_ = q := ⟨_, rfl⟩
  obtain ⟨r, hr⟩ : ∃ r, (ax == bx && ay == by_) = r := ⟨_, rfl⟩
  have HP := Hd.mk hp
  have HQ := Hd.mk hq
  rw [hp, hq, hr]
  have HR := Hd.mk hr
  clear hp hq hr
  go_enter Tryz.func65, Tryz.ntmps65
  go_wp2_with fail
  refine (rnode_v ax ay p HP.out _).mono ?_
  rintro e wa ⟨rfl, hb⟩
  have z0 := heap_below hb (heap_new w (.cells #[.int .i64 ax, .int .i64 ay, .int .i64 bx, .int .i64 by_] 26))
  have hB : Below w.heap.size w wa := below_on (by focus (repeat (first | (with_reducible exact Below.refl _ _) | (with_reducible assumption) | ((with_reducible refine Below.setCell ?_ ?_ _); rotate_left; (focus (first | omega | (simp; done) | (simp; omega)))) | ((with_reducible refine Below.alloc ?_ ?_ _); rotate_left; (focus (first | omega | (simp; done) | (simp; omega)))) | (with_reducible refine Below.drew ?_) | (refine below_on ?_ (by assumption))))) hb
  have c0 := cell_at z0
  clear hb HP
  cases p with
  | false =>
    go_wp2
    go_ret
    exact ⟨rfl, hB⟩
  | true =>
    go_wp2_with fail
    refine (rnode_v bx by_ q HQ.out _).mono ?_
    rintro e wb ⟨rfl, hb⟩
    have z1 := heap_below hb z0
    have hB2 := below_on hB hb
    have c1 := cell_at z1
    clear hb HQ z0 c0 hB
    cases q with
    | false =>
      go_wp2
      go_ret
      exact ⟨rfl, hB2⟩
    | true =>
      have hr := HR.out
      cases r with
      | false =>
        go_wp2
        all_goals first
          | (exfalso; simp_all; done)
          | (go_ret; exact ⟨by first | rfl | simp_all, hB2⟩)
      | true =>
        go_wp2
        all_goals first
          | (exfalso; simp_all; done)
          | (go_ret; exact ⟨by first | rfl | simp_all, hB2⟩)
end Go.Proofs.YtfchmikbebdflaaGreatDoor
