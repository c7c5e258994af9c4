/-
  Walks of point: which point is ahead. Conditions stand in each theorem.
-/
import Derived.Test.YtfchmikbebdflaaGreatDoorSg3
namespace Go.Proofs.YtfchmikbebdflaaGreatDoor
open Go.RowKit Go.BigFrame

/-- How three nodes turn. -/
def turnZ (ax ay bx by_ cx cy : Int) : Int := sgI ((bx - ax) * (cy - ay) - (by_ - ay) * (cx - ax))
theorem node_range {x y : Int} (h : nodeB x y = true) : (-67108864 ≤ x ∧ x ≤ 67108864) ∧ (-67108864 ≤ y ∧ y ≤ 67108864) := by
  unfold nodeB inR at h
  simpa only [Bool.and_eq_true, decide_eq_true_eq] using h
theorem mul_range {x y B C : Int} (hx : -B ≤ x ∧ x ≤ B) (hy : -C ≤ y ∧ y ≤ C) : -(B * C) ≤ x * y ∧ x * y ≤ B * C := by
  have hb : 0 ≤ B := by omega
  have hc : 0 ≤ C := by omega
  have h1 : (x * y).natAbs ≤ (B * C).natAbs := by
    rw [Int.natAbs_mul, Int.natAbs_mul]
    exact Nat.mul_le_mul (by omega) (by omega)
  have h2 : 0 ≤ B * C := Int.mul_nonneg hb hc
  omega
theorem cmp_sg (A B : Int) : cmpI A B = sgI (A - B) := by
  unfold cmpI sgI
  split <;> split <;> (try split) <;> (try split) <;> omega
end Go.Proofs.YtfchmikbebdflaaGreatDoor

namespace Go.Proofs.YtfchmikbebdflaaGreatDoor
open Go.RowKit Go.BigFrame

/-- Is the second end ahead of the first? -/
def backB (ax ay bx by_ : Int) : Bool := decide (ax > bx) || (ax == bx && decide (ay > by_))
theorem or_back (ax ay bx by_ : Int) : decide (orI (cmpI ax bx) (cmpI ay by_) > 0) = backB ax ay bx by_ := by
  unfold orI cmpI backB
  rw [Bool.eq_iff_iff]
  simp only [decide_eq_true_eq, Bool.or_eq_true, Bool.and_eq_true, beq_iff_eq]
  split <;> split <;> (try split) <;> (try split) <;> omega
end Go.Proofs.YtfchmikbebdflaaGreatDoor

namespace Go.Proofs.YtfchmikbebdflaaGreatDoor
open Go.RowKit Go.BigFrame

theorem fieldsSeg : (Tryz.prog.fieldsOf 26).toList.map (fun f => (f.name == "_", f.type, f.offset)) = [(false, 24, 0), (false, 24, 2)] := by kernel_rfl
@[go_sem] theorem eqSeg (w : World) (d : Nat) (a0 a1 a2 a3 b0 b1 b2 b3 : Int) :
    (Op.equalIn (d + 3) 26 (.agg #[.int .i64 a0, .int .i64 a1, .int .i64 a2, .int .i64 a3]) (.agg #[.int .i64 b0, .int .i64 b1, .int .i64 b2, .int .i64 b3])).run Tryz.prog w = .ok ((a0 == b0 && a1 == b1) && (a2 == b2 && a3 == b3)) w := by
  rw [run_equalIn_struct (P := Tryz.prog) w (d + 2) 26 _ _ (by kernel_rfl) (by kernel_rfl)]
  have h := fieldsSeg
  generalize (Tryz.prog.fieldsOf 26).toList = fs at h
  obtain ⟨f0, f1, rfl⟩ : ∃ f0 f1, fs = [f0, f1] := by
    have hl := congrArg List.length h
    rw [List.length_map] at hl
    cases fs with
    | nil => simp at hl
    | cons f0 fs =>
      cases fs with
      | nil => simp at hl
      | cons f1 fs =>
        cases fs with
        | nil => exact ⟨f0, f1, rfl⟩
        | cons f2 fs => simp at hl
  · simp only [List.map_cons, List.map_nil, List.cons.injEq, Prod.mk.injEq, and_true] at h
    obtain ⟨⟨n0, t0, o0⟩, n1, t1, o1⟩ := h
    have m0 : f0.name ≠ "_" := by simpa using n0
    have m1 : f1.name ≠ "_" := by simpa using n1
    have hu : Tryz.prog.underlying 24 = some (.struct (Tryz.prog.fieldsOf 24)) := by kernel_rfl
    have g1 : ∀ w : World, (isAgg 24).run Tryz.prog w = .ok true w := fun w => by simp [isAgg, run_underlying hu]
    have c1 : Tryz.prog.cellsOf 24 = 2 := by kernel_rfl
    obtain ⟨i1, hi1⟩ : ∃ i, Tryz.prog.info? 24 = some i := by
      cases h : Tryz.prog.info? 24 with
      | some i => exact ⟨i, rfl⟩
      | none => exact absurd h (by intro h; have : (Tryz.prog.info? 24).isSome = true := (by kernel_rfl); rw [h] at this; cases this)
    have s1 : ∀ w : World, (sizeOf 24).run Tryz.prog w = .ok 2 w := fun w => by rw [run_sizeOf w hi1, c1]
    simp only [Op.eqFields, if_pos m0, if_pos m1, t0, t1, o0, o1, part, Sem.run_bind, g1, Result.andThen_ok]
    have e0 := fun w => eqNode w d a0 a1 b0 b1
    have e1 := fun w => eqNode w d a2 a3 b2 b3
    cases hb : (a0 == b0 && a1 == b1)
    · rw [hb] at e0
      simp [e0]
    · rw [hb] at e0
      cases hr : (a2 == b2 && a3 == b3)
      · rw [hr] at e1
        simp [e0, e1]
      · rw [hr] at e1
        simp [e0, e1]
end Go.Proofs.YtfchmikbebdflaaGreatDoor

namespace Go.Proofs.YtfchmikbebdflaaGreatDoor
open Go.RowKit Go.BigFrame

/-- The numbers of a segment laid. -/
def laidI (ax ay bx by_ : Int) (k : Nat) : Int := if segB ax ay bx by_ then (if backB ax ay bx by_ then [bx, by_, ax, ay].getD k 0 else [ax, ay, bx, by_].getD k 0) else 0
end Go.Proofs.YtfchmikbebdflaaGreatDoor

namespace Go.Proofs.YtfchmikbebdflaaGreatDoor
open Go.RowKit Go.BigFrame

/-- Is a fraction not too great for a point? By its digits. -/
def fitsB (a b : Nat) : Bool := decide (dg a 1 < 4294967296) && ((bits .or .u64 (dg a 2) (dg a 3) == 0) && (bits .or .u64 (bits .or .u64 (dg b 1) (dg b 2)) (dg b 3) == 0))
set_option maxRecDepth 20000 in
set_option maxHeartbeats 1000000 in
theorem fits_any (s t : Bool) (a b : Nat) (w : World) :
    Calls Tryz.prog 87 #[.agg #[.bool (s), .int .u64 (dg (a) 0), .int .u64 (dg (a) 1), .int .u64 (dg (a) 2), .int .u64 (dg (a) 3), .bool (t), .int .u64 (dg (b) 0), .int .u64 (dg (b) 1), .int .u64 (dg (b) 2), .int .u64 (dg (b) 3)]] w fun e w' => e = .returned (.bool (fitsB a b)) ∧ Below w.heap.size w w' := by
  unfold fitsB
  cases h1 : decide (dg a 1 < 4294967296)
  · go_enter Tryz.func87, Tryz.ntmps87
    go_wp2
    go_ret
    exact ⟨by simp, by focus (repeat (first | (with_reducible exact Below.refl _ _) | (with_reducible assumption) | ((with_reducible refine Below.setCell ?_ ?_ _); rotate_left; (focus (first | omega | (simp; done) | (simp; omega)))) | ((with_reducible refine Below.alloc ?_ ?_ _); rotate_left; (focus (first | omega | (simp; done) | (simp; omega)))) | (with_reducible refine Below.drew ?_) | (refine below_on ?_ (by assumption))))⟩
  · cases h2 : (bits .or .u64 (dg a 2) (dg a 3) == 0)
    · go_enter Tryz.func87, Tryz.ntmps87
      go_wp2
      go_ret
      exact ⟨by simp, by focus (repeat (first | (with_reducible exact Below.refl _ _) | (with_reducible assumption) | ((with_reducible refine Below.setCell ?_ ?_ _); rotate_left; (focus (first | omega | (simp; done) | (simp; omega)))) | ((with_reducible refine Below.alloc ?_ ?_ _); rotate_left; (focus (first | omega | (simp; done) | (simp; omega)))) | (with_reducible refine Below.drew ?_) | (refine below_on ?_ (by assumption))))⟩
    · cases h3 : (bits .or .u64 (bits .or .u64 (dg b 1) (dg b 2)) (dg b 3) == 0)
      · go_enter Tryz.func87, Tryz.ntmps87
        go_wp2
        go_ret
        exact ⟨by simp, by focus (repeat (first | (with_reducible exact Below.refl _ _) | (with_reducible assumption) | ((with_reducible refine Below.setCell ?_ ?_ _); rotate_left; (focus (first | omega | (simp; done) | (simp; omega)))) | ((with_reducible refine Below.alloc ?_ ?_ _); rotate_left; (focus (first | omega | (simp; done) | (simp; omega)))) | (with_reducible refine Below.drew ?_) | (refine below_on ?_ (by assumption))))⟩
      · go_enter Tryz.func87, Tryz.ntmps87
        go_wp2
        go_ret
        exact ⟨by simp, by focus (repeat (first | (with_reducible exact Below.refl _ _) | (with_reducible assumption) | ((with_reducible refine Below.setCell ?_ ?_ _); rotate_left; (focus (first | omega | (simp; done) | (simp; omega)))) | ((with_reducible refine Below.alloc ?_ ?_ _); rotate_left; (focus (first | omega | (simp; done) | (simp; omega)))) | (with_reducible refine Below.drew ?_) | (refine below_on ?_ (by assumption))))⟩
theorem or_wordsS {a b : Int} (a0 : 0 ≤ a) (b0 : 0 ≤ b) (al : a < 18446744073709551616) (bl : b < 18446744073709551616) :
    0 ≤ bits .or .u64 a b ∧ bits .or .u64 a b < 18446744073709551616 ∧ (bits .or .u64 a b = 0 ↔ a = 0 ∧ b = 0) := by
  obtain ⟨x, rfl⟩ := Int.eq_ofNat_of_zero_le a0
  obtain ⟨y, rfl⟩ := Int.eq_ofNat_of_zero_le b0
  rw [bits_or_u64_nat x y (by omega) (by omega)]
  refine ⟨by omega, ?_, ?_⟩
  · have : x ||| y < 2 ^ 64 := Nat.or_lt_two_pow (by omega) (by omega)
    omega
  · have h : x ||| y = 0 ↔ x = 0 ∧ y = 0 := Nat.or_eq_zero_iff
    omega
/-- The same by the numbers. -/
theorem fits_iff {a b : Nat} (ha : a < 2 ^ 256) (hb : b < 2 ^ 256) : fitsB a b = true ↔ a < 2 ^ 96 ∧ b < 2 ^ 64 := by
  have g2 := or_wordsS (dg_nonneg a 2) (dg_nonneg a 3) (dg_lt a 2) (dg_lt a 3)
  have g3 := or_wordsS (dg_nonneg b 1) (dg_nonneg b 2) (dg_lt b 1) (dg_lt b 2)
  have g4 := or_wordsS g3.1 (dg_nonneg b 3) g3.2.1 (dg_lt b 3)
  have ma := mg_dg ha
  have mb := mg_dg hb
  unfold fitsB
  simp only [Bool.and_eq_true, decide_eq_true_eq, beq_iff_eq, g2.2.2, g4.2.2, g3.2.2]
  have a0 := dg_nonneg a 0
  have a1 := dg_nonneg a 1
  have a2 := dg_nonneg a 2
  have a3 := dg_nonneg a 3
  have al := dg_lt a 0
  have b0 := dg_nonneg b 0
  have b1 := dg_nonneg b 1
  have b2 := dg_nonneg b 2
  have b3 := dg_nonneg b 3
  have bl := dg_lt b 0
  unfold mg at ma mb
  clear g2 g3 g4 ha hb
  generalize dg a 0 = A0 at *
  generalize dg a 1 = A1 at *
  generalize dg a 2 = A2 at *
  generalize dg a 3 = A3 at *
  generalize dg b 0 = B0 at *
  generalize dg b 1 = B1 at *
  generalize dg b 2 = B2 at *
  generalize dg b 3 = B3 at *
  omega
end Go.Proofs.YtfchmikbebdflaaGreatDoor

namespace Go.Proofs.YtfchmikbebdflaaGreatDoor
open Go.RowKit Go.BigFrame

theorem fits_v (s t : Bool) (a b : Nat) (f : Bool) (h : fitsB a b = f) (w : World) :
    Calls Tryz.prog 87 #[.agg #[.bool (s), .int .u64 (dg (a) 0), .int .u64 (dg (a) 1), .int .u64 (dg (a) 2), .int .u64 (dg (a) 3), .bool (t), .int .u64 (dg (b) 0), .int .u64 (dg (b) 1), .int .u64 (dg (b) 2), .int .u64 (dg (b) 3)]] w fun e w' => e = .returned (.bool f) ∧ Below w.heap.size w w' := by
  rw [← h]
  exact fits_any s t a b w
set_option maxRecDepth 20000 in
set_option maxHeartbeats 2000000 in
theorem pright_any (p q r s : Bool × Nat) (hp : p.2 < 2 ^ 256) (hq : q.2 < 2 ^ 256) (hr : r.2 < 2 ^ 256) (hs : s.2 < 2 ^ 256) (b c : Bool) (hb : b = true ↔ okR p q) (hc : c = true ↔ okR r s) (w : World) :
    Calls Tryz.prog 67 #[.agg #[.bool p.1, .int .u64 (dg (p.2) 0), .int .u64 (dg (p.2) 1), .int .u64 (dg (p.2) 2), .int .u64 (dg (p.2) 3), .bool q.1, .int .u64 (dg (q.2) 0), .int .u64 (dg (q.2) 1), .int .u64 (dg (q.2) 2), .int .u64 (dg (q.2) 3), .bool r.1, .int .u64 (dg (r.2) 0), .int .u64 (dg (r.2) 1), .int .u64 (dg (r.2) 2), .int .u64 (dg (r.2) 3), .bool s.1, .int .u64 (dg (s.2) 0), .int .u64 (dg (s.2) 1), .int .u64 (dg (s.2) 2), .int .u64 (dg (s.2) 3)]] w fun e w' => e = .returned (.int .i64 (if b && (c && (fitsB p.2 q.2 && fitsB r.2 s.2)) then 0 else 2)) ∧ Below w.heap.size w w' := by
  obtain ⟨f, hf⟩ : ∃ f, fitsB p.2 q.2 = f := ⟨_, rfl⟩
  obtain ⟨g, hg⟩ : ∃ g, fitsB r.2 s.2 = g := ⟨_, rfl⟩
  rw [hf, hg]
  have H1 := Hd.mk (fun w => rat_check_any p q hp hq b hb w)
  have H2 := Hd.mk (fun w => rat_check_any r s hr hs c hc w)
  have H3 := Hd.mk (fun w => fits_v p.1 q.1 p.2 q.2 f hf w)
  have H4 := Hd.mk (fun w => fits_v r.1 s.1 r.2 s.2 g hg w)
  clear hp hq hr hs hb hc hf hg
  go_enter Tryz.func67, Tryz.ntmps67
  go_wp2_with fail
  refine (H1.out _).mono ?_
  rintro e wa ⟨rfl, hb⟩
  have z0 := heap_below hb (heap_new w (.cells #[.bool p.1, .int .u64 (dg (p.2) 0), .int .u64 (dg (p.2) 1), .int .u64 (dg (p.2) 2), .int .u64 (dg (p.2) 3), .bool q.1, .int .u64 (dg (q.2) 0), .int .u64 (dg (q.2) 1), .int .u64 (dg (q.2) 2), .int .u64 (dg (q.2) 3), .bool r.1, .int .u64 (dg (r.2) 0), .int .u64 (dg (r.2) 1), .int .u64 (dg (r.2) 2), .int .u64 (dg (r.2) 3), .bool s.1, .int .u64 (dg (s.2) 0), .int .u64 (dg (s.2) 1), .int .u64 (dg (s.2) 2), .int .u64 (dg (s.2) 3)] 93))
  have hB : Below w.heap.size w wa := below_on (by focus (repeat (first | (with_reducible exact Below.refl _ _) | (with_reducible assumption) | ((with_reducible refine Below.setCell ?_ ?_ _); rotate_left; (focus (first | omega | (simp; done) | (simp; omega)))) | ((with_reducible refine Below.alloc ?_ ?_ _); rotate_left; (focus (first | omega | (simp; done) | (simp; omega)))) | (with_reducible refine Below.drew ?_) | (refine below_on ?_ (by assumption))))) hb
  have c0 := cell_at z0
  clear hb H1
  cases b with
  | false =>
    go_wp2
    go_ret
    exact ⟨rfl, hB⟩
  | true =>
    go_wp2_with fail
    refine (H2.out _).mono ?_
    rintro e wb ⟨rfl, hb⟩
    have z1 := heap_below hb z0
    have hB1 := below_on hB hb
    have c1 := cell_at z1
    clear hb H2 z0 c0 hB
    cases c with
    | false =>
      go_wp2
      go_ret
      exact ⟨rfl, hB1⟩
    | true =>
      go_wp2_with fail
      refine (H3.out _).mono ?_
      rintro e wc ⟨rfl, hb⟩
      have z2 := heap_below hb z1
      have hB2 := below_on hB1 hb
      have c2 := cell_at z2
      clear hb H3 z1 c1 hB1
      cases f with
      | false =>
        go_wp2
        go_ret
        exact ⟨rfl, hB2⟩
      | true =>
        go_wp2_with fail
        refine (H4.out _).mono ?_
        rintro e wd ⟨rfl, hb⟩
        have z3 := heap_below hb z2
        have hB3 := below_on hB2 hb
        have c3 := cell_at z3
        clear hb H4 z2 c2 hB2
        cases g
        all_goals
          go_wp2
          go_ret
          exact ⟨rfl, hB3⟩
end Go.Proofs.YtfchmikbebdflaaGreatDoor

namespace Go.Proofs.YtfchmikbebdflaaGreatDoor
open Go.RowKit Go.BigFrame

/-- How two fractions stand. -/
def cmpR (p q p2 q2 : Bool × Nat) : Int := sgI (zof p.1 p.2 * zof q2.1 q2.2 - zof p2.1 p2.2 * zof q.1 q.2)
def SmallF (p q : Bool × Nat) : Prop := p.2 < 2 ^ 256 ∧ q.2 < 2 ^ 256 ∧ okR p q
end Go.Proofs.YtfchmikbebdflaaGreatDoor
