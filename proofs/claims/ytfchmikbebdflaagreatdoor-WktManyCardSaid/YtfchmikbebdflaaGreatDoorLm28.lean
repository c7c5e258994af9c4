/-
  Walks: works of the law package. Conditions stand in each theorem.
-/
import Derived.Laws.StructEq
import Derived.Test.YtfchmikbebdflaaGreatDoorLm26
namespace Go.Proofs.YtfchmikbebdflaaGreatDoor
open Go.RowKit Go.BigFrame

theorem fieldsInt : (Tryz.prog.fieldsOf 89).toList.map (fun f => (f.name == "_", f.type, f.offset)) = [(false, 4, 0), (false, 87, 1)] := by kernel_rfl
@[go_sem] theorem eqInt (w : World) (d : Nat) (p q : Bool) (a0 a1 a2 a3 b0 b1 b2 b3 : Int) :
    (Op.equalIn (d + 3) 89 (.agg #[.bool p, .int .u64 a0, .int .u64 a1, .int .u64 a2, .int .u64 a3]) (.agg #[.bool q, .int .u64 b0, .int .u64 b1, .int .u64 b2, .int .u64 b3])).run Tryz.prog w =
      .ok (p == q && (a0 == b0 && (a1 == b1 && (a2 == b2 && a3 == b3)))) w := by
  rw [run_equalIn_struct (P := Tryz.prog) w (d + 2) 89 _ _ (by kernel_rfl) (by kernel_rfl)]
  have h := fieldsInt
  generalize (Tryz.prog.fieldsOf 89).toList = fs at h
  obtain ⟨f0, f1, rfl⟩ : ∃ f0 f1, fs = [f0, f1] := by
    have hl := congrArg List.length h
    rw [List.length_map] at hl
    cases fs with
    | nil => simp at hl
    | cons f0 fs =>
      cases fs with
      | nil => simp at hl
      | cons f1 fs =>
        cases fs with
        | nil => exact ⟨f0, f1, rfl⟩
        | cons f2 fs => simp at hl
  · simp only [List.map_cons, List.map_nil, List.cons.injEq, Prod.mk.injEq, and_true] at h
    obtain ⟨⟨n0, t0, o0⟩, n1, t1, o1⟩ := h
    have m0 : f0.name ≠ "_" := by simpa using n0
    have m1 : f1.name ≠ "_" := by simpa using n1
    have g0 : ∀ w : World, (isAgg 4).run Tryz.prog w = .ok false w := fun w => by simp [isAgg, run_underlying Tryz.underlying4]
    have g1 : ∀ w : World, (isAgg 87).run Tryz.prog w = .ok true w := fun w => by simp [isAgg, run_underlying Tryz.underlying87]
    have c1 : Tryz.prog.cellsOf 87 = 4 := by kernel_rfl
    obtain ⟨i1, hi1⟩ : ∃ i, Tryz.prog.info? 87 = some i := by
      cases h : Tryz.prog.info? 87 with
      | some i => exact ⟨i, rfl⟩
      | none => exact absurd h (by intro h; have : (Tryz.prog.info? 87).isSome = true := (by kernel_rfl); rw [h] at this; cases this)
    have s1 : ∀ w : World, (sizeOf 87).run Tryz.prog w = .ok 4 w := fun w => by rw [run_sizeOf w hi1, c1]
    simp only [Op.eqFields, if_pos m0, if_pos m1, t0, t1, o0, o1, part, Sem.run_bind, g0, Result.andThen_ok]
    have e0 := fun w => run_equalIn_bool' (P := Tryz.prog) (w := w) (d + 1) 4 p q Tryz.underlying4
    have e1 := fun w => eqArr w d a0 a1 a2 a3 b0 b1 b2 b3
    cases hb : (p == q)
    · rw [hb] at e0
      simp [e0]
    · rw [hb] at e0
      cases hr : (a0 == b0 && (a1 == b1 && (a2 == b2 && a3 == b3)))
      · rw [hr] at e1
        simp [e0, e1]
      · rw [hr] at e1
        simp [e0, e1]
open Go.RowKit Go.BigFrame

theorem gcd_at (x y g : Int) (hx : ab x < 2 ^ 256) (hy : ab y < 2 ^ 256) (hg : ((Nat.gcd (ab x) (ab y) : Nat) : Int) = g) (w : World) :
    Calls Tryz.prog 133 #[.agg #[.bool (ng (x)), .int .u64 (dg (ab (x)) 0), .int .u64 (dg (ab (x)) 1), .int .u64 (dg (ab (x)) 2), .int .u64 (dg (ab (x)) 3)], .agg #[.bool (ng (y)), .int .u64 (dg (ab (y)) 0), .int .u64 (dg (ab (y)) 1), .int .u64 (dg (ab (y)) 2), .int .u64 (dg (ab (y)) 3)]] w fun e w' => e = .returned (.tuple #[.agg #[.bool (ng (g)), .int .u64 (dg (ab (g)) 0), .int .u64 (dg (ab (g)) 1), .int .u64 (dg (ab (g)) 2), .int .u64 (dg (ab (g)) 3)], .int .i64 0]) ∧ Below w.heap.size w w' := by
  have h := gcd_ok x y hx hy w
  rw [hg] at h
  exact h
theorem text_at (z : Int) (s : ByteArray) (hz : ab z < 2 ^ 256) (h : textZ z = s) (w : World) :
    Calls Tryz.prog 88 #[.agg #[.bool (ng (z)), .int .u64 (dg (ab (z)) 0), .int .u64 (dg (ab (z)) 1), .int .u64 (dg (ab (z)) 2), .int .u64 (dg (ab (z)) 3)]] w fun e w' => e = .returned (.tuple #[.string s, .int .i64 0]) ∧ Below w.heap.size w w' := h ▸ text_ok z hz w
theorem text120 : textZ (-120) = ⟨#[45, 49, 50, 48]⟩ := by
  have h : dec10 120 = [0, 2, 1] := by
    rw [dec10_big (by decide), dec10_big (by decide), dec10_small (by decide)]
  unfold textZ revB
  rw [show ab (-120) = 120 from rfl, h]
  rfl
def maxI : Int := 115792089237316195423570985008687907853269984665640564039457584007913129639935
theorem ints_max {W : World} {b : Nat} {t : TypeId} {f : Nat × Nat}
    (h : W.heap[b]? = some (.cells #[.bool false, .int .u64 18446744073709551615, .int .u64 18446744073709551615, .int .u64 18446744073709551615, .int .u64 18446744073709551615, .bool (ng 1), .int .u64 (dg (ab 1) 0), .int .u64 (dg (ab 1) 1), .int .u64 (dg (ab 1) 2), .int .u64 (dg (ab 1) 3)] t f)) :
    IntsAt W (some ⟨b, 0, none⟩) ([maxI, 1].map pr) := by
  refine ints_two_z (t := t) (f := f) (by decide) (by decide) (h.trans ?_)
  have h0 : ng maxI = false := by decide
  have h1 : dg (ab maxI) 0 = 18446744073709551615 := by decide
  have h2 : dg (ab maxI) 1 = 18446744073709551615 := by decide
  have h3 : dg (ab maxI) 2 = 18446744073709551615 := by decide
  have h4 : dg (ab maxI) 3 = 18446744073709551615 := by decide
  rw [h0, h1, h2, h3, h4]
theorem addV_max : addV [maxI, 1] = 0 := by
  have h1 : ab (0 + maxI) < 2 ^ 256 := by decide
  have h2 : ¬ ab (0 + maxI + 1) < 2 ^ 256 := by decide
  simp only [addV, addF, if_pos h1, if_neg h2]; rfl
theorem addE_max : addE [maxI, 1] = 110 := by
  have h1 : ab (0 + maxI) < 2 ^ 256 := by decide
  have h2 : ¬ ab (0 + maxI + 1) < 2 ^ 256 := by decide
  simp only [addE, addF, if_pos h1, if_neg h2]; rfl
theorem parse_m0 : parseV (strB ⟨#[45, 48]⟩) = 0 ∧ parseE (strB ⟨#[45, 48]⟩) = 111 := by decide
theorem parse_007 : parseV (strB ⟨#[48, 48, 55]⟩) = 0 ∧ parseE (strB ⟨#[48, 48, 55]⟩) = 111 := by decide
end Go.Proofs.YtfchmikbebdflaaGreatDoor
