/-
  Small laws of the model that the walks of this seat want: arrays of four uint64 held against one another, bits.Add64, bits.Sub64. Conditions stand in each theorem.
-/
import Derived.ChangeKeysEq
import Derived.KernelRfl
import Derived.WalkKit
import Derived.WalkLawsBesides
import Derived.WalkSpells
namespace Go.Proofs.YtfgdichdddknlaaDoor
open Go.RowKit

section
variable {P : Program}
theorem eq_four (w : World) (d : Nat) {t e : TypeId} {i : TypeInfo} (hu : P.underlying t = some (.array 4 e)) (hi : P.info? e = some i) (hc : P.cellsOf e = 1) (he : P.underlying e = some (.int .u64)) (a0 a1 a2 a3 b0 b1 b2 b3 : Int) :
    (Op.equalIn (d + 2) t (.agg #[.int .u64 a0, .int .u64 a1, .int .u64 a2, .int .u64 a3]) (.agg #[.int .u64 b0, .int .u64 b1, .int .u64 b2, .int .u64 b3])).run P w =
      .ok (a0 == b0 && (a1 == b1 && (a2 == b2 && a3 == b3))) w := by
  have hs : ∀ w : World, (sizeOf e).run P w = .ok 1 w := fun w => by rw [run_sizeOf w hi, hc]
  have hg : ∀ w : World, (isAgg e).run P w = .ok false w := fun w => by simp [isAgg, run_underlying he]
  have hp : ∀ (w : World) (xs : Array Value) (k : Nat) (v : Value), xs[k]? = some v → (part e xs k).run P w = .ok v w := fun w xs k v hv => by
    simp [part, hg, hv]
  rw [run_equalIn_array w (d + 1) _ _ hu hi, hc]
  simp only [List.range_succ, List.range_zero, List.nil_append, List.cons_append, Op.eqItems, Sem.run_bind]
  rw [hp w _ _ (.int .u64 a0) (by simp)]
  simp only [Result.andThen_ok]
  rw [hp w _ _ (.int .u64 b0) (by simp)]
  simp only [Result.andThen_ok]
  rw [run_equalIn_int w d e .u64 .u64 a0 b0 he]
  simp only [Result.andThen_ok]
  cases h0 : (a0 == b0)
  · simp
  simp only [Bool.not_true, Bool.false_eq_true, if_false, Sem.run_bind]
  rw [hp w _ _ (.int .u64 a1) (by simp)]
  simp only [Result.andThen_ok]
  rw [hp w _ _ (.int .u64 b1) (by simp)]
  simp only [Result.andThen_ok]
  rw [run_equalIn_int w d e .u64 .u64 a1 b1 he]
  simp only [Result.andThen_ok]
  cases h1 : (a1 == b1)
  · simp
  simp only [Bool.not_true, Bool.false_eq_true, if_false, Sem.run_bind]
  rw [hp w _ _ (.int .u64 a2) (by simp)]
  simp only [Result.andThen_ok]
  rw [hp w _ _ (.int .u64 b2) (by simp)]
  simp only [Result.andThen_ok]
  rw [run_equalIn_int w d e .u64 .u64 a2 b2 he]
  simp only [Result.andThen_ok]
  cases h2 : (a2 == b2)
  · simp
  simp only [Bool.not_true, Bool.false_eq_true, if_false, Sem.run_bind]
  rw [hp w _ _ (.int .u64 a3) (by simp)]
  simp only [Result.andThen_ok]
  rw [hp w _ _ (.int .u64 b3) (by simp)]
  simp only [Result.andThen_ok]
  rw [run_equalIn_int w d e .u64 .u64 a3 b3 he]
  simp only [Result.andThen_ok]
  cases h3 : (a3 == b3)
  · simp
  simp

/-- The model's entry for math/bits.Sub64. -/
def subEntry : Array Value → Sem Value := fun args => do
  let (x, y, b) ← Extern.MathBitsCarry.three "Sub64" args
  pure (Extern.MathBitsCarry.pair ((x + Extern.MathBitsCarry.m64 - y - b) % Extern.MathBitsCarry.m64) (if x < y + b then 1 else 0))
theorem run_sub (x y b : Nat) (hb : b ≤ 1) (w : World) :
    (subEntry #[.int .u64 x, .int .u64 y, .int .u64 b]).run P w =
      .ok (.tuple #[.int .u64 (((x + 18446744073709551616 - y - b) % 18446744073709551616 : Nat) : Int), .int .u64 ((if x < y + b then 1 else 0 : Nat) : Int)]) w := by
  have : b = 0 ∨ b = 1 := by omega
  rcases this with rfl | rfl <;> rfl
end
end Go.Proofs.YtfgdichdddknlaaDoor
