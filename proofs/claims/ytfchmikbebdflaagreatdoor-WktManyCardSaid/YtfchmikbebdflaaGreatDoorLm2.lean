/-
  Walks: sums and differences of magnitudes, their order. Conditions stand in each theorem.
-/
import Derived.BigQuiet
import Derived.Deep.RegionHeld3
import Derived.Laws.Externs
import Derived.Test.YtfchmikbebdflaaGreatDoorProg
import Derived.Test.YtfchmikbebdflaaGreatDoorBase2
import Derived.Test.YtfchmikbebdflaaGreatDoorBase3
import Derived.Test.YtfchmikbebdflaaGreatDoorLm0
namespace Go.Proofs.YtfchmikbebdflaaGreatDoor
open Go.RowKit Go.BigFrame

theorem cells22 : Tryz.prog.cellsOf 86 = 1 := by kernel_rfl
theorem info22 : ∃ i, Tryz.prog.info? 86 = some i := by
  cases h : Tryz.prog.info? 86 with
  | some i => exact ⟨i, rfl⟩
  | none => exact absurd h (by intro h; have : (Tryz.prog.info? 86).isSome = true := (by kernel_rfl); rw [h] at this; cases this)
@[go_sem] theorem eqMag (w : World) (d : Nat) (a0 a1 a2 a3 b0 b1 b2 b3 : Int) :
    (Op.equalIn (d + 2) 168 (.agg #[.int .u64 a0, .int .u64 a1, .int .u64 a2, .int .u64 a3]) (.agg #[.int .u64 b0, .int .u64 b1, .int .u64 b2, .int .u64 b3])).run Tryz.prog w =
      .ok (a0 == b0 && (a1 == b1 && (a2 == b2 && a3 == b3))) w := by
  obtain ⟨i, hi⟩ := info22
  exact eq_four w d Tryz.underlying168 hi cells22 Tryz.underlying86 _ _ _ _ _ _ _ _
@[go_sem] theorem eqArr (w : World) (d : Nat) (a0 a1 a2 a3 b0 b1 b2 b3 : Int) :
    (Op.equalIn (d + 2) 87 (.agg #[.int .u64 a0, .int .u64 a1, .int .u64 a2, .int .u64 a3]) (.agg #[.int .u64 b0, .int .u64 b1, .int .u64 b2, .int .u64 b3])).run Tryz.prog w =
      .ok (a0 == b0 && (a1 == b1 && (a2 == b2 && a3 == b3))) w := by
  obtain ⟨i, hi⟩ := info22
  exact eq_four w d Tryz.underlying87 hi cells22 Tryz.underlying86 _ _ _ _ _ _ _ _

/-- must, where it is so. -/
theorem must_ok (x : Int) (w : World) :
    Calls Tryz.prog 175 #[.bool true, .int .i64 x] w fun e w' => e = .returned (.tuple #[]) ∧ w' = w := by
  go_enter Tryz.func175, Tryz.ntmps175
  go_wp2
  go_end0
  exact ⟨rfl, rfl⟩
/-- must, where it is not so. -/
theorem must_no (x : Int) (w : World) :
    Calls Tryz.prog 175 #[.bool false, .int .i64 x] w fun e w' => e = .panicked [{ v := .iface 31 (.int .i64 x), recovered := false }] ∧ w' = w := by
  go_enter Tryz.func175, Tryz.ntmps175
  go_wp2
  exact ⟨rfl, rfl, rfl⟩

theorem sub64 (x y b : Nat) (hb : b ≤ 1) (w : World) :
    (callFunc 163 #[.int .u64 x, .int .u64 y, .int .u64 b]).run Tryz.prog w =
      .ok (.value (.tuple #[.int .u64 (((x + 18446744073709551616 - y - b) % 18446744073709551616 : Nat) : Int), .int .u64 ((if x < y + b then 1 else 0 : Nat) : Int)])) w := by
  rw [run_callFunc_extern Tryz.func163 (by kernel_rfl) (by kernel_rfl) (by kernel_rfl) (e := subEntry) (by kernel_rfl), run_sub x y b hb]
  rfl

set_option maxHeartbeats 400000 in
theorem of_any (b : Bool) (n : Nat) (hn : n < 2 ^ 256) (w : World) :
    Calls Tryz.prog 140 #[.bool b, .agg #[.int .u64 (dg (n) 0), .int .u64 (dg (n) 1), .int .u64 (dg (n) 2), .int .u64 (dg (n) 3)]] w fun e w' => e = .returned (.agg #[.bool (b && decide (n ≠ 0)), .int .u64 (dg (n) 0), .int .u64 (dg (n) 1), .int .u64 (dg (n) 2), .int .u64 (dg (n) 3)]) ∧ Below w.heap.size w w' := by
  have hz : (!(dg n 0 == 0 && (dg n 1 == 0 && (dg n 2 == 0 && dg n 3 == 0)))) = decide (n ≠ 0) := by
    rw [Bool.eq_iff_iff]
    simp only [Bool.not_eq_true', Bool.and_eq_false_iff, beq_eq_false_iff_ne, decide_eq_true_eq, ← dg_eq_zero hn, ne_eq, not_and]
    by_cases h0 : dg n 0 = 0 <;> by_cases h1 : dg n 1 = 0 <;> by_cases h2 : dg n 2 = 0 <;> by_cases h3 : dg n 3 = 0 <;> simp [h0, h1, h2, h3]
  have HZ := Hd.mk hz
  clear hz
  cases b
  all_goals
    go_enter Tryz.func140, Tryz.ntmps140
    go_wp2
    refine region_qt 8 (by kernel_rfl) (by kernel_rfl) fun X _ mk hmk hcl => ?_
    have c0 : ∀ x o, (mk x).cell? ⟨w.heap.size, o, none⟩ = _ := fun x o => (hmk x).cell (by simp; omega)
    simp only [List.take_succ_cons, List.take_zero, List.drop_succ_cons, List.drop_zero]
    repeat (go_big_quiet_step (skip))
    refine wpQuiet_nil ?_
    rintro _ ⟨x, rfl⟩
    clear c0
    have hx := hmk x
    clear hcl hmk
    generalize mk x = W1 at hx
    have hc1 : ∀ o, W1.cell? ⟨w.heap.size + 1, o, none⟩ = _ := fun o => hx.cell (by simp)
    have hf1 : ∀ o, W1.frozen? ⟨w.heap.size + 1, o, none⟩ = _ := fun o => hx.frozen (by simp)
    go_wp2
    refine bodyPost_ret (by simp [results, Tryz.results140, go_sem, hc1]; rfl) rfl ⟨?_, ?_⟩
    · rw [← HZ.out]; simp
    focus (repeat (first | (with_reducible exact Below.refl _ _) | (with_reducible assumption) | ((with_reducible refine Below.setCell ?_ ?_ _); rotate_left; (focus (first | omega | (simp; done) | (simp; omega)))) | ((with_reducible refine Below.alloc ?_ ?_ _); rotate_left; (focus (first | omega | (simp; done) | (simp; omega)))) | (with_reducible refine Below.drew ?_) | (refine below_on ?_ (by assumption))))
end Go.Proofs.YtfchmikbebdflaaGreatDoor

namespace Go.Proofs.YtfchmikbebdflaaGreatDoor
open Go.RowKit Go.BigFrame

/-- What the sum's cells hold behind k rounds. -/
def part4 (s k j : Nat) : Int := if j < k then dg s j else 0

def PlusPost (a b : Nat) (w : World) (e : Ending) (w' : World) : Prop :=
  e = (if a + b < 2 ^ 256 then .returned (.agg #[.int .u64 (dg (a + b) 0), .int .u64 (dg (a + b) 1), .int .u64 (dg (a + b) 2), .int .u64 (dg (a + b) 3)]) else .panicked [{ v := .iface 31 (.int .i64 110), recovered := false }]) ∧ Below w.heap.size w w'

end Go.Proofs.YtfchmikbebdflaaGreatDoor
