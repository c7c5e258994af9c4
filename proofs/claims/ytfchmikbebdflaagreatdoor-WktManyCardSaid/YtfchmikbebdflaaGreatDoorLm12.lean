/-
  Walks: caught, and the closures that clear. Conditions stand in each theorem.
-/
import Derived.Defers
import Derived.Recover
import Derived.Test.YtfchmikbebdflaaGreatDoorLm11
namespace Go.Proofs.YtfchmikbebdflaaGreatDoor
open Go.RowKit Go.BigFrame

theorem assert_errno (xT : TypeId) (v : Value) (w : World) : (Instr.typeAssert (.iface 31 v) xT 31 false).run Tryz.prog w = .ok v w := by
  have h : Tryz.prog.underlying 31 = some (.int .i64) := by kernel_rfl
  simp [Instr.typeAssert, run_underlying h, go_sem, Result.andThen]

theorem caught_idle (p : Addr) (f : Value) (w : World) :
    CallsD Tryz.prog 157 #[.pointer (some p), f] .returning w fun e u' w' => e = .returned (.tuple #[]) ∧ u' = .returning ∧ w' = w := by
  refine callsD_of_wpS Tryz.func157 rfl fun c₀ cs hu => ?_
  apply wpS_seq
  apply wpS_region
  simp [wpOpsS, go_sem, recoverD, hu, Tryz.ntmps157, Exit.thenS]
  refine wpS_of_wp ?_
  go_wp2
  cases c₀
  simp_all [bodyPostS, results, Tryz.results157]

set_option maxRecDepth 4096 in
theorem caught_full (p : Addr) (x n : Int) (fn : FuncId) (cap : Array Value) (older : List PanicEntry) (w : World) (w2 : World → Prop) (hc : w.cell? p = some (.int .i64 x)) (hz : w.frozen? p = false)
    (hin : ∀ w, (callFunc fn cap).run Tryz.prog w = .ok (.enter fn cap) w) (hcl : Calls Tryz.prog fn cap (w.setCell p (.int .i64 n)) fun e w' => e = .returned (.tuple #[]) ∧ w2 w') :
    CallsD Tryz.prog 157 #[.pointer (some p), .func (.func fn) #[] cap] (.panicking ({ v := .iface 31 (.int .i64 n), recovered := false } :: older)) w fun e u' w' =>
      e = .returned (.tuple #[]) ∧ u' = .panicking ({ v := .iface 31 (.int .i64 n), recovered := true } :: older) ∧ w2 w' := by
  refine callsD_of_wpS Tryz.func157 rfl fun c₀ cs hu => ?_
  apply wpS_seq
  apply wpS_region
  simp [wpOpsS, go_sem, recoverD, hu, Tryz.ntmps157, Exit.thenS]
  refine wpS_of_wp ?_
  generalize HM : ({ v := .iface 31 (.int .i64 n), recovered := true } : PanicEntry) = pe
  have HA := fun v w => assert_errno v w
  go_wp2_with fail
  refine hcl.mono ?_
  rintro e w' ⟨rfl, h2⟩
  go_wp2
  cases c₀
  simp_all [bodyPostS, results, Tryz.results157]
end Go.Proofs.YtfchmikbebdflaaGreatDoor
