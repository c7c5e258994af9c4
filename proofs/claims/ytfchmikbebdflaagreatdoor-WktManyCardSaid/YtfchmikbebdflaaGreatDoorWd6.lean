/-
  Walks: must and caught of ratio, point, seg. Conditions stand in each theorem.
-/
import Derived.Test.YtfchmikbebdflaaGreatDoorLm12
namespace Go.Proofs.YtfchmikbebdflaaGreatDoor
open Go.RowKit Go.BigFrame

/-- must, where it is so. -/
theorem seg_must_ok (x : Int) (w : World) :
    Calls Tryz.prog 80 #[.bool true, .int .i64 x] w fun e w' => e = .returned (.tuple #[]) ∧ w' = w := by
  go_enter Tryz.func80, Tryz.ntmps80
  go_wp2
  go_end0
  exact ⟨rfl, rfl⟩
/-- must, where it is not so. -/
theorem seg_must_no (x : Int) (w : World) :
    Calls Tryz.prog 80 #[.bool false, .int .i64 x] w fun e w' => e = .panicked [{ v := .iface 31 (.int .i64 x), recovered := false }] ∧ w' = w := by
  go_enter Tryz.func80, Tryz.ntmps80
  go_wp2
  exact ⟨rfl, rfl, rfl⟩

theorem seg_caught_idle (p : Addr) (f : Value) (w : World) :
    CallsD Tryz.prog 77 #[.pointer (some p), f] .returning w fun e u' w' => e = .returned (.tuple #[]) ∧ u' = .returning ∧ w' = w := by
  refine callsD_of_wpS Tryz.func77 rfl fun c₀ cs hu => ?_
  apply wpS_seq
  apply wpS_region
  simp [wpOpsS, go_sem, recoverD, hu, Tryz.ntmps77, Exit.thenS]
  refine wpS_of_wp ?_
  go_wp2
  cases c₀
  simp_all [bodyPostS, results, Tryz.results77]

set_option maxRecDepth 4096 in
theorem seg_caught_full (p : Addr) (x n : Int) (fn : FuncId) (cap : Array Value) (older : List PanicEntry) (w : World) (w2 : World → Prop) (hc : w.cell? p = some (.int .i64 x)) (hz : w.frozen? p = false)
    (hin : ∀ w, (callFunc fn cap).run Tryz.prog w = .ok (.enter fn cap) w) (hcl : Calls Tryz.prog fn cap (w.setCell p (.int .i64 n)) fun e w' => e = .returned (.tuple #[]) ∧ w2 w') :
    CallsD Tryz.prog 77 #[.pointer (some p), .func (.func fn) #[] cap] (.panicking ({ v := .iface 31 (.int .i64 n), recovered := false } :: older)) w fun e u' w' =>
      e = .returned (.tuple #[]) ∧ u' = .panicking ({ v := .iface 31 (.int .i64 n), recovered := true } :: older) ∧ w2 w' := by
  refine callsD_of_wpS Tryz.func77 rfl fun c₀ cs hu => ?_
  apply wpS_seq
  apply wpS_region
  simp [wpOpsS, go_sem, recoverD, hu, Tryz.ntmps77, Exit.thenS]
  refine wpS_of_wp ?_
  generalize HM : ({ v := .iface 31 (.int .i64 n), recovered := true } : PanicEntry) = pe
  have HA := fun v w => assert_errno v w
  go_wp2_with fail
  refine hcl.mono ?_
  rintro e w' ⟨rfl, h2⟩
  go_wp2
  cases c₀
  simp_all [bodyPostS, results, Tryz.results77]
end Go.Proofs.YtfchmikbebdflaaGreatDoor
