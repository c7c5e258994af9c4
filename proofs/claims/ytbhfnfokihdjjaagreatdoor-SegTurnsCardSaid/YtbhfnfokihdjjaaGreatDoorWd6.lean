/-
  Walks: must and caught of ratio, point, seg. Conditions stand in each theorem.
-/
import Derived.Test.YtbhfnfokihdjjaaGreatDoorLm13
namespace Go.Proofs.YtbhfnfokihdjjaaGreatDoor
open Go.RowKit Go.BigFrame

/-- must, where it is so. -/
theorem ratio_must_ok (x : Int) (w : World) :
    Calls Tryz.prog 125 #[.bool true, .int .i64 x] w fun e w' => e = .returned (.tuple #[]) ∧ w' = w := by
  go_enter Tryz.func125, Tryz.ntmps125
  go_wp2
  go_end0
  exact ⟨rfl, rfl⟩
/-- must, where it is not so. -/
theorem ratio_must_no (x : Int) (w : World) :
    Calls Tryz.prog 125 #[.bool false, .int .i64 x] w fun e w' => e = .panicked [{ v := .iface 26 (.int .i64 x), recovered := false }] ∧ w' = w := by
  go_enter Tryz.func125, Tryz.ntmps125
  go_wp2
  exact ⟨rfl, rfl, rfl⟩

theorem ratio_caught_idle (p : Addr) (f : Value) (w : World) :
    CallsD Tryz.prog 107 #[.pointer (some p), f] .returning w fun e u' w' => e = .returned (.tuple #[]) ∧ u' = .returning ∧ w' = w := by
  refine callsD_of_wpS Tryz.func107 rfl fun c₀ cs hu => ?_
  apply wpS_seq
  apply wpS_region
  simp [wpOpsS, go_sem, recoverD, hu, Tryz.ntmps107, Exit.thenS]
  refine wpS_of_wp ?_
  go_wp2
  cases c₀
  simp_all [bodyPostS, results, Tryz.results107]

set_option maxRecDepth 4096 in
theorem ratio_caught_full (p : Addr) (x n : Int) (fn : FuncId) (cap : Array Value) (older : List PanicEntry) (w : World) (w2 : World → Prop) (hc : w.cell? p = some (.int .i64 x)) (hz : w.frozen? p = false)
    (hin : ∀ w, (callFunc fn cap).run Tryz.prog w = .ok (.enter fn cap) w) (hcl : Calls Tryz.prog fn cap (w.setCell p (.int .i64 n)) fun e w' => e = .returned (.tuple #[]) ∧ w2 w') :
    CallsD Tryz.prog 107 #[.pointer (some p), .func (.func fn) #[] cap] (.panicking ({ v := .iface 26 (.int .i64 n), recovered := false } :: older)) w fun e u' w' =>
      e = .returned (.tuple #[]) ∧ u' = .panicking ({ v := .iface 26 (.int .i64 n), recovered := true } :: older) ∧ w2 w' := by
  refine callsD_of_wpS Tryz.func107 rfl fun c₀ cs hu => ?_
  apply wpS_seq
  apply wpS_region
  simp [wpOpsS, go_sem, recoverD, hu, Tryz.ntmps107, Exit.thenS]
  refine wpS_of_wp ?_
  generalize HM : ({ v := .iface 26 (.int .i64 n), recovered := true } : PanicEntry) = pe
  have HA := fun v w => assert_errno v w
  go_wp2_with fail
  refine hcl.mono ?_
  rintro e w' ⟨rfl, h2⟩
  go_wp2
  cases c₀
  simp_all [bodyPostS, results, Tryz.results107]
/-- must, where it is so. -/
theorem point_must_ok (x : Int) (w : World) :
    Calls Tryz.prog 87 #[.bool true, .int .i64 x] w fun e w' => e = .returned (.tuple #[]) ∧ w' = w := by
  go_enter Tryz.func87, Tryz.ntmps87
  go_wp2
  go_end0
  exact ⟨rfl, rfl⟩
/-- must, where it is not so. -/
theorem point_must_no (x : Int) (w : World) :
    Calls Tryz.prog 87 #[.bool false, .int .i64 x] w fun e w' => e = .panicked [{ v := .iface 26 (.int .i64 x), recovered := false }] ∧ w' = w := by
  go_enter Tryz.func87, Tryz.ntmps87
  go_wp2
  exact ⟨rfl, rfl, rfl⟩

theorem point_caught_idle (p : Addr) (f : Value) (w : World) :
    CallsD Tryz.prog 85 #[.pointer (some p), f] .returning w fun e u' w' => e = .returned (.tuple #[]) ∧ u' = .returning ∧ w' = w := by
  refine callsD_of_wpS Tryz.func85 rfl fun c₀ cs hu => ?_
  apply wpS_seq
  apply wpS_region
  simp [wpOpsS, go_sem, recoverD, hu, Tryz.ntmps85, Exit.thenS]
  refine wpS_of_wp ?_
  go_wp2
  cases c₀
  simp_all [bodyPostS, results, Tryz.results85]

set_option maxRecDepth 4096 in
theorem point_caught_full (p : Addr) (x n : Int) (fn : FuncId) (cap : Array Value) (older : List PanicEntry) (w : World) (w2 : World → Prop) (hc : w.cell? p = some (.int .i64 x)) (hz : w.frozen? p = false)
    (hin : ∀ w, (callFunc fn cap).run Tryz.prog w = .ok (.enter fn cap) w) (hcl : Calls Tryz.prog fn cap (w.setCell p (.int .i64 n)) fun e w' => e = .returned (.tuple #[]) ∧ w2 w') :
    CallsD Tryz.prog 85 #[.pointer (some p), .func (.func fn) #[] cap] (.panicking ({ v := .iface 26 (.int .i64 n), recovered := false } :: older)) w fun e u' w' =>
      e = .returned (.tuple #[]) ∧ u' = .panicking ({ v := .iface 26 (.int .i64 n), recovered := true } :: older) ∧ w2 w' := by
  refine callsD_of_wpS Tryz.func85 rfl fun c₀ cs hu => ?_
  apply wpS_seq
  apply wpS_region
  simp [wpOpsS, go_sem, recoverD, hu, Tryz.ntmps85, Exit.thenS]
  refine wpS_of_wp ?_
  generalize HM : ({ v := .iface 26 (.int .i64 n), recovered := true } : PanicEntry) = pe
  have HA := fun v w => assert_errno v w
  go_wp2_with fail
  refine hcl.mono ?_
  rintro e w' ⟨rfl, h2⟩
  go_wp2
  cases c₀
  simp_all [bodyPostS, results, Tryz.results85]
/-- must, where it is so. -/
theorem seg_must_ok (x : Int) (w : World) :
    Calls Tryz.prog 48 #[.bool true, .int .i64 x] w fun e w' => e = .returned (.tuple #[]) ∧ w' = w := by
  go_enter Tryz.func48, Tryz.ntmps48
  go_wp2
  go_end0
  exact ⟨rfl, rfl⟩
/-- must, where it is not so. -/
theorem seg_must_no (x : Int) (w : World) :
    Calls Tryz.prog 48 #[.bool false, .int .i64 x] w fun e w' => e = .panicked [{ v := .iface 26 (.int .i64 x), recovered := false }] ∧ w' = w := by
  go_enter Tryz.func48, Tryz.ntmps48
  go_wp2
  exact ⟨rfl, rfl, rfl⟩

theorem seg_caught_idle (p : Addr) (f : Value) (w : World) :
    CallsD Tryz.prog 46 #[.pointer (some p), f] .returning w fun e u' w' => e = .returned (.tuple #[]) ∧ u' = .returning ∧ w' = w := by
  refine callsD_of_wpS Tryz.func46 rfl fun c₀ cs hu => ?_
  apply wpS_seq
  apply wpS_region
  simp [wpOpsS, go_sem, recoverD, hu, Tryz.ntmps46, Exit.thenS]
  refine wpS_of_wp ?_
  go_wp2
  cases c₀
  simp_all [bodyPostS, results, Tryz.results46]

set_option maxRecDepth 4096 in
theorem seg_caught_full (p : Addr) (x n : Int) (fn : FuncId) (cap : Array Value) (older : List PanicEntry) (w : World) (w2 : World → Prop) (hc : w.cell? p = some (.int .i64 x)) (hz : w.frozen? p = false)
    (hin : ∀ w, (callFunc fn cap).run Tryz.prog w = .ok (.enter fn cap) w) (hcl : Calls Tryz.prog fn cap (w.setCell p (.int .i64 n)) fun e w' => e = .returned (.tuple #[]) ∧ w2 w') :
    CallsD Tryz.prog 46 #[.pointer (some p), .func (.func fn) #[] cap] (.panicking ({ v := .iface 26 (.int .i64 n), recovered := false } :: older)) w fun e u' w' =>
      e = .returned (.tuple #[]) ∧ u' = .panicking ({ v := .iface 26 (.int .i64 n), recovered := true } :: older) ∧ w2 w' := by
  refine callsD_of_wpS Tryz.func46 rfl fun c₀ cs hu => ?_
  apply wpS_seq
  apply wpS_region
  simp [wpOpsS, go_sem, recoverD, hu, Tryz.ntmps46, Exit.thenS]
  refine wpS_of_wp ?_
  generalize HM : ({ v := .iface 26 (.int .i64 n), recovered := true } : PanicEntry) = pe
  have HA := fun v w => assert_errno v w
  go_wp2_with fail
  refine hcl.mono ?_
  rintro e w' ⟨rfl, h2⟩
  go_wp2
  cases c₀
  simp_all [bodyPostS, results, Tryz.results46]
end Go.Proofs.YtbhfnfokihdjjaaGreatDoor
