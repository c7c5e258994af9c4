/-
  Walks: the closures that clear, Neg. Conditions stand in each theorem.
-/
import Derived.Defers
import Derived.Recover
import Derived.Test.YtfgdichdddknlaaDoorLm11
namespace Go.Proofs.YtfgdichdddknlaaDoor
open Go.RowKit Go.BigFrame

theorem assert_errno (xT : TypeId) (v : Value) (w : World) : (Instr.typeAssert (.iface 27 v) xT 27 false).run Tryd.prog w = .ok v w := by
  have h : Tryd.prog.underlying 27 = some (.int .i64) := by kernel_rfl
  simp [Instr.typeAssert, run_underlying h, go_sem, Result.andThen]

end Go.Proofs.YtfgdichdddknlaaDoor

namespace Go.Proofs.YtfgdichdddknlaaDoor
open Go.RowKit Go.BigFrame

/-- Five cells of a block are laid. -/
def Laid (b : Nat) (v : Array Value) (W w' : World) : Prop :=
  (∀ {c : Array Value} {t : TypeId}, W.heap[b]? = some (.cells c t (0, 0)) → c.size = 5 → w'.heap[b]? = some (.cells v t (0, 0))) ∧ (∀ k o, k ≠ b → W.heap[k]? = some o → w'.heap[k]? = some o) ∧ ∀ n, n ≤ b → Below n W w'
theorem five_of {c : Array Value} (hs : c.size = 5) : ∃ c0 c1 c2 c3 c4, c = #[c0, c1, c2, c3, c4] := by
  obtain ⟨l⟩ := c
  match l, hs with
  | [a, b, c, d, e], _ => exact ⟨a, b, c, d, e, rfl⟩
theorem laid_five (b : Nat) (W : World) (v0 v1 v2 v3 v4 : Value) : Laid b #[v0, v1, v2, v3, v4] W (((((W.setCell ⟨b, 0, none⟩ v0).setCell ⟨b, 1, none⟩ v1).setCell ⟨b, 2, none⟩ v2).setCell ⟨b, 3, none⟩ v3).setCell ⟨b, 4, none⟩ v4) := by
  refine ⟨fun {c t} h hs => ?_, fun k o hk h => ?_, fun n hn => ?_⟩
  · obtain ⟨c0, c1, c2, c3, c4, rfl⟩ := five_of hs
    have := heap_set (heap_set (heap_set (heap_set (heap_set h 0 v0) 1 v1) 2 v2) 3 v3) 4 v4
    simpa using this
  · repeat (refine heap_set_other ?_ hk _)
    exact h
  · repeat (refine Below.setCell ?_ hn _)
    exact Below.refl _ _
/-- One cell of a block is laid. -/
def Laid1 (b : Nat) (v : Value) (W w' : World) : Prop :=
  (∀ {c : Array Value} {t : TypeId}, W.heap[b]? = some (.cells c t (0, 0)) → c.size = 1 → w'.heap[b]? = some (.cells #[v] t (0, 0))) ∧ (∀ k o, k ≠ b → W.heap[k]? = some o → w'.heap[k]? = some o) ∧ ∀ n, n ≤ b → Below n W w'
theorem laid_one (b : Nat) (W : World) (v : Value) : Laid1 b v W (W.setCell ⟨b, 0, none⟩ v) := by
  refine ⟨fun {c t} h hs => ?_, fun k o hk h => heap_set_other h hk _, fun n hn => Below.setCell (Below.refl _ _) hn _⟩
  obtain ⟨c0, rfl⟩ : ∃ c0, c = #[c0] := Array.size_eq_one_iff.1 hs
  simpa using heap_set h 0 v
theorem zero_cells : (#[.bool (ng (0)), .int .u64 (dg (ab (0)) 0), .int .u64 (dg (ab (0)) 1), .int .u64 (dg (ab (0)) 2), .int .u64 (dg (ab (0)) 3)] : Array Value) = #[.bool false, .int .u64 0, .int .u64 0, .int .u64 0, .int .u64 0] := by simp [ng, ab, dg]
theorem abs_leaves {P : Program} {fn : Func} {t : Array Value} {R : Ending → World → Prop} {ds : List Deferred} {u : FrameMode} {w : World} (I : World → Prop) (h0 : I w) (h : ∀ W, I W → Leaves P fn t R ds u W) : Leaves P fn t R ds u w := h w h0
def negV (p : Bool × Nat) : Int := if okP p then -zof p.1 p.2 else 0
end Go.Proofs.YtfgdichdddknlaaDoor
