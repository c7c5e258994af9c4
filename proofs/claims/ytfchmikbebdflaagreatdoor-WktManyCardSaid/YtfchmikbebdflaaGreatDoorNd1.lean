/-
  The ends of a segment: the iterator and its contract. Conditions stand in each theorem.
-/
import Derived.Test.YtfchmikbebdflaaGreatDoorNd0
namespace Go.Proofs.YtfchmikbebdflaaGreatDoor
open Go.RowKit Go.BigFrame Go.Shelf
attribute [local go_sem] Oper.semAt_some

abbrev Nd := Int × Int
abbrev Sgm := Nd × Nd
def ndV (p : Nd) : Value := .agg #[.int .i64 p.1, .int .i64 p.2]
def sgC (s : Sgm) : Array Value := #[.int .i64 s.1.1, .int .i64 s.1.2, .int .i64 s.2.1, .int .i64 s.2.2]
/-- Block k stays. -/
def Stay (k : Nat) (A C : World) : Prop := ∀ o, A.heap[k]? = some o → C.heap[k]? = some o
theorem Stay.trans {k : Nat} {A B C : World} (h : Stay k A B) (g : Stay k B C) : Stay k A C := fun o ho => g o (h o ho)
theorem Stay.put {k r : Nat} (W : World) (o : Obj) (h : k ≠ r) : Stay k W (W.putObj r o) := fun _ ho => (World.putObj_heap_other h).trans ho
theorem wpIn_scope_wide' {n : Nat} {P : Program} {Q : Exit → Act → World → Prop} {a : Act} {w : World} {c : Code} (h : c.wpIn Fence.wide n P (Exit.noGoto Q) a w) : (Code.scope c).wpIn Fence.wide n P Q a w :=
  (wpIn_wide (n := n)).2 (wp_scope_straight ((wpIn_wide (n := n)).1 h))
end Go.Proofs.YtfchmikbebdflaaGreatDoor
