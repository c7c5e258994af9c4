/-
  A whole block stored in a region that draws its order: where the stored row is one letter, the walk stands still at the store; this law carries it on. Conditions stand in each theorem.
-/
import Derived.ArgAppend
import Derived.Test.YtbhfnfokihdjjaaGreatDoorBq
namespace Go.Proofs.YtbhfnfokihdjjaaGreatDoor
open Go.RowKit Go.BigFrame
theorem upon_store {P : Program} {o : Oper} {a : Act} {K : Act → World → Prop} {Q : Exit → Act → World → Prop} {N : Nat} {cells : Array Value} {c : Array Value} {t : TypeId} {W : World}
    (hz : W.heap[N]? = some (.cells c t (0, 0))) (hs : c.size = cells.size) (h1 : cells.toList.all (·.oneCell') = true) (h : ∀ W', Wr N cells t W W' → K (a.put o.dst undef) W') :
    Oper.upon P o a K Q ((Sem.run P (storeCells ⟨N, 0, none⟩ cells.toList) W).andThen fun _ w' => Result.ok Next.skip w') := by
  have hr := run_storeCells_cells (P := P) N 0 cells.toList 0 W (fun j hj => by
    simp only [Nat.zero_add, Nat.add_zero]
    rw [cell_at hz, Array.getElem?_eq_getElem (by rw [hs]; simpa using hj)]
    rfl) (fun j hj => by rw [frozen_at hz]) (fun v hv => List.all_eq_true.1 h1 v hv)
  rw [hr]
  refine h _ ⟨?_, fun k o hk hw => other_setCells N _ 0 W k o hk hw, fun n hn => below_setCells N _ 0 W n hn⟩
  have := heap_setCells N t cells.toList 0 W c hz (by simpa using hs.symm)
  simpa using this
end Go.Proofs.YtbhfnfokihdjjaaGreatDoor
