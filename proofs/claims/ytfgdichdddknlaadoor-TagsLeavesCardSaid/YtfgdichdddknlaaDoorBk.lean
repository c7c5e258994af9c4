/-
  Whole blocks that are read and written at once. Conditions stand in each theorem.
-/
import Derived.Deep.MidRow
import Derived.Test.YtfgdichdddknlaaDoorWd3
namespace Go.Proofs.YtfgdichdddknlaaDoor
open Go.RowKit Go.BigFrame

theorem heap_setCells (b : Nat) (t : TypeId) : ∀ (vs : List Value) (o : Nat) (w : World) (c : Array Value), w.heap[b]? = some (.cells c t (0, 0)) → o + vs.length = c.size →
    (w.setCells b o vs).heap[b]? = some (.cells (c.toList.take o ++ vs).toArray t (0, 0))
  | [], o, w, c, h, hs => by
    rw [World.setCells, List.append_nil, List.take_of_length_le (by simpa using Nat.le_of_eq hs.symm)]
    simpa using h
  | v :: vs, o, w, c, h, hs => by
    rw [World.setCells]
    have hs' : o + (vs.length + 1) = c.size := by simpa using hs
    have h2 := heap_setCells b t vs (o + 1) (w.setCell ⟨b, o, none⟩ v) (c.setIfInBounds o v) (heap_set h o v) (by simpa using (by omega : o + 1 + vs.length = c.size))
    rw [h2]
    congr 2
    have ho : o < c.toList.length := by simp; omega
    rw [Array.toList_setIfInBounds, List.take_add_one, List.take_set_of_le (Nat.le_refl _)]
    rw [List.append_assoc]
    congr 1
    rw [List.getElem?_eq_getElem (by simpa using ho), List.getElem_set_self]
    rfl
theorem other_setCells (b : Nat) : ∀ (vs : List Value) (o : Nat) (w : World) (k : Nat) (x : Obj), k ≠ b → w.heap[k]? = some x → (w.setCells b o vs).heap[k]? = some x
  | [], _, _, _, _, _, h => h
  | v :: vs, o, w, k, x, hk, h => by
    rw [World.setCells]
    exact other_setCells b vs (o + 1) _ k x hk (heap_set_other h hk v)
theorem below_setCells (b : Nat) : ∀ (vs : List Value) (o : Nat) (w : World) (n : Nat), n ≤ b → Below n w (w.setCells b o vs)
  | [], _, _, _, _ => Below.refl _ _
  | v :: vs, o, w, n, hn => by
    rw [World.setCells]
    exact (Below.setCell (Below.refl _ _) hn v).trans (below_setCells b vs (o + 1) _ n hn)
/-- What is known behind a block that was written whole. -/
structure Wr (b : Nat) (cells : Array Value) (t : TypeId) (w W : World) : Prop where
  here : W.heap[b]? = some (.cells cells t (0, 0))
  other : ∀ k o, k ≠ b → w.heap[k]? = some o → W.heap[k]? = some o
  below : ∀ n, n ≤ b → Below n w W
theorem wpList_store_block {P : Program} {ops : Array Oper} {rest : List Oper} {op : Oper} {a : Act} {w : World} {Q : Exit → Act → World → Prop} (hgd : op.guard = none) (ty : TypeId) (x y : Operand) (ho : op.op = .store ty x y)
    (b : Nat) (cells : Array Value) (hx : a.eval x = .pointer (some ⟨b, 0, none⟩)) (hy : a.eval y = .agg cells) {c : Array Value} {t : TypeId} (hz : w.heap[b]? = some (.cells c t (0, 0))) (hs : c.size = cells.size)
    (hi : (P.info? ty).map (·.size) = some cells.size) (h1 : cells.toList.all (·.oneCell') = true)
    (h : ∀ W, Wr b cells t w W → wpList P ops Q rest (a.put op.dst undef) W) : wpList P ops Q (op :: rest) a w := by
  refine wpList_store_mid hgd ty x y ho b 0 cells hx hy (fun j hj => ⟨?_, ?_⟩) hi (by simpa using h1) (h _ ⟨?_, fun k o hk hw => other_setCells b _ 0 w k o hk hw, fun n hn => below_setCells b _ 0 w n hn⟩)
  · rw [Nat.zero_add, cell_at hz, Array.getElem?_eq_getElem (by omega)]; rfl
  · rw [Nat.zero_add, frozen_at hz]
  · have := heap_setCells b t cells.toList 0 w c hz (by simpa using hs.symm)
    simpa using this
/-- A block that is read whole, by an operation that is wanted. -/
theorem wpList_load_block {P : Program} {ops : Array Oper} {rest : List Oper} {o : Oper} {a : Act} {w : World} {Q : Exit → Act → World → Prop} (ty : TypeId) (x : Operand) (ho : o.op = .load ty x) (hw : Region.wanted o (yielded ops a.tmps) = true)
    (g : Nat) (hx : a.eval x = .pointer (some ⟨g, 0, none⟩)) {t : TypeId} {cs : Array Value} {fr : Nat × Nat} {d : TypeDesc} (hg : w.heap[g]? = some (.cells cs t fr))
    (hu : P.underlying ty = some d) (hd : (match d with | .struct _ | .array _ _ => true | _ => false) = true) (hi : (P.info? ty).map (·.size) = some cs.size)
    (h : wpList P ops Q rest (a.put o.dst (.agg cs)) w) : wpList P ops Q (o :: rest) a w :=
  wpList_step fun K hK => by simp only [hw, if_true]; exact wp_load_row ty x ho g hx t cs fr d hg hu hd hi (hK _ _ h)
end Go.Proofs.YtfgdichdddknlaaDoor
