/-
  Walks: the closures that clear, Neg. Conditions stand in each theorem.
-/
import Derived.Test.YtfchmikbebdflaaGreatDoorLm12
namespace Go.Proofs.YtfchmikbebdflaaGreatDoor
open Go.RowKit Go.BigFrame

/-- Five cells of a block are laid. -/
def Laid (b : Nat) (v : Array Value) (W w' : World) : Prop :=
  (∀ {c : Array Value} {t : TypeId}, W.heap[b]? = some (.cells c t (0, 0)) → c.size = 5 → w'.heap[b]? = some (.cells v t (0, 0))) ∧ (∀ k o, k ≠ b → W.heap[k]? = some o → w'.heap[k]? = some o) ∧ ∀ n, n ≤ b → Below n W w'
theorem five_of {c : Array Value} (hs : c.size = 5) : ∃ c0 c1 c2 c3 c4, c = #[c0, c1, c2, c3, c4] := by
  obtain ⟨l⟩ := c
  match l, hs with
  | [a, b, c, d, e], _ => exact ⟨a, b, c, d, e, rfl⟩
theorem laid_five (b : Nat) (W : World) (v0 v1 v2 v3 v4 : Value) : Laid b #[v0, v1, v2, v3, v4] W (((((W.setCell ⟨b, 0, none⟩ v0).setCell ⟨b, 1, none⟩ v1).setCell ⟨b, 2, none⟩ v2).setCell ⟨b, 3, none⟩ v3).setCell ⟨b, 4, none⟩ v4) := by
  refine ⟨fun {c t} h hs => ?_, fun k o hk h => ?_, fun n hn => ?_⟩
  · obtain ⟨c0, c1, c2, c3, c4, rfl⟩ := five_of hs
    have := heap_set (heap_set (heap_set (heap_set (heap_set h 0 v0) 1 v1) 2 v2) 3 v3) 4 v4
    simpa using this
  · repeat (refine heap_set_other ?_ hk _)
    exact h
  · repeat (refine Below.setCell ?_ hn _)
    exact Below.refl _ _
/-- One cell of a block is laid. -/
def Laid1 (b : Nat) (v : Value) (W w' : World) : Prop :=
  (∀ {c : Array Value} {t : TypeId}, W.heap[b]? = some (.cells c t (0, 0)) → c.size = 1 → w'.heap[b]? = some (.cells #[v] t (0, 0))) ∧ (∀ k o, k ≠ b → W.heap[k]? = some o → w'.heap[k]? = some o) ∧ ∀ n, n ≤ b → Below n W w'
theorem laid_one (b : Nat) (W : World) (v : Value) : Laid1 b v W (W.setCell ⟨b, 0, none⟩ v) := by
  refine ⟨fun {c t} h hs => ?_, fun k o hk h => heap_set_other h hk _, fun n hn => Below.setCell (Below.refl _ _) hn _⟩
  obtain ⟨c0, rfl⟩ : ∃ c0, c = #[c0] := Array.size_eq_one_iff.1 hs
  simpa using heap_set h 0 v
theorem zero_cells : (#[.bool (ng (0)), .int .u64 (dg (ab (0)) 0), .int .u64 (dg (ab (0)) 1), .int .u64 (dg (ab (0)) 2), .int .u64 (dg (ab (0)) 3)] : Array Value) = #[.bool false, .int .u64 0, .int .u64 0, .int .u64 0, .int .u64 0] := by simp [ng, ab, dg]
theorem abs_leaves {P : Program} {fn : Func} {t : Array Value} {R : Ending → World → Prop} {ds : List Deferred} {u : FrameMode} {w : World} (I : World → Prop) (h0 : I w) (h : ∀ W, I W → Leaves P fn t R ds u W) : Leaves P fn t R ds u w := h w h0
/-- What two named results hold. -/
def OutAt (w : World) (b d : Nat) (z : Int) (n : Int) (W : World) : Prop :=
  W.heap[b]? = some (.cells #[.bool (ng (z)), .int .u64 (dg (ab (z)) 0), .int .u64 (dg (ab (z)) 1), .int .u64 (dg (ab (z)) 2), .int .u64 (dg (ab (z)) 3)] 89 (0, 0)) ∧ W.heap[d]? = some (.cells #[.int .i64 n] 31 (0, 0)) ∧ Below w.heap.size w W
theorem out_stored {w W : World} {b d : Nat} {z n : Int} {c e : Array Value} (hb : w.heap.size ≤ b) (hd : b < d) (h : W.heap[b]? = some (.cells c 89 (0, 0))) (k : W.heap[d]? = some (.cells e 31 (0, 0))) (hc : c.size = 5) (he : e.size = 1) (hB : Below w.heap.size w W) :
    OutAt w b d z n ((((((W.setCell ⟨b, 0, none⟩ (.bool (ng z))).setCell ⟨b, 1, none⟩ (.int .u64 (dg (ab z) 0))).setCell ⟨b, 2, none⟩ (.int .u64 (dg (ab z) 1))).setCell ⟨b, 3, none⟩ (.int .u64 (dg (ab z) 2))).setCell ⟨b, 4, none⟩ (.int .u64 (dg (ab z) 3))).setCell ⟨d, 0, none⟩ (.int .i64 n)) := by
  obtain ⟨l1, l2, l3⟩ := laid_five b W (.bool (ng z)) (.int .u64 (dg (ab z) 0)) (.int .u64 (dg (ab z) 1)) (.int .u64 (dg (ab z) 2)) (.int .u64 (dg (ab z) 3))
  obtain ⟨k1, k2, k3⟩ := laid_one d (((((W.setCell ⟨b, 0, none⟩ (.bool (ng z))).setCell ⟨b, 1, none⟩ (.int .u64 (dg (ab z) 0))).setCell ⟨b, 2, none⟩ (.int .u64 (dg (ab z) 1))).setCell ⟨b, 3, none⟩ (.int .u64 (dg (ab z) 2))).setCell ⟨b, 4, none⟩ (.int .u64 (dg (ab z) 3))) (.int .i64 n)
  exact ⟨k2 _ _ (by omega) (l1 h hc), k1 (l2 _ _ (by omega) k) he, hB.trans ((l3 _ hb).trans (k3 _ (by omega)))⟩
theorem out_cleared {w W W' : World} {b d : Nat} {n : Int} {c e : Array Value} (hb : w.heap.size ≤ b) (hd : b < d) (h : W.heap[b]? = some (.cells c 89 (0, 0))) (k : W.heap[d]? = some (.cells e 31 (0, 0))) (hc : c.size = 5) (he : e.size = 1) (hB : Below w.heap.size w W)
    (hL : Laid b (#[.bool (ng (0)), .int .u64 (dg (ab (0)) 0), .int .u64 (dg (ab (0)) 1), .int .u64 (dg (ab (0)) 2), .int .u64 (dg (ab (0)) 3)]) (W.setCell ⟨d, 0, none⟩ (.int .i64 n)) W') : OutAt w b d 0 n W' := by
  obtain ⟨k1, k2, k3⟩ := laid_one d W (.int .i64 n)
  exact ⟨hL.1 (k2 _ _ (by omega) h) hc, hL.2.1 _ _ (by omega) (k1 k he), hB.trans ((k3 _ (by omega)).trans (hL.2.2 _ hb))⟩
def negV (p : Bool × Nat) : Int := if okP p then -zof p.1 p.2 else 0
end Go.Proofs.YtfchmikbebdflaaGreatDoor
