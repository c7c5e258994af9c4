/-
  The nodes of segments: the iterator over the iterators of their ends. Conditions stand in each theorem.
-/
import Derived.Deep.LoopGhost
import Derived.Test.YtfgdichdddknlaaDoorNd1
namespace Go.Proofs.YtfgdichdddknlaaDoor
open Go.RowKit Go.BigFrame Go.Shelf
attribute [local go_sem] Oper.semAt_some

def coll (D : Nat) : Deferred := { target := .collected D, args := #[] }
theorem ex_frame {T : Array Value} {ds ds' : List Deferred} {F : (Nat → Value) → Array Value} {R : Prop} (h : (Act.mk T ds = Act.mk (F (fun i => T.getD i undef)) ds') ∧ R) : ∃ v : Nat → Value, (Act.mk T ds = Act.mk (F v) ds') ∧ R := ⟨_, h⟩
theorem roundIn_wide {n m l₀ : Nat} {P : Program} {l : Nat} {f : FuncId} {tmps : Array Value} {assign body : Code} {w : World} {R : Ending → World → Prop}
    (h : RoundIn Fence.wide n P l f tmps assign body w R) : RoundIn (Fence.wide.inRound l₀) m P l f tmps assign body w R :=
  ⟨h.1, fun c cs _ => h.2 c cs (fun _ hd => nomatch hd)⟩
theorem leaves_marks {F : Fence} {n : Nat} {P : Program} {fn : Func} {tmps : Array Value} {R : Ending → World → Prop} (B : Nat) : ∀ (ds : List Nat) (W : World), ds.Nodup → (∀ D ∈ ds, B ≤ D ∧ W.heap[D]? = some (.deferred (some []))) →
    (∀ W', Below B W W' → LeavesIn F n P fn tmps R [] .returning W') → LeavesInM F n P fn tmps R (ds.map coll) .returning W := by
  intro ds
  induction ds with
  | nil => intro W _ _ h; exact h W (Below.refl _ _)
  | cons D ds ih =>
    intro W hn hd h
    obtain ⟨hB, hD⟩ := hd D (by simp)
    obtain ⟨hn1, hn2⟩ := List.nodup_cons.1 hn
    refine ⟨by simp, .inl ⟨D, _, rfl, run_takeDeferred hD, ih _ hn2 (fun E hE => ⟨(hd E (by simp [hE])).1, (World.putObj_heap_other (fun e => hn1 (by rw [← e]; exact hE))).trans (hd E (by simp [hE])).2⟩) fun W' hW' => h W' ((below_putObj _ _ _ hB).trans hW')⟩⟩
/-- A row of segments that is read. -/
def SegsAt (W : World) (A : Option Addr) (L : List Sgm) : Prop :=
  0 < L.length → ∃ b off, A = some ⟨b, off, none⟩ ∧ ∀ j s, L[j]? = some s → ∀ i, i < 4 → W.cell? ⟨b, off + j * 4 + i, none⟩ = (sgC s)[i]?
def nodesOf (L : List Sgm) : List Nd := L.flatMap fun s => [s.1, s.2]
theorem nodesOf_len (L : List Sgm) : (nodesOf L).length = 2 * L.length := by
  unfold nodesOf
  induction L with
  | nil => rfl
  | cons s L ih => simp at ih ⊢; omega
theorem nodesOf_take {L : List Sgm} {k : Nat} {s : Sgm} (h : L[k]? = some s) : nodesOf (L.take (k + 1)) = nodesOf (L.take k) ++ [s.1, s.2] := by
  unfold nodesOf
  rw [List.take_add_one, h]
  simp
theorem nodesOf_prefix (L : List Sgm) (k : Nat) : nodesOf (L.take k) <+: nodesOf L := by
  unfold nodesOf
  conv => rhs; rw [← List.take_append_drop k L, List.flatMap_append]
  exact List.prefix_append _ _
end Go.Proofs.YtfgdichdddknlaaDoor
