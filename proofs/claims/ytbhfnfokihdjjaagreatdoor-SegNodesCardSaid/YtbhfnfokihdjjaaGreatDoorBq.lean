/-
  A block that is read whole, in a quiet walk. Conditions stand in each theorem.
-/
import Derived.BigQuiet
import Derived.Test.YtbhfnfokihdjjaaGreatDoorBk
namespace Go.Proofs.YtbhfnfokihdjjaaGreatDoor
open Go.RowKit Go.BigFrame
theorem wpQuiet_load_block {P : Program} {X : Type} {mk : X → World} {ops : Array Oper} {rest : List Oper} {o : Oper} {a : Act} {Q : Act → Prop} (ty : TypeId) (x : Operand) (ho : o.op = .load ty x) (hw : Region.wanted o (yielded ops a.tmps) = true)
    (g : Nat) (hx : a.eval x = .pointer (some ⟨g, 0, none⟩)) {t : TypeId} {cs : Array Value} {fr : Nat × Nat} {d : TypeDesc} (hg : ∀ y, (mk y).heap[g]? = some (.cells cs t fr))
    (hu : P.underlying ty = some d) (hd : (match d with | .struct _ | .array _ _ => true | _ => false) = true) (hi : (P.info? ty).map (·.size) = some cs.size)
    (h : wpQuiet P ops (fun w' => ∃ y, w' = mk y) Q rest (a.put o.dst (.agg cs))) : wpQuiet P ops (fun w' => ∃ y, w' = mk y) Q (o :: rest) a := by
  refine wpQuiet_want hw fun K hK => ⟨.agg cs, ?_, hK _ h⟩
  rintro w ⟨y, rfl⟩
  unfold Oper.quietAt execOp
  simp only [ho, hx, Instr.loadAt, Instr.sureAddr, Sem.run_bind, Sem.run_pure, Result.andThen_ok, run_loadVar_row (mk y) g t ty cs fr d (hg y) hu hd hi]
  exact ⟨rfl, rfl⟩
theorem wpQuiet_load_point {X : Type} {mk : X → World} {ops : Array Oper} {rest : List Oper} {o : Oper} {a : Act} {Q : Act → Prop} (x : Operand) (ho : o.op = .load 46 x) (hw : Region.wanted o (yielded ops a.tmps) = true)
    (g : Nat) (hx : a.eval x = .pointer (some ⟨g, 0, none⟩)) {t : TypeId} {cs : Array Value} {fr : Nat × Nat} (hg : ∀ y, (mk y).heap[g]? = some (.cells cs t fr)) (hs : cs.size = 20)
    (h : wpQuiet Tryz.prog ops (fun w' => ∃ y, w' = mk y) Q rest (a.put o.dst (.agg cs))) : wpQuiet Tryz.prog ops (fun w' => ∃ y, w' = mk y) Q (o :: rest) a :=
  wpQuiet_load_block _ x ho hw g hx hg Tryz.underlying46 rfl (by rw [hs]; kernel_rfl) h
end Go.Proofs.YtbhfnfokihdjjaaGreatDoor
