/-
  Tags: the statement that ranges over an iterator, where a round may change rows that earlier rounds have laid. Conditions stand in each theorem.
-/
import Derived.Test.YtfgdichdddknlaaDoorGu9
namespace Go.Proofs.YtfgdichdddknlaaDoor
open Go.RowKit Go.BigFrame Go.Shelf
attribute [local go_sem] Oper.semAt_some

/-- The loop's own two blocks are as they were. -/
def KeepR (r : Nat) (W W' : World) : Prop := W.heap.size ≤ W'.heap.size ∧ W'.heap[r]? = W.heap[r]? ∧ W'.heap[r + 1]? = W.heap[r + 1]?
theorem KeepR.refl (r : Nat) (W : World) : KeepR r W W := ⟨Nat.le_refl _, rfl, rfl⟩
theorem KeepR.trans {r : Nat} {X Y Z : World} (h : KeepR r X Y) (k : KeepR r Y Z) : KeepR r X Z := ⟨Nat.le_trans h.1 k.1, k.2.1.trans h.2.1, k.2.2.trans h.2.2⟩
theorem KeepR.setCell {r : Nat} (W : World) (p : Addr) (v : Value) (h1 : p.block ≠ r) (h2 : p.block ≠ r + 1) : KeepR r W (W.setCell p v) :=
  ⟨(KeepsWalks.setCell W p v).size, Below.heap_setCell W p v r (fun e => h1 e.symm), Below.heap_setCell W p v (r + 1) (fun e => h2 e.symm)⟩
theorem KeepR.below {r : Nat} {W W' : World} (h : Below W.heap.size W W') (hr : r + 1 < W.heap.size) : KeepR r W W' := ⟨h.size, h.block _ (by omega), h.block _ hr⟩
theorem KeepR.grown {r : Nat} {W W' : World} {row : Option Nat} (h : W.grownBy W' row) (hr : ∀ k, row = some k → r + 2 ≤ k) (hs : r + 1 < W.heap.size) : KeepR r W W' :=
  ⟨h.size, h.block r (by omega) (fun e => by have := hr r e.symm; omega), h.block (r + 1) hs (fun e => by have := hr _ e.symm; omega)⟩
/-- How a round's body must end. -/
def roundEndK {α : Type} (B : Nat) (Kp : World → World → Prop) (I : List α → World → Prop) (Ix : Code → List α → World → Prop) (xs : List α) (W : World) : Exit → Act → World → Prop
  | .normal, _, W' => KeepR B W W' ∧ Kp W W' ∧ I xs W'
  | .ret, _, W' => KeepR B W W' ∧ Ix .ret xs W'
  | .exit id, _, W' => KeepR B W W' ∧ Ix (.exit id) xs W'
  | _, _, _ => False
set_option maxHeartbeats 4000000 in
theorem range_k {α : Type} {P : Program} {n : Nat} {g : Operand} {ps : Array Tmp} {assign body : Code} {Q : Exit → Act → World → Prop} {a : Act} {w : World}
    (_ : 1 ≤ n) {gf : Nat} {lb : Array Value} (hg : a.eval g = .func (.func gf) #[] lb) (eg : ∀ args w, (callFunc gf args).run P w = .ok (.enter gf args) w)
    {encs : α → Array Value} {Kp : World → World → Prop} {L : List α} (hseq : SeqA (n - 1) P gf lb encs Kp L w)
    (hKt : ∀ {A B C : World}, Kp A B → Kp B C → Kp A C) (hKb : ∀ (W : World) (o' : Obj), Kp W (W.putObj (w.heap.size + 1) o')) (hps : ∀ x, (encs x).size = ps.size)
    (I : List α → World → Prop) (Ix : Code → List α → World → Prop) (hI : ∀ pre A o, I pre A → I pre (A.putObj (w.heap.size + 1) o)) (hIa : ∀ pre A o, I pre A → I pre (A.alloc o)) (hIx : ∀ c pre A o, Ix c pre A → Ix c pre (A.putObj (w.heap.size + 1) o)) (h0 : ∀ W, Below w.heap.size w W → I [] W)
    (hround : ∀ (l : Nat) (pre : List α) (x : α) (W : World), pre ++ [x] <+: L → I pre W → w.heap.size + 2 ≤ W.heap.size →
      assign.wpIn (Fence.wide.inRound l) (n - 1 - 1) P (Exit.then (fun a1 W1 => KeepR w.heap.size W W1 ∧ Kp W W1 ∧ I pre W1 ∧ ∀ o, I pre (W1.putObj (w.heap.size + 1) o) →
          body.wpIn (Fence.wide.inRound l) (n - 1 - 1) P (roundEndK w.heap.size Kp I Ix (pre ++ [x]) (W1.putObj (w.heap.size + 1) o)) a1 (W1.putObj (w.heap.size + 1) o)) (fun _ _ _ => False))
        { tmps := (ps.zip (encs x)).foldl (fun t (p, v) => t.setIfInBounds p v) a.tmps, defers := [] } W)
    (hdone : ∀ (W : World), I L W → W.heap[w.heap.size]? = some (.deferred (some [])) → Q .normal { a with defers := { target := .collected w.heap.size, args := #[] } :: a.defers } W)
    (hstop : ∀ (c : Code) (pre : List α) (W : World), pre <+: L → Ix c pre W → W.heap[w.heap.size]? = some (.deferred (some [])) → c.wpIn Fence.wide n P Q { a with defers := { target := .collected w.heap.size, args := #[] } :: a.defers } W) :
    (Code.rangeFunc g ps assign body).wpIn Fence.wide n P Q a w := by
  refine wpIn_rangeFunc fun fn _ => ?_
  -- the loop's record, by its state and its pending jump; the world when the iterator is called
  let rec0 : LoopState → Option Code → Loop := fun st pe => { state := st, pending := pe, fn, tmps := a.tmps, params := ps, assign, body, defers := w.heap.size }
  have hW1 : ((w.alloc (.deferred (some []))).alloc (.loop (rec0 .ready none))).heap.size = w.heap.size + 2 := by simp
  have hD1 : ((w.alloc (.deferred (some []))).alloc (.loop (rec0 .ready none))).heap[w.heap.size]? = some (.deferred (some [])) := heap_old (World.alloc_heap_new w _) _
  have hL1 : ((w.alloc (.deferred (some []))).alloc (.loop (rec0 .ready none))).heap[w.heap.size + 1]? = some (.loop (rec0 .ready none)) := by
    have h := World.alloc_heap_new (w.alloc (.deferred (some []))) (.loop (rec0 .ready none))
    rwa [World.size_alloc] at h
  have hB1 : Below w.heap.size w ((w.alloc (.deferred (some []))).alloc (.loop (rec0 .ready none))) := ((Below.refl _ w).alloc (Nat.le_refl _) _).alloc (by simp) _
  refine ⟨w.heap.size + 1, [{ target := .collected w.heap.size, args := #[] }], _, { target := .fn (.func gf) lb, args := #[.func (.yield (w.heap.size + 1)) #[] #[]] }, _, gf, _, _,
    run_enterLoop_outer fn a.tmps ps assign body, by simp only [resolve, hg]; simp [go_sem]; rfl, fun _ _ => trivial, by simp [invoke, go_sem, eg]; exact ⟨rfl, rfl⟩, fun h => absurd h (by decide), ?_⟩
  generalize hWd : (w.alloc (.deferred (some []))).alloc (.loop (rec0 .ready none)) = W1 at hW1 hD1 hL1 hB1
  clear hWd
  refine (hseq (w.heap.size + 1)
    (fun pre W => I pre W ∧ W.heap[w.heap.size + 1]? = some (.loop (rec0 .ready none)) ∧ W.heap[w.heap.size]? = some (.deferred (some [])))
    (fun pre W => ∃ c, Ix c pre W ∧ W.heap[w.heap.size + 1]? = some (.loop (rec0 .done (some c))) ∧ W.heap[w.heap.size]? = some (.deferred (some [])))
    W1 hB1 (fun pre W o h => ⟨hIa _ _ _ h.1, heap_old h.2.1 _, heap_old h.2.2 _⟩) ?_ ⟨h0 W1 hB1, hL1, hD1⟩).mono ?_
  · rintro pre x W hpx ⟨hi, hl, hd⟩
    have hsz := lt_of_block hl
    refine ⟨fn, _, assign, body, run_yield hl (hps x), roundIn_of_wpIn trivial (wpIn_mono (hround (w.heap.size + 1) pre x W hpx hi (by omega)) ?_)⟩
    intro e a1 Wa hp
    cases e with
    | normal =>
      obtain ⟨hca, hka, hia, hgo⟩ := hp
      have hla := hca.2.2.trans hl
      have hda := hca.2.1.trans hd
      have hlt := lt_of_block hla
      refine ⟨_, run_beginRound hla rfl, wpIn_mono (hgo _ (hI _ _ _ hia)) ?_⟩
      have hlb := World.putObj_heap_same (o := Obj.loop { rec0 .ready none with state := .busy }) hlt
      have hdb : (Wa.putObj (w.heap.size + 1) (.loop { rec0 .ready none with state := .busy })).heap[w.heap.size]? = some (.deferred (some [])) := (World.putObj_heap_other (by omega)).trans hda
      have ends : ∀ (jump : Option Code) (W3 : World), KeepR w.heap.size (Wa.putObj (w.heap.size + 1) (.loop { rec0 .ready none with state := .busy })) W3 →
          ∃ o, (Instr.endRound (w.heap.size + 1) jump).run P W3 = .ok (.bool jump.isNone) (W3.putObj (w.heap.size + 1) o) ∧
            (W3.putObj (w.heap.size + 1) o).heap[w.heap.size + 1]? = some (.loop (rec0 (if jump.isNone then .ready else .done) jump)) ∧
            (W3.putObj (w.heap.size + 1) o).heap[w.heap.size]? = some (.deferred (some [])) := fun jump W3 hc3 => by
        have hl3 := hc3.2.2.trans hlb
        exact ⟨_, run_endRound jump hl3, World.putObj_heap_same (lt_of_block hl3), (World.putObj_heap_other (by omega)).trans (hc3.2.1.trans hdb)⟩
      intro e a3 W3 hp3
      cases e with
      | normal =>
        obtain ⟨hc3, hk3, hi3⟩ := hp3
        obtain ⟨o, hr, hl4, hd4⟩ := ends none W3 hc3
        exact ⟨_, _, hr, .inl ⟨rfl, ⟨hI _ _ _ hi3, hl4, hd4⟩, hKt (hKt (hKt hka (hKb _ _)) hk3) (hKb _ _)⟩⟩
      | ret =>
        obtain ⟨hc3, hi3⟩ := hp3
        obtain ⟨o, hr, hl4, hd4⟩ := ends (some .ret) W3 hc3
        exact ⟨_, _, hr, .inr ⟨rfl, ⟨_, hIx _ _ _ _ hi3, hl4, hd4⟩⟩⟩
      | exit id =>
        obtain ⟨hc3, hi3⟩ := hp3
        obtain ⟨o, hr, hl4, hd4⟩ := ends (some (.exit id)) W3 hc3
        exact ⟨_, _, hr, .inr ⟨rfl, ⟨_, hIx _ _ _ _ hi3, hl4, hd4⟩⟩⟩
      | goto t => exact hp3.elim
      | panic ch => exact hp3.elim
      | outgrown => exact hp3.elim
    | exit id => exact hp.elim
    | goto t => exact hp.elim
    | ret => exact hp.elim
    | panic ch => exact hp.elim
    | outgrown => exact hp.elim
  · rintro e W2 ⟨⟨v, rfl⟩, (⟨hi, hl, hd⟩ | ⟨pre, hSp, c, hi, hl, hd⟩)⟩
    · exact ⟨none, _, run_endLoop hl (fun h => nomatch h), hdone _ (hI _ _ _ hi) ((World.putObj_heap_other (by omega)).trans hd)⟩
    · exact ⟨some c, _, run_endLoop hl (fun h => nomatch h), hstop c pre _ hSp (hIx _ _ _ _ hi) ((World.putObj_heap_other (by omega)).trans hd)⟩
end Go.Proofs.YtfgdichdddknlaaDoor
