/-
  An iterator that yields the elements of a list: its contract, and the statement that ranges over it. Conditions stand in each theorem.
-/
import Derived.Test.YtfgdichdddknlaaDoorNd1
namespace Go.Proofs.YtfgdichdddknlaaDoor
open Go.RowKit Go.BigFrame Go.Shelf

/-- A contract of an iterator that yields the elements of L, one by one; it may run others and yield within. -/
def SeqL {α : Type} (n : Nat) (P : Program) (g : Nat) (lb : Array Value) (encs : α → Array Value) (Kp : World → World → Prop) (L : List α) (w : World) : Prop :=
  ∀ (l : Nat) (J Jx : List α → World → Prop) (W : World), Below w.heap.size w W → Firm W.heap.size J → Firm W.heap.size Jx →
    (∀ pre x W1, pre ++ [x] <+: L → J pre W1 → W.heap.size ≤ W1.heap.size → YieldAt Fence.wide (n - 1) P l (encs x) W1 fun e W' =>
      (e = .returned (.bool true) ∧ J (pre ++ [x]) W' ∧ Kp W1 W' ∧ Calm W.heap.size W1 W') ∨ (e = .returned (.bool false) ∧ Jx (pre ++ [x]) W' ∧ Calm W.heap.size W1 W')) →
    J [] W →
    CallsIn Fence.wide n P g (#[.func (.yield l) #[] #[]] ++ lb) W fun e W' => (∃ v, e = .returned v) ∧ (J L W' ∨ (∃ pre, pre <+: L ∧ Jx pre W'))
theorem range_l {α : Type} {P : Program} {n : Nat} {g : Operand} {ps : Array Tmp} {assign body : Code} {Q : Exit → Act → World → Prop} {a : Act} {w : World}
    (_ : 1 ≤ n) {gf : Nat} {lb : Array Value} (hg : a.eval g = .func (.func gf) #[] lb) (eg : ∀ args w, (callFunc gf args).run P w = .ok (.enter gf args) w)
    {encs : α → Array Value} {Kp : World → World → Prop} {L : List α} (hseq : SeqL (n - 1) P gf lb encs Kp L w)
    (hKt : ∀ {A B C : World}, Kp A B → Kp B C → Kp A C) (hKb : ∀ (W : World) (o' : Obj), Kp W (W.putObj (w.heap.size + 1) o')) (hps : ∀ x, (encs x).size = ps.size)
    (I : List α → World → Prop) (Ix : Code → List α → World → Prop) (hI : Firm w.heap.size I) (hIx : ∀ c, Firm w.heap.size (Ix c)) (h0 : I [] w)
    (hround : ∀ (l : Nat) (pre : List α) (x : α) (W : World), pre ++ [x] <+: L → I pre W → w.heap.size + 2 ≤ W.heap.size →
      assign.wpIn (Fence.wide.inRound l) (n - 1 - 1) P (Exit.then (fun a1 W1 => Calm w.heap.size W W1 ∧ Kp W W1 ∧ I pre W1 ∧ ∀ o, I pre (W1.putObj (w.heap.size + 1) o) →
          body.wpIn (Fence.wide.inRound l) (n - 1 - 1) P (roundEnd w.heap.size Kp I Ix (pre ++ [x]) (W1.putObj (w.heap.size + 1) o)) a1 (W1.putObj (w.heap.size + 1) o)) (fun _ _ _ => False))
        { tmps := (ps.zip (encs x)).foldl (fun t (p, v) => t.setIfInBounds p v) a.tmps, defers := [] } W)
    (hdone : ∀ (W : World), I L W → W.heap[w.heap.size]? = some (.deferred (some [])) → Q .normal { a with defers := { target := .collected w.heap.size, args := #[] } :: a.defers } W)
    (hstop : ∀ (c : Code) (pre : List α) (W : World), pre <+: L → Ix c pre W → W.heap[w.heap.size]? = some (.deferred (some [])) → c.wpIn Fence.wide n P Q { a with defers := { target := .collected w.heap.size, args := #[] } :: a.defers } W) :
    (Code.rangeFunc g ps assign body).wpIn Fence.wide n P Q a w := by
  refine wpIn_rangeFunc fun fn _ => ?_
  -- the loop's record, by its state and its pending jump; the world when the iterator is called
  let rec0 : LoopState → Option Code → Loop := fun st pe => { state := st, pending := pe, fn, tmps := a.tmps, params := ps, assign, body, defers := w.heap.size }
  have hW1 : ((w.alloc (.deferred (some []))).alloc (.loop (rec0 .ready none))).heap.size = w.heap.size + 2 := by simp
  have hD1 : ((w.alloc (.deferred (some []))).alloc (.loop (rec0 .ready none))).heap[w.heap.size]? = some (.deferred (some [])) := heap_old (World.alloc_heap_new w _) _
  have hL1 : ((w.alloc (.deferred (some []))).alloc (.loop (rec0 .ready none))).heap[w.heap.size + 1]? = some (.loop (rec0 .ready none)) := by
    have h := World.alloc_heap_new (w.alloc (.deferred (some []))) (.loop (rec0 .ready none))
    rwa [World.size_alloc] at h
  have hB1 : Below w.heap.size w ((w.alloc (.deferred (some []))).alloc (.loop (rec0 .ready none))) := ((Below.refl _ w).alloc (Nat.le_refl _) _).alloc (by simp) _
  refine ⟨w.heap.size + 1, [{ target := .collected w.heap.size, args := #[] }], _, { target := .fn (.func gf) lb, args := #[.func (.yield (w.heap.size + 1)) #[] #[]] }, _, gf, _, _,
    run_enterLoop_outer fn a.tmps ps assign body, by simp only [resolve, hg]; simp [go_sem]; rfl, fun _ _ => trivial, by simp [invoke, go_sem, eg]; exact ⟨rfl, rfl⟩, fun h => absurd h (by decide), ?_⟩
  generalize hWd : (w.alloc (.deferred (some []))).alloc (.loop (rec0 .ready none)) = W1 at hW1 hD1 hL1 hB1
  clear hWd
  have up : ∀ {A C : World}, Below W1.heap.size A C → Below w.heap.size A C := fun h => h.mono (by omega)
  have at_loop : ∀ {A C : World} {o : Obj}, A.heap[w.heap.size + 1]? = some o → Below W1.heap.size A C → C.heap[w.heap.size + 1]? = some o := fun h hb => (hb.block _ (by omega)).trans h
  have at_mark : ∀ {A C : World} {o : Obj}, A.heap[w.heap.size]? = some o → Below W1.heap.size A C → C.heap[w.heap.size]? = some o := fun h hb => (hb.block _ (by omega)).trans h
  refine (hseq (w.heap.size + 1)
    (fun pre W => I pre W ∧ W.heap[w.heap.size + 1]? = some (.loop (rec0 .ready none)) ∧ W.heap[w.heap.size]? = some (.deferred (some [])))
    (fun pre W => ∃ c, Ix c pre W ∧ W.heap[w.heap.size + 1]? = some (.loop (rec0 .done (some c))) ∧ W.heap[w.heap.size]? = some (.deferred (some [])))
    W1 hB1 (fun s A C hs hb => ⟨hI s A C hs.1 (up hb), at_loop hs.2.1 hb, at_mark hs.2.2 hb⟩)
    (fun s A C hs hb => by
      obtain ⟨c, hc, hl, hd⟩ := hs
      exact ⟨c, hIx c s A C hc (up hb), at_loop hl hb, at_mark hd hb⟩)
    ?_ ⟨hI [] w W1 h0 hB1, hL1, hD1⟩).mono ?_
  · rintro pre x W hpx ⟨hi, hl, hd⟩ hsz
    refine ⟨fn, _, assign, body, run_yield hl (hps x), roundIn_of_wpIn trivial (wpIn_mono (hround (w.heap.size + 1) pre x W hpx hi (by omega)) ?_)⟩
    intro e a1 Wa hp
    cases e with
    | normal =>
      obtain ⟨hca, hka, hia, hgo⟩ := hp
      have hla := hca.keep (by omega) hl
      have hda := hca.keep (Nat.le_refl _) hd
      have hlt := lt_of_block hla
      refine ⟨_, run_beginRound hla rfl, wpIn_mono (hgo _ (hI _ _ _ hia (below_putObj _ _ _ (by omega)))) ?_⟩
      have hlb := World.putObj_heap_same (o := Obj.loop { rec0 .ready none with state := .busy }) hlt
      have hdb : (Wa.putObj (w.heap.size + 1) (.loop { rec0 .ready none with state := .busy })).heap[w.heap.size]? = some (.deferred (some [])) := (World.putObj_heap_other (by omega)).trans hda
      have ends : ∀ (jump : Option Code) (W3 : World), Calm w.heap.size (Wa.putObj (w.heap.size + 1) (.loop { rec0 .ready none with state := .busy })) W3 →
          ∃ o, (Instr.endRound (w.heap.size + 1) jump).run P W3 = .ok (.bool jump.isNone) (W3.putObj (w.heap.size + 1) o) ∧
            (W3.putObj (w.heap.size + 1) o).heap[w.heap.size + 1]? = some (.loop (rec0 (if jump.isNone then .ready else .done) jump)) ∧
            (W3.putObj (w.heap.size + 1) o).heap[w.heap.size]? = some (.deferred (some [])) ∧ Calm W1.heap.size W (W3.putObj (w.heap.size + 1) o) := fun jump W3 hc3 => by
        have hl3 := hc3.keep (by omega) hlb
        exact ⟨_, run_endRound jump hl3, World.putObj_heap_same (lt_of_block hl3), (World.putObj_heap_other (by omega)).trans (hc3.keep (Nat.le_refl _) hdb),
          (((hca.mono (by omega)).trans (Calm.put _ _ _ (by omega))).trans (hc3.mono (by omega))).trans (Calm.put _ _ _ (by omega))⟩
      intro e a3 W3 hp3
      cases e with
      | normal =>
        obtain ⟨hc3, hk3, hi3⟩ := hp3
        obtain ⟨o, hr, hl4, hd4, hc4⟩ := ends none W3 hc3
        exact ⟨_, _, hr, .inl ⟨rfl, ⟨hI _ _ _ hi3 (below_putObj _ _ _ (by omega)), hl4, hd4⟩, hKt (hKt (hKt hka (hKb _ _)) hk3) (hKb _ _), hc4⟩⟩
      | ret =>
        obtain ⟨hc3, hi3⟩ := hp3
        obtain ⟨o, hr, hl4, hd4, hc4⟩ := ends (some .ret) W3 hc3
        exact ⟨_, _, hr, .inr ⟨rfl, ⟨_, hIx _ _ _ _ hi3 (below_putObj _ _ _ (by omega)), hl4, hd4⟩, hc4⟩⟩
      | exit id =>
        obtain ⟨hc3, hi3⟩ := hp3
        obtain ⟨o, hr, hl4, hd4, hc4⟩ := ends (some (.exit id)) W3 hc3
        exact ⟨_, _, hr, .inr ⟨rfl, ⟨_, hIx _ _ _ _ hi3 (below_putObj _ _ _ (by omega)), hl4, hd4⟩, hc4⟩⟩
      | goto t => exact hp3.elim
      | panic ch => exact hp3.elim
      | outgrown => exact hp3.elim
    | exit id => exact hp.elim
    | goto t => exact hp.elim
    | ret => exact hp.elim
    | panic ch => exact hp.elim
    | outgrown => exact hp.elim
  · rintro e W2 ⟨⟨v, rfl⟩, (⟨hi, hl, hd⟩ | ⟨pre, hSp, c, hi, hl, hd⟩)⟩
    · exact ⟨none, _, run_endLoop hl (fun h => nomatch h), hdone _ (hI _ _ _ hi (below_putObj _ _ _ (by omega))) ((World.putObj_heap_other (by omega)).trans hd)⟩
    · exact ⟨some c, _, run_endLoop hl (fun h => nomatch h), hstop c pre _ hSp (hIx _ _ _ _ hi (below_putObj _ _ _ (by omega))) ((World.putObj_heap_other (by omega)).trans hd)⟩
end Go.Proofs.YtfgdichdddknlaaDoor
