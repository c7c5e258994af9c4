/-
  Tags: All, Len; what the two News tell is the same. Conditions stand in each theorem.
-/
import Derived.Test.YtfgdichdddknlaaDoorLm13
import Derived.Test.YtfgdichdddknlaaDoorGt9
import Derived.Test.YtfgdichdddknlaaDoorNd2
import Derived.Test.YtfgdichdddknlaaDoorNdl
namespace Go.Proofs.YtfgdichdddknlaaDoor
open Go.RowKit Go.BigFrame Go.Shelf
attribute [local go_sem] Oper.semAt_some

set_option maxHeartbeats 1000000 in
theorem values_any (A : Option Addr) (n c : Nat) (w : World) :
    Calls Tryd.prog 23 #[.slice A n c] w fun e w' => ∃ b, e = .returned (.func (.func 34) #[] #[.pointer (some ⟨b, 0, none⟩)]) ∧ w'.heap[b]? = some (.cells #[.slice A n c] 22 (0, 0)) ∧ w.heap.size ≤ b ∧ Below w.heap.size w w' := by
  have hmf : ∀ (fn : Fn) (first cap : Array Value) (w : World), (Instr.makeFunc fn first cap).run Tryd.prog w = .ok (.func fn first cap) w := fun _ _ _ _ => rfl
  go_enter Tryd.func23, Tryd.ntmps23
  go_wp2
  go_ret
  exact ⟨_, rfl, heap_at (by simp) _, by simp, by focus (repeat (first | (with_reducible exact Below.refl _ _) | (with_reducible assumption) | ((with_reducible refine Below.setCell ?_ ?_ _); rotate_left; (focus (first | omega | (simp; done) | (simp; omega)))) | ((with_reducible refine Below.alloc ?_ ?_ _); rotate_left; (focus (first | omega | (simp; done) | (simp; omega)))) | (with_reducible refine Below.drew ?_) | (refine below_on ?_ (by assumption))))⟩
set_option maxRecDepth 100000 in
set_option maxHeartbeats 4000000 in
theorem values_stops (l : List Int) (A : Option Addr) (c : Nat) (hlen : l.length < 9223372036854775807) (n b n₀ : Nat) (w : World) (hn : n₀ ≤ w.heap.size)
    (hb : w.heap[b]? = some (.cells #[.slice A l.length c] 22 (0, 0))) (hcl : ∀ W, Below n₀ w W → NumsIn W A l) :
    SeqL n Tryd.prog 34 #[.pointer (some ⟨b, 0, none⟩)] (fun v : Int => #[.int .i64 v]) (Below n₀) l w := by
  intro lp J Jx W hW hJ hJx hY h0
  have hb1 := (hW.block _ (lt_of_block hb)).trans hb
  refine callsIn_of_wp Tryd.func34 rfl trivial ?_ rfl
  simp only [Tryd.ntmps34, List.size_toArray, List.length_cons, List.length_nil, Nat.reduceAdd, Nat.reduceSub, Array.replicate_succ, Array.replicate_zero, List.push_toArray, List.append_toArray, List.nil_append, List.cons_append]
  have H0 := Hd.mk (And.intro hJ (And.intro hJx hY))
  clear hJ hJx hY
  have hc := cell_at hb1
  gi_wp2
  gi_loopw [7] (fun i wr => ∃ k : Nat, k ≤ l.length ∧ i = .int .i64 k ∧ J (l.take k) wr ∧ W.heap.size ≤ wr.heap.size ∧ Below n₀ W wr) (fun i _ => l.length - (intOf i).toNat)
  case atStart => exact ⟨0, Nat.zero_le _, rfl, h0, Nat.le_refl _, Below.refl _ _⟩
  case round =>
    clear hc hb1 h0
    obtain ⟨k, hk, rfl, hJk, hsz, hB⟩ := hrel
    by_cases hlt : k < l.length
    · have hd1 : decide ((k : Int) < (l.length : Int)) = true := by simp; omega
      have hd2 : decide (k < l.length) = true := by simp; omega
      obtain ⟨bb, off, rfl, hcc⟩ := hcl wr ((hW.mono hn).trans hB) (by omega)
      obtain ⟨v, hv⟩ : ∃ v, l[k]? = some v := ⟨_, List.getElem?_eq_getElem hlt⟩
      have hcv := hcc k v hv
      have htk : l.take (k + 1) = l.take k ++ [v] := by rw [List.take_add_one, hv]; rfl
      have hpx : l.take k ++ [v] <+: l := by rw [← htk]; exact List.take_prefix _ _
      obtain ⟨fn, tmps, assign, body, hy, hR⟩ := H0.out.2.2 _ v wr hpx hJk hsz
      have HT := Hd.mk htk
      have HP := Hd.mk hpx
      have HB := Hd.mk hB
      have HL := Hd.mk hlt
      clear hcc hv htk hpx hB hcl
      gi_wp2
      refine ⟨fun h => (by cases h), hR.mono ?_⟩
      rintro e W3 (⟨rfl, hJ3, hk3, hc3⟩ | ⟨rfl, hJ3, hc3⟩)
      · clear hcv hy hR
        gi_wp2
        go_roundw
        case rel => exact ⟨k + 1, HL.out, by go_num, by rw [HT.out]; exact hJ3, Nat.le_trans hsz hc3.size, HB.out.trans hk3⟩
        case measure => have := HL.out; simp [intOf]; omega
      · clear hcv hy hR
        gi_wp2
        exact bodyPost_ret (results_none rfl _ _ _) rfl ⟨⟨_, rfl⟩, .inr ⟨_, HP.out, hJ3⟩⟩
    · obtain rfl : k = l.length := by omega
      have hd1 : decide (((l.length : Nat) : Int) < (l.length : Int)) = false := by simp
      have hJe : J l wr := by
        have h := hJk
        rwa [List.take_length] at h
      clear hJk hcl
      gi_wp2
      go_end0
      exact ⟨⟨_, rfl⟩, .inl hJe⟩
set_option maxRecDepth 100000 in
set_option maxHeartbeats 1000000 in
theorem tg_add (L : List Ct) (n : Int) (hok : TagOk 60 L) (A : Option Addr) (c : Nat) (w : World) (hN : CtsIn w A L) :
    Calls Tryd.prog 24 #[.agg #[.slice A L.length c], .int .i64 n] w (WithPost (addT L n) w) := by
  have HW := Hd.mk (fun w hN => tg_with L n hok A c w hN)
  have HN := Hd.mk hN
  unfold WithPost at HW ⊢
  generalize addT L n = L2 at HW ⊢
  clear hN hok
  go_enter Tryd.func24, Tryd.ntmps24
  go_upto_region 1 with (fail)
  refine abs_wp (fun W => W.heap[w.heap.size]? = some (.cells #[.slice A L.length c] 26 (0, 0)) ∧ W.heap[w.heap.size + 1]? = some (.cells #[.slice none 0 0] 26 (0, 0)) ∧ Below w.heap.size w W) ⟨heap_old (heap_new _ _) _, heap_at (by simp) _, ((Below.refl _ _).alloc (Nat.le_refl _) _).alloc (by simp) _⟩ fun W0 ⟨y0, y1, hB⟩ => ?_
  have c0 := cell_at y0
  go_wp2_with fail
  refine (HW.out _ (HN.out.below hB)).mono ?_
  rintro e w1 ⟨A', c', rfl, h1, hfr, hb⟩
  have z1 := heap_below hb y1
  have hB1 := below_on hB hb
  have HI := Hd.mk h1
  have HFR := Hd.mk (show ∀ a, A' = some a → w.heap.size ≤ a.block from fun a ha => Nat.le_trans hB.size (hfr a ha))
  have c1 := cell_at z1
  have f1 := frozen_at z1
  have k1 := heap_set z1 0 (.slice A' L2.length c')
  have HB := Hd.mk (hB1.trans (Below.setCell (Below.refl _ _) (p := ⟨w.heap.size + 1, 0, none⟩) (by show w.heap.size ≤ w.heap.size + 1; omega) (.slice A' L2.length c')))
  have k2 := cell_at k1
  have HZ := Hd.mk z1
  clear hb y0 y1 hB c0 h1 z1 hB1 hfr
  go_wp2
  refine bodyPost_ret (by simp [results, Tryd.results24, go_sem, k2] <;> rfl) rfl ?_
  refine ⟨A', c', rfl, fun h0 => ?_, HFR.out, HB.out⟩
  obtain ⟨b, off, e, hc⟩ := HI.out h0
  have hne : ∀ o, (⟨w.heap.size + 1, 0, none⟩ : Addr) ≠ ⟨b, o, none⟩ → (w1.setCell ⟨w.heap.size + 1, 0, none⟩ (.slice A' L2.length c')).cell? ⟨b, o, none⟩ = w1.cell? ⟨b, o, none⟩ := fun o h => World.cell?_setCell_other _ _ _ _ h
  refine ⟨b, off, e, fun j x hj => ?_⟩
  have hb : b ≠ w.heap.size + 1 := fun eb => by
    have h2 := (hc j x hj).1
    rw [eb, cell_at HZ.out] at h2
    have h3 := (Array.getElem?_eq_some_iff.1 h2).1
    have h4 : off + j * 2 = 0 := by simp at h3; omega
    rw [h4] at h2
    simp at h2
  rw [hne _ (fun e => hb (by injection e with e1 _ _; exact e1.symm)), hne _ (fun e => hb (by injection e with e1 _ _; exact e1.symm))]
  exact hc j x hj
end Go.Proofs.YtfgdichdddknlaaDoor

namespace Go.Proofs.YtfgdichdddknlaaDoor
open Go.RowKit Go.BigFrame Go.Shelf
attribute [local go_sem] Oper.semAt_some

/-- A contract of an iterator that yields the elements of L, one by one, and does nothing else. -/
def SeqP {α : Type} (n : Nat) (P : Program) (g : Nat) (lb : Array Value) (encs : α → Array Value) (Kp : World → World → Prop) (L : List α) (w : World) : Prop :=
  ∀ (l : Nat) (J Jx : List α → World → Prop) (W : World), Below w.heap.size w W →
    (∀ pre x W1, pre ++ [x] <+: L → J pre W1 → YieldAt Fence.wide (n - 1) P l (encs x) W1 fun e W' =>
      (e = .returned (.bool true) ∧ J (pre ++ [x]) W' ∧ Kp W1 W') ∨ (e = .returned (.bool false) ∧ Jx (pre ++ [x]) W')) →
    J [] W →
    CallsIn Fence.wide n P g (#[.func (.yield l) #[] #[]] ++ lb) W fun e W' => (∃ v, e = .returned v) ∧ (J L W' ∨ (∃ pre, pre <+: L ∧ Jx pre W'))
set_option maxRecDepth 100000 in
set_option maxHeartbeats 4000000 in
theorem values_plain (l : List Int) (A : Option Addr) (c : Nat) (hlen : l.length < 9223372036854775807) (n b n₀ : Nat) (w : World) (hn : n₀ ≤ w.heap.size)
    (hb : w.heap[b]? = some (.cells #[.slice A l.length c] 22 (0, 0))) (hcl : ∀ W, Below n₀ w W → NumsIn W A l) :
    SeqP n Tryd.prog 34 #[.pointer (some ⟨b, 0, none⟩)] (fun v : Int => #[.int .i64 v]) (Below n₀) l w := by
  intro lp J Jx W hW hY h0
  have hb1 := (hW.block _ (lt_of_block hb)).trans hb
  refine callsIn_of_wp Tryd.func34 rfl trivial ?_ rfl
  simp only [Tryd.ntmps34, List.size_toArray, List.length_cons, List.length_nil, Nat.reduceAdd, Nat.reduceSub, Array.replicate_succ, Array.replicate_zero, List.push_toArray, List.append_toArray, List.nil_append, List.cons_append]
  have H0 := Hd.mk hY
  clear hY
  have hc := cell_at hb1
  gi_wp2
  gi_loopw [7] (fun i wr => ∃ k : Nat, k ≤ l.length ∧ i = .int .i64 k ∧ J (l.take k) wr ∧ Below n₀ W wr) (fun i _ => l.length - (intOf i).toNat)
  case atStart => exact ⟨0, Nat.zero_le _, rfl, h0, Below.refl _ _⟩
  case round =>
    clear hc hb1 h0
    obtain ⟨k, hk, rfl, hJk, hB⟩ := hrel
    by_cases hlt : k < l.length
    · have hd1 : decide ((k : Int) < (l.length : Int)) = true := by simp; omega
      have hd2 : decide (k < l.length) = true := by simp; omega
      obtain ⟨bb, off, rfl, hcc⟩ := hcl wr ((hW.mono hn).trans hB) (by omega)
      obtain ⟨v, hv⟩ : ∃ v, l[k]? = some v := ⟨_, List.getElem?_eq_getElem hlt⟩
      have hcv := hcc k v hv
      have htk : l.take (k + 1) = l.take k ++ [v] := by rw [List.take_add_one, hv]; rfl
      have hpx : l.take k ++ [v] <+: l := by rw [← htk]; exact List.take_prefix _ _
      obtain ⟨fn, tmps, assign, body, hy, hR⟩ := H0.out _ v wr hpx hJk
      have HT := Hd.mk htk
      have HP := Hd.mk hpx
      have HB := Hd.mk hB
      have HL := Hd.mk hlt
      clear hcc hv htk hpx hB hcl
      gi_wp2
      refine ⟨fun h => (by cases h), hR.mono ?_⟩
      rintro e W3 (⟨rfl, hJ3, hk3⟩ | ⟨rfl, hJ3⟩)
      · clear hcv hy hR
        gi_wp2
        go_roundw
        case rel => exact ⟨k + 1, HL.out, by go_num, by rw [HT.out]; exact hJ3, HB.out.trans hk3⟩
        case measure => have := HL.out; simp [intOf]; omega
      · clear hcv hy hR
        gi_wp2
        exact bodyPost_ret (results_none rfl _ _ _) rfl ⟨⟨_, rfl⟩, .inr ⟨_, HP.out, hJ3⟩⟩
    · obtain rfl : k = l.length := by omega
      have hd1 : decide (((l.length : Nat) : Int) < (l.length : Int)) = false := by simp
      have hJe : J l wr := by
        have h := hJk
        rwa [List.take_length] at h
      clear hJk hcl
      gi_wp2
      go_end0
      exact ⟨⟨_, rfl⟩, .inl hJe⟩
theorem range_p {α : Type} {P : Program} {n : Nat} {g : Operand} {ps : Array Tmp} {assign body : Code} {Q : Exit → Act → World → Prop} {a : Act} {w : World}
    (_ : 1 ≤ n) {gf : Nat} {lb : Array Value} (hg : a.eval g = .func (.func gf) #[] lb) (eg : ∀ args w, (callFunc gf args).run P w = .ok (.enter gf args) w)
    {encs : α → Array Value} {Kp : World → World → Prop} {L : List α} (hseq : SeqP (n - 1) P gf lb encs Kp L w)
    (hKt : ∀ {A B C : World}, Kp A B → Kp B C → Kp A C) (hKb : ∀ (W : World) (o' : Obj), Kp W (W.putObj (w.heap.size + 1) o')) (hps : ∀ x, (encs x).size = ps.size)
    (I : List α → World → Prop) (Ix : Code → List α → World → Prop) (hI : ∀ pre A o, I pre A → I pre (A.putObj (w.heap.size + 1) o)) (hIx : ∀ c pre A o, Ix c pre A → Ix c pre (A.putObj (w.heap.size + 1) o)) (h0 : ∀ W, Below w.heap.size w W → I [] W)
    (hround : ∀ (l : Nat) (pre : List α) (x : α) (W : World), pre ++ [x] <+: L → I pre W → w.heap.size + 2 ≤ W.heap.size →
      assign.wpIn (Fence.wide.inRound l) (n - 1 - 1) P (Exit.then (fun a1 W1 => Calm w.heap.size W W1 ∧ Kp W W1 ∧ I pre W1 ∧ ∀ o, I pre (W1.putObj (w.heap.size + 1) o) →
          body.wpIn (Fence.wide.inRound l) (n - 1 - 1) P (roundEnd w.heap.size Kp I Ix (pre ++ [x]) (W1.putObj (w.heap.size + 1) o)) a1 (W1.putObj (w.heap.size + 1) o)) (fun _ _ _ => False))
        { tmps := (ps.zip (encs x)).foldl (fun t (p, v) => t.setIfInBounds p v) a.tmps, defers := [] } W)
    (hdone : ∀ (W : World), I L W → W.heap[w.heap.size]? = some (.deferred (some [])) → Q .normal { a with defers := { target := .collected w.heap.size, args := #[] } :: a.defers } W)
    (hstop : ∀ (c : Code) (pre : List α) (W : World), pre <+: L → Ix c pre W → W.heap[w.heap.size]? = some (.deferred (some [])) → c.wpIn Fence.wide n P Q { a with defers := { target := .collected w.heap.size, args := #[] } :: a.defers } W) :
    (Code.rangeFunc g ps assign body).wpIn Fence.wide n P Q a w := by
  refine wpIn_rangeFunc fun fn _ => ?_
  -- the loop's record, by its state and its pending jump; the world when the iterator is called
  let rec0 : LoopState → Option Code → Loop := fun st pe => { state := st, pending := pe, fn, tmps := a.tmps, params := ps, assign, body, defers := w.heap.size }
  have hW1 : ((w.alloc (.deferred (some []))).alloc (.loop (rec0 .ready none))).heap.size = w.heap.size + 2 := by simp
  have hD1 : ((w.alloc (.deferred (some []))).alloc (.loop (rec0 .ready none))).heap[w.heap.size]? = some (.deferred (some [])) := heap_old (World.alloc_heap_new w _) _
  have hL1 : ((w.alloc (.deferred (some []))).alloc (.loop (rec0 .ready none))).heap[w.heap.size + 1]? = some (.loop (rec0 .ready none)) := by
    have h := World.alloc_heap_new (w.alloc (.deferred (some []))) (.loop (rec0 .ready none))
    rwa [World.size_alloc] at h
  have hB1 : Below w.heap.size w ((w.alloc (.deferred (some []))).alloc (.loop (rec0 .ready none))) := ((Below.refl _ w).alloc (Nat.le_refl _) _).alloc (by simp) _
  refine ⟨w.heap.size + 1, [{ target := .collected w.heap.size, args := #[] }], _, { target := .fn (.func gf) lb, args := #[.func (.yield (w.heap.size + 1)) #[] #[]] }, _, gf, _, _,
    run_enterLoop_outer fn a.tmps ps assign body, by simp only [resolve, hg]; simp [go_sem]; rfl, fun _ _ => trivial, by simp [invoke, go_sem, eg]; exact ⟨rfl, rfl⟩, fun h => absurd h (by decide), ?_⟩
  generalize hWd : (w.alloc (.deferred (some []))).alloc (.loop (rec0 .ready none)) = W1 at hW1 hD1 hL1 hB1
  clear hWd
  refine (hseq (w.heap.size + 1)
    (fun pre W => I pre W ∧ W.heap[w.heap.size + 1]? = some (.loop (rec0 .ready none)) ∧ W.heap[w.heap.size]? = some (.deferred (some [])))
    (fun pre W => ∃ c, Ix c pre W ∧ W.heap[w.heap.size + 1]? = some (.loop (rec0 .done (some c))) ∧ W.heap[w.heap.size]? = some (.deferred (some [])))
    W1 hB1 ?_ ⟨h0 W1 hB1, hL1, hD1⟩).mono ?_
  · rintro pre x W hpx ⟨hi, hl, hd⟩
    have hsz := lt_of_block hl
    refine ⟨fn, _, assign, body, run_yield hl (hps x), roundIn_of_wpIn trivial (wpIn_mono (hround (w.heap.size + 1) pre x W hpx hi (by omega)) ?_)⟩
    intro e a1 Wa hp
    cases e with
    | normal =>
      obtain ⟨hca, hka, hia, hgo⟩ := hp
      have hla := hca.keep (by omega) hl
      have hda := hca.keep (Nat.le_refl _) hd
      have hlt := lt_of_block hla
      refine ⟨_, run_beginRound hla rfl, wpIn_mono (hgo _ (hI _ _ _ hia)) ?_⟩
      have hlb := World.putObj_heap_same (o := Obj.loop { rec0 .ready none with state := .busy }) hlt
      have hdb : (Wa.putObj (w.heap.size + 1) (.loop { rec0 .ready none with state := .busy })).heap[w.heap.size]? = some (.deferred (some [])) := (World.putObj_heap_other (by omega)).trans hda
      have ends : ∀ (jump : Option Code) (W3 : World), Calm w.heap.size (Wa.putObj (w.heap.size + 1) (.loop { rec0 .ready none with state := .busy })) W3 →
          ∃ o, (Instr.endRound (w.heap.size + 1) jump).run P W3 = .ok (.bool jump.isNone) (W3.putObj (w.heap.size + 1) o) ∧
            (W3.putObj (w.heap.size + 1) o).heap[w.heap.size + 1]? = some (.loop (rec0 (if jump.isNone then .ready else .done) jump)) ∧
            (W3.putObj (w.heap.size + 1) o).heap[w.heap.size]? = some (.deferred (some [])) ∧ Calm W1.heap.size W (W3.putObj (w.heap.size + 1) o) := fun jump W3 hc3 => by
        have hl3 := hc3.keep (by omega) hlb
        exact ⟨_, run_endRound jump hl3, World.putObj_heap_same (lt_of_block hl3), (World.putObj_heap_other (by omega)).trans (hc3.keep (Nat.le_refl _) hdb),
          (((hca.mono (by omega)).trans (Calm.put _ _ _ (by omega))).trans (hc3.mono (by omega))).trans (Calm.put _ _ _ (by omega))⟩
      intro e a3 W3 hp3
      cases e with
      | normal =>
        obtain ⟨hc3, hk3, hi3⟩ := hp3
        obtain ⟨o, hr, hl4, hd4, hc4⟩ := ends none W3 hc3
        exact ⟨_, _, hr, .inl ⟨rfl, ⟨hI _ _ _ hi3, hl4, hd4⟩, hKt (hKt (hKt hka (hKb _ _)) hk3) (hKb _ _)⟩⟩
      | ret =>
        obtain ⟨hc3, hi3⟩ := hp3
        obtain ⟨o, hr, hl4, hd4, hc4⟩ := ends (some .ret) W3 hc3
        exact ⟨_, _, hr, .inr ⟨rfl, ⟨_, hIx _ _ _ _ hi3, hl4, hd4⟩⟩⟩
      | exit id =>
        obtain ⟨hc3, hi3⟩ := hp3
        obtain ⟨o, hr, hl4, hd4, hc4⟩ := ends (some (.exit id)) W3 hc3
        exact ⟨_, _, hr, .inr ⟨rfl, ⟨_, hIx _ _ _ _ hi3, hl4, hd4⟩⟩⟩
      | goto t => exact hp3.elim
      | panic ch => exact hp3.elim
      | outgrown => exact hp3.elim
    | exit id => exact hp.elim
    | goto t => exact hp.elim
    | ret => exact hp.elim
    | panic ch => exact hp.elim
    | outgrown => exact hp.elim
  · rintro e W2 ⟨⟨v, rfl⟩, (⟨hi, hl, hd⟩ | ⟨pre, hSp, c, hi, hl, hd⟩)⟩
    · exact ⟨none, _, run_endLoop hl (fun h => nomatch h), hdone _ (hI _ _ _ hi) ((World.putObj_heap_other (by omega)).trans hd)⟩
    · exact ⟨some c, _, run_endLoop hl (fun h => nomatch h), hstop c pre _ hSp (hIx _ _ _ _ hi) ((World.putObj_heap_other (by omega)).trans hd)⟩
end Go.Proofs.YtfgdichdddknlaaDoor

namespace Go.Proofs.YtfgdichdddknlaaDoor
open Go.RowKit Go.BigFrame Go.Shelf
attribute [local go_sem] Oper.semAt_some

theorem CtsIn.putObj {W : World} {A : Option Addr} {L : List Ct} {r : Nat} (h : CtsIn W A L) (hn : ∀ a, A = some a → r < a.block) (o : Obj) : CtsIn (W.putObj r o) A L := fun h0 => by
  obtain ⟨b, off, e, hc⟩ := h h0
  have hb : r < b := hn _ e
  have hk : ∀ k, (W.putObj r o).cell? ⟨b, k, none⟩ = W.cell? ⟨b, k, none⟩ := fun k => by
    unfold World.cell?
    rw [World.putObj_heap_other (by show b ≠ r; omega)]
  exact ⟨b, off, e, fun j c hj => by rw [hk, hk]; exact hc j c hj⟩
theorem leaves_mark_one {F : Fence} {n : Nat} {P : Program} {fn : Func} {tmps : Array Value} {R : Ending → World → Prop} (D : Nat) (W : World) (hD : W.heap[D]? = some (.deferred (some [])))
    (h : ∀ o, LeavesIn F n P fn tmps R [] .returning (W.putObj D o)) : LeavesInM F n P fn tmps R (List.map coll [D]) .returning W :=
  ⟨by simp, .inl ⟨D, _, rfl, run_takeDeferred hD, h _⟩⟩
/-- What is held while numbers are told. -/
def FoldI (w : World) (r : Nat) (L : List Ct) (W : World) : Prop := ∃ A c, W.heap[w.heap.size]? = some (.cells #[.slice A L.length c] 26 (0, 0)) ∧ CtsIn W A L ∧ (∀ a, A = some a → r < a.block) ∧
  W.heap[w.heap.size + 1]? = some (.cells #[.func (.func 24) #[] #[]] 57 (0, 0)) ∧ W.heap[w.heap.size + 2]? = some (.cells #[.slice none 0 0] 26 (0, 0)) ∧ Below w.heap.size w W
theorem FoldI.putObj {w W : World} {r : Nat} {L : List Ct} (h : FoldI w r L W) (hr : w.heap.size + 2 < r) (o : Obj) : FoldI w r L (W.putObj r o) := by
  obtain ⟨A, c, h1, h2, h3, h4, h5, h6⟩ := h
  exact ⟨A, c, (World.putObj_heap_other (by omega)).trans h1, h2.putObj h3 o, h3, (World.putObj_heap_other (by omega)).trans h4, (World.putObj_heap_other (by omega)).trans h5, h6.trans (below_putObj _ _ _ (by omega))⟩
set_option maxRecDepth 100000 in
set_option maxHeartbeats 2000000 in
theorem tg_folded (l : List Int) (hl : l.length ≤ 60) (A : Option Addr) (c b : Nat) (w : World) (hb : w.heap[b]? = some (.cells #[.slice A l.length c] 22 (0, 0))) (hN : NumsIn w A l) :
    Calls Tryd.prog 22 #[.func (.func 34) #[] #[.pointer (some ⟨b, 0, none⟩)], .agg #[.slice none 0 0], .func (.func 24) #[] #[]] w (WithPost (newT l) w) := by
  have HN := Hd.mk hN
  have HB0 := Hd.mk hb
  have HADD : Hd (∀ (k : Nat) n, l[k]? = some n → ∀ A c w, CtsIn w A (newT (l.take k)) → Calls Tryd.prog 24 #[.agg #[.slice A (newT (l.take k)).length c], .int .i64 n] w (WithPost (newT (l.take (k + 1))) w)) := ⟨fun k n hk A c w h => by
    have hlk := (List.getElem?_eq_some_iff.1 hk).1
    rw [take_snocI hk, newT_snoc]
    have ht := newT_ok (l.take k)
    have hlen : (l.take k).length = k := by rw [List.length_take]; omega
    rw [hlen] at ht
    exact tg_add _ n ⟨ht.1, by have := ht.2.1; omega, fun q hq => ⟨(ht.2.2 q hq).1, by have := (ht.2.2 q hq).2; omega⟩⟩ A c w h⟩
  clear hN hb
  refine (callsIn_wide (n := 6)).1 ?_
  refine callsIn_of_wp_marks Tryd.func22 rfl trivial ?_ rfl
  simp only [Tryd.ntmps22, List.size_toArray, List.length_cons, List.length_nil, Nat.reduceAdd, Nat.reduceSub, Array.replicate_succ, Array.replicate_zero, List.push_toArray, List.append_toArray, List.nil_append, List.cons_append]
  refine (wpIn_wide (n := 6)).2 ?_
  go_upto_region 1 with (fail)
  refine abs_wp (fun W => W.heap[w.heap.size]? = some (.cells #[.slice none 0 0] 26 (0, 0)) ∧ W.heap[w.heap.size + 1]? = some (.cells #[.func (.func 24) #[] #[]] 57 (0, 0)) ∧ W.heap[w.heap.size + 2]? = some (.cells #[.slice none 0 0] 26 (0, 0)) ∧ Below w.heap.size w W) ⟨heap_old (heap_old (heap_new _ _) _) _, heap_old (heap_at (by simp) _) _, heap_at (by simp) _, (((Below.refl _ _).alloc (Nat.le_refl _) _).alloc (by simp) _).alloc (by simp; omega) _⟩ fun W0 ⟨y0, y1, y2, hB⟩ => ?_
  go_wp2
  have hs0 := lt_of_block y2
  have hbl := lt_of_block HB0.out
  have HBW := Hd.mk hB
  refine (wpIn_wide (n := 6)).1 ?_
  refine range_p (by omega) (gf := 34) (lb := #[.pointer (some ⟨b, 0, none⟩)]) rfl (enters_of Tryd.func34 (by kernel_rfl) rfl)
    (values_plain l A c (by omega) _ b w.heap.size W0 hB.size (heap_below hB HB0.out) (fun W' hW' => HN.out.below (hB.trans hW'))) Below.trans (fun W' o => below_putObj W' _ o (by omega)) (fun _ => rfl)
    (fun pre W' => FoldI w (W0.heap.size + 1) (newT (l.take pre.length)) W') (fun _ _ _ => False)
    (fun pre A' o h => h.putObj (by omega) o) (fun _ _ _ _ h => h.elim)
    (fun W' hW' => ⟨none, 0, (hW'.block _ (by omega)).trans y0, fun h0 => absurd h0 (by simp [newT]), (fun a ha => nomatch ha), (hW'.block _ (by omega)).trans y1, (hW'.block _ (by omega)).trans y2, hB.trans (hW'.mono hB.size)⟩) ?round ?done ?stop
  case round =>
    rintro l' pre n Wr hpx hI hsr
    have hplt : pre.length < l.length := by
      have := hpx.length_le
      simp at this
      omega
    have hn : l[pre.length]? = some n := by
      obtain ⟨r, hr⟩ := hpx
      rw [← hr]
      simp
    have HA := Hd.mk (HADD.out pre.length n hn)
    have HI := Hd.mk hI
    clear hpx hn hI
    gi_wp2
    refine ⟨Calm.refl _ _, Below.refl _ _, HI.out, ?_⟩
    rintro o hI2
    have hsz2 : W0.heap.size + 1 < (Wr.putObj (W0.heap.size + 1) o).heap.size := by simp; omega
    generalize Wr.putObj (W0.heap.size + 1) o = Wp at hI2 hsz2 ⊢
    obtain ⟨A1, c1, h1, h2, h3, h4, h5, h6⟩ := hI2
    have k1 := cell_at h1
    have k4 := cell_at h4
    have HP := Hd.mk (And.intro h1 (And.intro h4 (And.intro h5 h6)))
    have H2 := Hd.mk h2
    clear h1 h2 h3 h4 h5 h6
    gi_wp2
    refine ⟨trivial, callsIn_wide.2 ((HA.out _ _ _ H2.out).mono ?_)⟩
    rintro e W3 ⟨A', c', rfl, g2, gfr, hb⟩
    have z1 := heap_below hb HP.out.1
    have z4 := heap_below hb HP.out.2.1
    have z5 := heap_below hb HP.out.2.2.1
    have HB3 := Hd.mk (HP.out.2.2.2.trans (hb.mono HP.out.2.2.2.size))
    have HC := Hd.mk (Calm.of_below (B := W0.heap.size) hb (Nat.le_refl _))
    have HB4 := Hd.mk ((hb.mono HP.out.2.2.2.size).setCell (p := ⟨w.heap.size, 0, none⟩) (by show _ ≤ _; simp) (.slice A' (newT (l.take (pre.length + 1))).length c'))
    have HG := Hd.mk (And.intro g2 gfr)
    have HZ := Hd.mk (And.intro z1 (And.intro z4 z5))
    have cz := cell_at z1
    have fz := frozen_at z1
    clear k1 k4 g2 gfr hb z1 z4 z5
    gi_wp2
    unfold roundEnd
    dsimp only
    obtain ⟨z1, z4, z5⟩ := HZ.out
    have hkey : FoldI w (W0.heap.size + 1) (newT (l.take (pre ++ [n]).length)) (W3.setCell ⟨w.heap.size, 0, none⟩ (.slice A' (newT (l.take (pre.length + 1))).length c')) := by
      rw [List.length_append, List.length_singleton]
      refine ⟨A', c', (heap_set z1 0 _).trans (by simp), ?_, fun a ha => by have := HG.out.2 a ha; omega, heap_set_other z4 (by simp) _, heap_set_other z5 (by simp) _, HB3.out.setCell (by show _ ≤ _; simp) _⟩
      intro h0
      obtain ⟨bb, off, e, hc⟩ := HG.out.1 h0
      have hbb := HG.out.2 _ e
      have hn : ∀ o, (⟨w.heap.size, 0, none⟩ : Addr) ≠ ⟨bb, o, none⟩ := fun o e => by
        injection e with e1 _ _
        simp only at hbb
        omega
      refine ⟨bb, off, e, fun j x hj => ?_⟩
      rw [World.cell?_setCell_other _ _ _ _ (hn _), World.cell?_setCell_other _ _ _ _ (hn _)]
      exact hc j x hj
    exact ⟨HC.out.trans (Calm.setCell _ _ _ (by show w.heap.size < W0.heap.size; omega)), HB4.out, hkey⟩
  case done =>
    rintro Wx ⟨A1, c1, h1, h2, h3, h4, h5, h6⟩ hM
    rw [List.take_length] at h1 h2
    unfold Exit.inBlock Exit.then
    dsimp only
    have cn := cell_at h1
    have cr := cell_at h5
    have fr := frozen_at h5
    have HQ := Hd.mk (And.intro h2 (And.intro h3 (And.intro h5 (And.intro h6 hM))))
    clear h1 h2 h3 h4 h5 h6 hM
    go_wp2
    change LeavesInM Fence.wide 6 Tryd.prog _ _ _ (List.map coll [W0.heap.size]) .returning _
    refine leaves_mark_one W0.heap.size _ (heap_set_other HQ.out.2.2.2.2 (by show _ ≠ _; simp; omega) _) fun o => ?_
    have h5 := HQ.out.2.2.1
    have k2 := cell_at ((World.putObj_heap_other (o := o) (r := W0.heap.size) (by omega)).trans ((heap_set h5 0 (.slice A1 (newT l).length c1)).trans (by rfl)))
    refine ⟨.agg #[.slice A1 (newT l).length c1], ?_, A1, c1, rfl, ?_, ?_, ?_⟩
    · simp [results, Tryd.f22, go_sem, k2]
    · refine CtsIn.putObj ?_ (fun a ha => by have := HQ.out.2.1 a ha; omega) o
      intro h0
      obtain ⟨bb, off, e, hc⟩ := HQ.out.1 h0
      have hbb := HQ.out.2.1 _ e
      have hn : ∀ o, (⟨w.heap.size + 1 + 1, 0, none⟩ : Addr) ≠ ⟨bb, o, none⟩ := fun o e => by
        injection e with e1 _ _
        simp only at hbb
        omega
      refine ⟨bb, off, e, fun j x hj => ?_⟩
      rw [World.cell?_setCell_other _ _ _ _ (hn _), World.cell?_setCell_other _ _ _ _ (hn _)]
      exact hc j x hj
    · intro a ha
      have := HQ.out.2.1 a ha
      have := HBW.out.size
      omega
    · exact (HQ.out.2.2.2.1.setCell (by show _ ≤ _; simp; omega) _).trans (below_putObj _ _ _ HBW.out.size)
  case stop =>
    rintro co pre Wx hsp h hM
    exact h.elim
end Go.Proofs.YtfgdichdddknlaaDoor

namespace Go.Proofs.YtfgdichdddknlaaDoor
open Go.RowKit Go.BigFrame Go.Shelf

theorem heap_drawn {W : World} {b : Nat} {o : Obj} (h : W.heap[b]? = some o) : W.drew.heap[b]? = some o := h
theorem tgc_idle (p q : Addr) (w : World) :
    CallsD Tryd.prog 17 #[.pointer (some p), .pointer (some q)] .returning w fun e u' w' => e = .returned (.tuple #[]) ∧ u' = .returning ∧ w' = w := by
  refine callsD_of_wpS Tryd.func17 rfl fun c₀ cs hu => ?_
  apply wpS_seq
  apply wpS_region
  simp [wpOpsS, go_sem, recoverD, hu, Tryd.ntmps17, Exit.thenS]
  refine wpS_of_wp ?_
  go_wp2
  cases c₀
  simp_all [bodyPostS, results, Tryd.results17]
/-- The deferred closure where something was given up with. -/
theorem tgc_full (ob eb : Nat) (s : Value) (x n : Int) (older : List PanicEntry) (w : World) (hne : ob ≠ eb) (ho : w.heap[ob]? = some (.cells #[s] 26 (0, 0))) (he : w.heap[eb]? = some (.cells #[.int .i64 x] 27 (0, 0))) :
    CallsD Tryd.prog 17 #[.pointer (some ⟨ob, 0, none⟩), .pointer (some ⟨eb, 0, none⟩)] (.panicking ({ v := .iface 27 (.int .i64 n), recovered := false } :: older)) w fun e u' w' =>
      e = .returned (.tuple #[]) ∧ u' = .panicking ({ v := .iface 27 (.int .i64 n), recovered := true } :: older) ∧
      w'.heap[ob]? = some (.cells #[.slice none 0 0] 26 (0, 0)) ∧ w'.heap[eb]? = some (.cells #[.int .i64 n] 27 (0, 0)) ∧ ∀ m, m ≤ ob → m ≤ eb → Below m w w' := by
  refine callsD_of_wpS Tryd.func17 rfl fun c₀ cs hu => ?_
  apply wpS_seq
  apply wpS_region
  simp [wpOpsS, go_sem, recoverD, hu, Tryd.ntmps17, Exit.thenS]
  refine wpS_of_wp ?_
  generalize HM : ({ v := .iface 27 (.int .i64 n), recovered := true } : PanicEntry) = pe
  have HA := fun v w => assert_errno v w
  have c1 := cell_at ho
  have f1 := frozen_at ho
  have c2 := cell_at he
  have f2 := frozen_at he
  simp only [Array.replicate_succ, Array.replicate_zero, List.push_toArray, List.append_toArray, List.nil_append, List.cons_append, List.setIfInBounds_toArray, List.set_cons_zero, List.set_cons_succ]
  go_wp2
  refine region_abs_t (fun a0 a' w' => ∃ vv : Nat → Value, (w'.heap[ob]? = some (.cells #[.slice none 0 0] 26 (0, 0)) ∧ w'.heap[eb]? = some (.cells #[.int .i64 n] 27 (0, 0)) ∧ ∀ m, m ≤ ob → m ≤ eb → Below m w w') ∧ (a' = Act.put (Act.put (Act.put (Act.put (Act.put (Act.put (Act.put a0 (some 8) (vv 8)) (some 9) (vv 9)) (some 10) (vv 10)) (some 11) (vv 11)) (some 12) (vv 12)) (some 13) (vv 13)) (some 14) (vv 14))) (fun KR hKR => ?_) ?_
  · go_region
    refine ⟨rfl, hKR _ _ (ex_put_t ⟨⟨?_, ?_, fun m h1 h2 => ?_⟩, by kernel_rfl⟩)⟩
    · exact heap_drawn (heap_set_other ((heap_set ho 0 _).trans (by rfl)) hne _)
    · exact heap_drawn ((heap_set (heap_set_other he hne.symm _) 0 _).trans (by rfl))
    · exact Below.drew (by focus (repeat (first | (with_reducible exact Below.refl _ _) | (with_reducible assumption) | ((with_reducible refine Below.setCell ?_ ?_ _); rotate_left; (focus (first | omega | (simp; done) | (simp; omega)))) | ((with_reducible refine Below.alloc ?_ ?_ _); rotate_left; (focus (first | omega | (simp; done) | (simp; omega)))) | (with_reducible refine Below.drew ?_) | (refine below_on ?_ (by assumption)))))
  rintro a' w9 ⟨vv, ⟨y0, y1, y2⟩, rfl⟩
  simp only [Act.put, List.setIfInBounds_toArray, List.set_cons_succ, List.set_cons_zero]
  go_wp2
  cases c₀
  simp_all [bodyPostS, results, Tryd.results17]
noncomputable instance (l : List Int) : Decidable (∀ x ∈ l, rightB x = true) := Classical.propDecidable _
/-- What New tells: the tags, and the error. -/
noncomputable def newV (l : List Int) : List Ct := if ∀ x ∈ l, rightB x = true then newT l else []
noncomputable def newE (l : List Int) : Int := if ∀ x ∈ l, rightB x = true then 0 else 2
def NewPost (V : List Ct) (E : Int) (w : World) (e : Ending) (w' : World) : Prop := ∃ A c, e = .returned (.tuple #[.agg #[.slice A V.length c], .int .i64 E]) ∧ CtsIn w' A V ∧ Below w.heap.size w w'
set_option maxRecDepth 100000 in
set_option maxHeartbeats 2000000 in
theorem tg_new (l : List Int) (hl : l.length ≤ 60) (A : Option Addr) (c : Nat) (w : World) (hN : NumsIn w A l) :
    Calls Tryd.prog 5 #[.slice A l.length c] w (NewPost (newV l) (newE l) w) := by
  have hmf : ∀ (fn : Fn) (first cap : Array Value) (w : World), (Instr.makeFunc fn first cap).run Tryd.prog w = .ok (.func fn first cap) w := fun _ _ _ _ => rfl
  have HN := Hd.mk hN
  have HV := Hd.mk (fun w => values_any A l.length c w)
  have HFO := Hd.mk (fun b w hb hN => tg_folded l hl A c b w hb hN)
  by_cases hr : ∀ x ∈ l, rightB x = true
  · have HC := Hd.mk (fun w hN => tg_contains l (by omega) A c w hN false (by simp; exact hr))
    have e1 : newV l = newT l := by unfold newV; rw [if_pos hr]
    have e2 : newE l = 0 := by unfold newE; rw [if_pos hr]
    rw [e1, e2]
    unfold NewPost
    unfold WithPost at HFO
    clear hN hr e1 e2 hl
    generalize newT l = V at HFO ⊢
    go_enter_defers Tryd.func5, Tryd.ntmps5
    go_upto_region 2 with (fail)
    refine abs_wp (fun W => W.heap[w.heap.size]? = some (.cells #[.slice none 0 0] 26 (0, 0)) ∧ W.heap[w.heap.size + 1]? = some (.cells #[.int .i64 0] 27 (0, 0)) ∧ Below w.heap.size w W) ⟨heap_old (heap_new _ _) _, heap_at (by simp) _, ((Below.refl _ _).alloc (Nat.le_refl _) _).alloc (by simp) _⟩ fun W0 ⟨y0, y1, hB⟩ => ?_
    go_wp2_with fail
    refine (HC.out _ (HN.out.below hB)).mono ?_
    rintro e w1 ⟨rfl, hb⟩
    have z0 := heap_below hb y0
    have z1 := heap_below hb y1
    have hB1 := below_on hB hb
    clear hb y0 y1 hB HC
    go_wp2_with (go_at_call 18; refine (tg_must _ _).mono ?_; rintro e w4 ⟨rfl, rfl⟩)
    refine (HV.out _).mono ?_
    rintro e w2 ⟨b, rfl, hbb, hbs, hb⟩
    have x0 := heap_below hb z0
    have x1 := heap_below hb z1
    have hB2 := below_on hB1 hb
    clear hb z0 z1 hB1 HV
    go_wp2_with fail
    refine (HFO.out b _ hbb (HN.out.below hB2)).mono ?_
    rintro e w3 ⟨A', c', rfl, hin, hfr, hb⟩
    have z0 := heap_below hb x0
    have z1 := heap_below hb x1
    have hB3 := below_on hB2 hb
    have hs3 := lt_of_block x1
    have HI := Hd.mk (And.intro hin hfr)
    clear hb x0 x1 hB2 HFO hbb hbs hin hfr
    have c0 := cell_at z0
    have f0 := frozen_at z0
    have k0 := heap_set z0 0 (.slice A' V.length c')
    have k1 := heap_set_other z1 (p := ⟨w.heap.size, 0, none⟩) (by simp) (.slice A' V.length c')
    have c1 := cell_at k1
    have f1 := frozen_at k1
    have l0 := heap_set_other k0 (p := ⟨w.heap.size + 1, 0, none⟩) (by simp) (.int .i64 0)
    have l1 := heap_set k1 0 (.int .i64 0)
    go_wp2
    have hBx : Below w.heap.size w ((w3.setCell ⟨w.heap.size, 0, none⟩ (.slice A' V.length c')).setCell ⟨w.heap.size + 1, 0, none⟩ (.int .i64 0)) := (hB3.setCell (by show _ ≤ _; simp) _).setCell (by show _ ≤ _; simp) _
    have hin : CtsIn ((w3.setCell ⟨w.heap.size, 0, none⟩ (.slice A' V.length c')).setCell ⟨w.heap.size + 1, 0, none⟩ (.int .i64 0)) A' V := fun h0 => by
      obtain ⟨bb, off, e, hc⟩ := HI.out.1 h0
      have hbb := HI.out.2 _ e
      simp only at hbb
      have hn : ∀ o, (⟨w.heap.size, 0, none⟩ : Addr) ≠ ⟨bb, o, none⟩ := fun o e => by injection e with e1 _ _; omega
      have hn1 : ∀ o, (⟨w.heap.size + 1, 0, none⟩ : Addr) ≠ ⟨bb, o, none⟩ := fun o e => by injection e with e1 _ _; omega
      refine ⟨bb, off, e, fun j x hj => ?_⟩
      rw [World.cell?_setCell_other _ _ _ _ (hn1 _), World.cell?_setCell_other _ _ _ _ (hn _), World.cell?_setCell_other _ _ _ _ (hn1 _), World.cell?_setCell_other _ _ _ _ (hn _)]
      exact hc j x hj
    refine leaves_cons (f := 17) (args := #[.pointer (some ⟨w.heap.size, 0, none⟩), .pointer (some ⟨w.heap.size + 1, 0, none⟩)]) (by simp) (by simp [go_sem]) ?_
    refine (tgc_idle _ _ _).mono ?_
    rintro e u' w9 ⟨rfl, rfl, rfl⟩
    refine abs_leaves (fun W => W.heap[w.heap.size]? = some (.cells #[.slice A' V.length c'] 26 (0, 0)) ∧ W.heap[w.heap.size + 1]? = some (.cells #[.int .i64 0] 27 (0, 0)) ∧ CtsIn W A' V ∧ Below w.heap.size w W) ⟨l0, l1, hin, hBx⟩ fun W ⟨y1, y2, h3, hB⟩ => ?_
    have c1 := cell_at y1
    have c2 := cell_at y2
    simp [Leaves, settle, results, Tryd.results5, go_sem, c1, c2]
    exact ⟨h3, hB⟩
  · have HC := Hd.mk (fun w hN => tg_contains l (by omega) A c w hN true (by simp; simpa using hr))
    have e1 : newV l = [] := by unfold newV; rw [if_neg hr]
    have e2 : newE l = 2 := by unfold newE; rw [if_neg hr]
    rw [e1, e2]
    unfold NewPost
    clear hN hr e1 e2 hl HFO HV
    go_enter_defers Tryd.func5, Tryd.ntmps5
    go_upto_region 2 with (fail)
    refine abs_wp (fun W => W.heap[w.heap.size]? = some (.cells #[.slice none 0 0] 26 (0, 0)) ∧ W.heap[w.heap.size + 1]? = some (.cells #[.int .i64 0] 27 (0, 0)) ∧ Below w.heap.size w W) ⟨heap_old (heap_new _ _) _, heap_at (by simp) _, ((Below.refl _ _).alloc (Nat.le_refl _) _).alloc (by simp) _⟩ fun W0 ⟨y0, y1, hB⟩ => ?_
    go_wp2_with fail
    refine (HC.out _ (HN.out.below hB)).mono ?_
    rintro e w1 ⟨rfl, hb⟩
    have z0 := heap_below hb y0
    have z1 := heap_below hb y1
    have HB1 := Hd.mk (below_on hB hb)
    clear hb y0 y1 hB HC
    go_wp2_with (go_at_call 18; refine (tg_must_no _ _).mono ?_; rintro e w4 ⟨rfl, h4⟩; cases h4)
    refine leaves_cons (f := 17) (args := #[.pointer (some ⟨w.heap.size, 0, none⟩), .pointer (some ⟨w.heap.size + 1, 0, none⟩)]) (by simp) (by simp [go_sem]) ?_
    refine (tgc_full w.heap.size (w.heap.size + 1) _ _ 2 _ _ (by omega) z0 z1).mono ?_
    rintro e u' w9 ⟨rfl, rfl, y1, y2, hy⟩
    refine abs_leaves (fun W => W.heap[w.heap.size]? = some (.cells #[.slice none 0 0] 26 (0, 0)) ∧ W.heap[w.heap.size + 1]? = some (.cells #[.int .i64 2] 27 (0, 0)) ∧ Below w.heap.size w W) ⟨y1, y2, HB1.out.trans (hy _ (Nat.le_refl _) (by omega))⟩ fun W ⟨y1, y2, hB⟩ => ?_
    have c1 := cell_at y1
    have c2 := cell_at y2
    simp [Leaves, settle, results, Tryd.results5, go_sem, c1, c2]
    exact ⟨fun h0 => absurd h0 (Nat.lt_irrefl 0), hB⟩
end Go.Proofs.YtfgdichdddknlaaDoor

namespace Go.Proofs.YtfgdichdddknlaaDoor
open Go.RowKit Go.BigFrame Go.Shelf
attribute [-go_sem] Builtin.append_

theorem count_snoc {R : List Int} {i : Nat} {x : Int} (h : R[i]? = some x) (n : Int) : (R.take (i + 1)).count n = (R.take i).count n + (if x = n then 1 else 0) := by
  rw [take_snocI h, List.count_append]
  by_cases e : x = n
  · simp [e]
  · simp [e]
set_option maxRecDepth 100000 in
set_option maxHeartbeats 1000000 in
theorem rt_many (R : List Int) (n : Int) (hl : R.length ≤ 1000) (A : Option Addr) (c : Nat) (w : World) (hN : NumsIn w A R) :
    Calls Tryd.prog 38 #[.agg #[.slice A R.length c], .int .i64 n] w fun e w' => e = .returned (.int .i64 (R.count n : Nat)) ∧ Below w.heap.size w w' := by
  have HN := Hd.mk hN
  clear hN
  go_enter Tryd.func38, Tryd.ntmps38
  go_upto_region 1 with (fail)
  refine abs_wp (fun W => W.heap[w.heap.size]? = some (.cells #[.slice A R.length c] 31 (0, 0)) ∧ Below w.heap.size w W) ⟨heap_new _ _, (Below.refl _ _).alloc (Nat.le_refl _) _⟩ fun W ⟨y0, hB⟩ => ?_
  have c0 := cell_at y0
  have HA := Hd.mk (HN.out.below hB)
  go_wp2
  go_loopw [5, 6] (fun kv iv wr => ∃ i : Nat, iv = .int .i64 i ∧ i ≤ R.length ∧ kv = .int .i64 ((R.take i).count n : Nat) ∧ wr = W) (fun _ iv _ => R.length - (intOf iv).toNat)
  case atStart => exact ⟨0, rfl, Nat.zero_le _, rfl, rfl⟩
  case round =>
    obtain ⟨i, rfl, hi, rfl, rfl⟩ := hrel
    have hcl : (R.take i).count n ≤ i := Nat.le_trans List.count_le_length (by rw [List.length_take]; omega)
    by_cases hlt : i < R.length
    · have hd1 : decide ((i : Int) < (R.length : Int)) = true := by simp; omega
      have hd2 : decide (i < R.length) = true := by simp; omega
      obtain ⟨x, hx⟩ : ∃ x, R[i]? = some x := ⟨_, List.getElem?_eq_getElem hlt⟩
      obtain ⟨b, off, rfl, hcc⟩ := HA.out (by omega)
      have q1 := hcc i x hx
      have HC := Hd.mk (count_snoc hx n)
      generalize (R.take i).count n = K at hcl HC ⊢
      clear hcc hx
      by_cases e : x = n
      · subst e
        have hd3 : (x == x) = true := by simp
        go_wp2
        go_roundw
        case rel => exact ⟨i + 1, by go_num, by omega, by rw [HC.out, if_pos rfl]; go_num, by first | rfl | trivial⟩
        case measure => simp [intOf]; omega
      · have hd3 : (x == n) = false := by simpa using e
        go_wp2
        go_roundw
        case rel => exact ⟨i + 1, by go_num, by omega, by rw [HC.out, if_neg e, Nat.add_zero], by first | rfl | trivial⟩
        case measure => simp [intOf]; omega
    · obtain rfl : i = R.length := by omega
      have hd1 : decide (((R.length : Nat) : Int) < (R.length : Int)) = false := by simp
      rw [List.take_length]
      go_wp2
      go_ret
      exact ⟨rfl, hB⟩
def numsC (l : List Int) : List Value := l.map (Value.int .i64)
theorem own_nums {W : World} {base : Nat} {v : Value} {l : List Int} (h : W.ownsRow base 2 1 v l.length (numsC l)) : ∃ A c, v = .slice A l.length c ∧ NumsIn W A l ∧ ∀ a, A = some a → base ≤ a.block := by
  rcases h.2 with ⟨rfl, h0⟩ | ⟨g, cap, cur, rfl, hb, hg, hc, hm, hs, ht⟩
  · exact ⟨none, 0, by rw [h0], fun h => by omega, fun a ha => nomatch ha⟩
  · refine ⟨_, cap, rfl, fun _ => ⟨g, 0, rfl, fun j x hj => ?_⟩, fun a ha => by obtain rfl := Option.some.inj ha; exact hb⟩
    have hjl : j < l.length := (List.getElem?_eq_some_iff.1 hj).1
    have h1 : (numsC l)[j]? = some (.int .i64 x) := by unfold numsC; rw [List.getElem?_map, hj]; rfl
    rw [← ht, List.getElem?_take, if_pos (by omega)] at h1
    rw [Nat.zero_add, cell_at hg]
    simpa using h1
theorem infoI64 : (Tryd.prog.info? 2).map (fun i => (i.zero, i.size, i.bytes)) = some (some (.int .i64 0), 1, 8) := by kernel_rfl
theorem kinds_len (R : List Int) : (kinds R).length ≤ R.length := by
  have h : ∀ (R : List Int) (p : Option Int), (kin p R).length ≤ R.length := by
    intro R
    induction R with
    | nil => intro p; simp [kin]
    | cons a r ih =>
      intro p
      unfold kin
      split
      · have := ih (some a); simp; omega
      · have := ih (some a); simp; omega
  exact h R none
theorem kinds_snoc {R : List Int} {i : Nat} {x : Int} (h : R[i]? = some x) : kinds (R.take (i + 1)) = kinds (R.take i) ++ (if 0 < i ∧ R[i - 1]? = some x then [] else [x]) := by
  rw [take_snocI h]
  unfold kinds
  rw [kin_snoc]
  congr 1
  have hl := (List.getElem?_eq_some_iff.1 h).1
  by_cases hi : 0 < i
  · have e : (R.take i).getLast?.or none = R[i - 1]? := by
      rw [List.getLast?_eq_getElem?, List.length_take, Nat.min_eq_left (by omega), List.getElem?_take, if_pos (by omega)]
      simp
    rw [e]
    simp [hi]
  · obtain rfl : i = 0 := by omega
    simp
set_option maxRecDepth 100000 in
set_option maxHeartbeats 1000000 in
theorem rt_kinds (R : List Int) (hl : R.length ≤ 1000) (A : Option Addr) (c : Nat) (w : World) (hN : NumsIn w A R) :
    Calls Tryd.prog 7 #[.agg #[.slice A R.length c]] w fun e w' => ∃ A' c', e = .returned (.slice A' (kinds R).length c') ∧ NumsIn w' A' (kinds R) ∧ Below w.heap.size w w' := by
  have HN := Hd.mk hN
  clear hN
  go_enter Tryd.func7, Tryd.ntmps7
  go_upto_region 1 with (fail)
  refine abs_wp (fun W => W.heap[w.heap.size]? = some (.cells #[.slice A R.length c] 31 (0, 0)) ∧ Below w.heap.size w W) ⟨heap_new _ _, (Below.refl _ _).alloc (Nat.le_refl _) _⟩ fun W ⟨y0, hB⟩ => ?_
  have HA := Hd.mk (HN.out.below hB)
  have hs0 := lt_of_block y0
  go_wp2
  go_loopw [3, 4] (fun v iv wr => ∃ i : Nat, iv = .int .i64 i ∧ i ≤ R.length ∧ Hd (wr.ownsRow W.heap.size 2 1 v (kinds (R.take i)).length (numsC (kinds (R.take i)))) ∧ Below W.heap.size W wr) (fun _ iv _ => R.length - (intOf iv).toNat)
  case atStart => exact ⟨0, rfl, Nat.zero_le _, ⟨⟨rfl, .inl ⟨rfl, rfl⟩⟩⟩, Below.refl _ _⟩
  case round =>
    obtain ⟨i, rfl, hi, HO, hB2⟩ := hrel
    have x0 := heap_below hB2 y0
    have c0 := cell_at x0
    by_cases hlt : i < R.length
    · have hd1 : decide ((i : Int) < (R.length : Int)) = true := by simp; omega
      have hd2 : decide (i < R.length) = true := by simp; omega
      obtain ⟨x, hx⟩ : ∃ x, R[i]? = some x := ⟨_, List.getElem?_eq_getElem hlt⟩
      obtain ⟨b, off, rfl, hcc⟩ := HA.out.below hB2 (by omega)
      have q1 := hcc i x hx
      have HKS := Hd.mk (kinds_snoc hx)
      have hkl : (kinds (R.take i)).length ≤ 1000 := Nat.le_trans (kinds_len _) (by rw [List.length_take]; omega)
      by_cases h0 : 0 < i
      · obtain ⟨y, hy⟩ : ∃ y, R[i - 1]? = some y := ⟨_, List.getElem?_eq_getElem (by omega)⟩
        have q2 := hcc (i - 1) y hy
        have hne : ((i : Int) == 0) = false := by simp; omega
        have hsub : (i : Int) - 1 = ((i - 1 : Nat) : Int) := by omega
        have hd3 : decide (((i - 1 : Nat) : Int) < (R.length : Int)) = true := by simp; omega
        have hd4 : decide (i - 1 < R.length) = true := by simp; omega
        by_cases hxy : x = y
        · subst hxy
          have hd5 : (x == x) = true := by simp
          have HK2 : Hd (kinds (R.take (i + 1)) = kinds (R.take i)) := ⟨by rw [HKS.out, if_pos ⟨h0, hy⟩, List.append_nil]⟩
          clear hcc hx hy HKS
          go_wp2
          go_region
          all_goals
            go_wp2
            go_roundw
          case rel => exact ⟨i + 1, by go_num, by omega, by rw [HK2.out]; exact ⟨own_below HO.out (Below.drew (Below.refl _ _))⟩, hB2.drew⟩
          case measure => simp [intOf]; omega
        · have hd5 : (x == y) = false := by simpa using hxy
          have HK2 : Hd (kinds (R.take (i + 1)) = kinds (R.take i) ++ [x]) := ⟨by rw [HKS.out, if_neg (fun h => hxy (by have := h.2; rw [hy] at this; exact (Option.some.inj this).symm))]⟩
          have HOD := Hd.mk (own_below HO.out (Below.drew (Below.refl _ _)))
          have hB3 := hB2.drew
          clear hcc hx hy HKS HO hB2
          go_wp2
          go_region
          obtain ⟨i0, hi0, hz0, hz1, hz2⟩ := info_parts infoI64
          have hu : Tryd.prog.underlying 22 = some (.slice 2) := by kernel_rfl
          have hkn : (numsC (kinds (R.take (i + 1)))) = numsC (kinds (R.take i)) ++ [.int .i64 x] := by rw [HK2.out]; unfold numsC; simp
          have hkn2 : (kinds (R.take (i + 1))).length = (kinds (R.take i)).length + 1 := by rw [HK2.out]; simp
          have HKN := Hd.mk (And.intro hkn hkn2)
          clear hkn hkn2 HK2
          generalize numsC (kinds (R.take i)) = cs at HOD HKN
          generalize (kinds (R.take i)).length = m at HOD HKN hkl
          go_wp2_with (at_builtin; refine wpList_append_own_at _ rfl (.tmp 28) (.tmp 34) 22 rfl W.heap.size 2 i0 (.int .i64 0) 1 8 hu hi0 hz0 hz1 hz2 rfl (by decide) _ m cs rfl (HOD.out.alloc _) ⟨wr.drew.heap.size, 0, none⟩ 1 1 [.int .i64 x] rfl rfl (cell_one_new _ _ _) ?c2 ?b1 ?b2 ?b3 ?go)
          case c2 => intro u hu; simp at hu; subst hu; rfl
          case b1 => unfold maxLen; omega
          case b2 => omega
          case b3 => have := hB3.size; simp at this ⊢; omega
          case go =>
            intro v' w6 hown' hgrow _ hat
            have hr : ∀ k, u3.ownBlock = some k → W.heap.size ≤ k := fun k hk => own_ge HOD.out hk
            have hb6 : Below W.heap.size W w6 := (hB3.alloc hB3.size _).trans (below_grown hgrow (fun k hk => hr k hk) (by have := hB3.size; simp at this ⊢; omega))
            have HO6 := Hd.mk hown'
            clear hown' hgrow hat hr hi0 hz0 hz1 hz2 hu HOD
            go_wp2
            go_roundw
            case rel => exact ⟨i + 1, by go_num, by omega, by rw [HKN.out.1, HKN.out.2]; exact HO6, hb6⟩
            case measure => simp [intOf]; omega
      · have hz : i = 0 := by omega
        have hd5 : ((i : Int) == 0) = true := by simp; exact hz
        have HK2 : Hd (kinds (R.take (i + 1)) = kinds (R.take i) ++ [x]) := ⟨by rw [HKS.out, if_neg (fun h => h0 h.1)]⟩
        have HOD := Hd.mk (own_below HO.out (Below.drew (Below.refl _ _)))
        have hB3 := hB2.drew
        clear hcc hx HKS HO hB2 hz h0
        go_wp2
        go_region
        obtain ⟨i0, hi0, hz0, hz1, hz2⟩ := info_parts infoI64
        have hu : Tryd.prog.underlying 22 = some (.slice 2) := by kernel_rfl
        have hkn : (numsC (kinds (R.take (i + 1)))) = numsC (kinds (R.take i)) ++ [.int .i64 x] := by rw [HK2.out]; unfold numsC; simp
        have hkn2 : (kinds (R.take (i + 1))).length = (kinds (R.take i)).length + 1 := by rw [HK2.out]; simp
        have HKN := Hd.mk (And.intro hkn hkn2)
        clear hkn hkn2 HK2
        generalize numsC (kinds (R.take i)) = cs at HOD HKN
        generalize (kinds (R.take i)).length = m at HOD HKN hkl
        go_wp2_with (at_builtin; refine wpList_append_own_at _ rfl (.tmp 28) (.tmp 34) 22 rfl W.heap.size 2 i0 (.int .i64 0) 1 8 hu hi0 hz0 hz1 hz2 rfl (by decide) _ m cs rfl (HOD.out.alloc _) ⟨wr.drew.heap.size, 0, none⟩ 1 1 [.int .i64 x] rfl rfl (cell_one_new _ _ _) ?c2 ?b1 ?b2 ?b3 ?go)
        case c2 => intro u hu; simp at hu; subst hu; rfl
        case b1 => unfold maxLen; omega
        case b2 => omega
        case b3 => have := hB3.size; simp at this ⊢; omega
        case go =>
          intro v' w6 hown' hgrow _ hat
          have hr : ∀ k, u3.ownBlock = some k → W.heap.size ≤ k := fun k hk => own_ge HOD.out hk
          have hb6 : Below W.heap.size W w6 := (hB3.alloc hB3.size _).trans (below_grown hgrow (fun k hk => hr k hk) (by have := hB3.size; simp at this ⊢; omega))
          have HO6 := Hd.mk hown'
          clear hown' hgrow hat hr hi0 hz0 hz1 hz2 hu HOD
          go_wp2
          go_roundw
          case rel => exact ⟨i + 1, by go_num, by omega, by rw [HKN.out.1, HKN.out.2]; exact HO6, hb6⟩
          case measure => simp [intOf]; omega
    · obtain rfl : i = R.length := by omega
      have hd1 : decide (((R.length : Nat) : Int) < (R.length : Int)) = false := by simp
      rw [List.take_length] at HO
      obtain ⟨A', c', rfl, h1, _⟩ := own_nums HO.out
      have HF := Hd.mk (And.intro h1 (hB.trans (hB2.mono hB.size)))
      clear h1
      go_wp2
      go_ret
      exact ⟨A', c', rfl, HF.out.1, HF.out.2⟩
end Go.Proofs.YtfgdichdddknlaaDoor

namespace Go.Proofs.YtfgdichdddknlaaDoor
open Go.RowKit Go.BigFrame Go.Shelf
attribute [-go_sem] Builtin.append_

theorem ins_last : ∀ {l : List Int} {n : Int}, (∀ x ∈ l, ¬ n < x) → insR l n = l ++ [n]
  | [], _, _ => rfl
  | a :: r, n, h => by
    have h1 : ¬ n < a := h a (by simp)
    have h2 := ins_last (l := r) (n := n) fun x hx => h x (by simp [hx])
    simp [insR, h1, h2]
theorem ins_first : ∀ {l : List Int} {n y : Int}, (∀ x ∈ l, ¬ n < x) → n < y → insR (l ++ [y]) n = l ++ [n] ++ [y]
  | [], n, y, _, hy => by simp [insR, hy]
  | a :: r, n, y, h, hy => by
    have h1 : ¬ n < a := h a (by simp)
    have h2 := ins_first (l := r) (n := n) (y := y) (fun x hx => h x (by simp [hx])) hy
    rw [List.cons_append, insR, if_neg h1, h2]
    simp
theorem ins_more : ∀ {l : List Int} {n y : Int}, (¬ ∀ x ∈ l, ¬ n < x) → insR (l ++ [y]) n = insR l n ++ [y]
  | [], _, _, h => absurd (by simp) h
  | a :: r, n, y, h => by
    by_cases h1 : n < a
    · simp [insR, h1]
    · have h2 := ins_more (l := r) (n := n) (y := y) (fun h3 => h (fun x hx => by
        rcases List.mem_cons.1 hx with rfl | hx
        · exact h1
        · exact h3 x hx))
      rw [List.cons_append, insR, if_neg h1, h2, insR, if_neg h1]
      simp
theorem ins_length : ∀ (l : List Int) (n : Int), (insR l n).length = l.length + 1
  | [], _ => rfl
  | a :: r, n => by
    unfold insR
    split
    · simp
    · simp [ins_length r n]
theorem numsC_snoc (l : List Int) (x : Int) : numsC (l ++ [x]) = numsC l ++ [.int .i64 x] := by unfold numsC; simp
theorem numsC_len (l : List Int) : (numsC l).length = l.length := by unfold numsC; simp
def MorePost (V : List Int) (w : World) (e : Ending) (w' : World) : Prop := ∃ A c, e = .returned (.tuple #[.agg #[.slice A V.length c], .int .i64 0]) ∧ NumsIn w' A V ∧ (∀ a, A = some a → w.heap.size ≤ a.block) ∧ Below w.heap.size w w'
/-- What is put so far. -/
def PutI (R : List Int) (n : Int) (i : Nat) (p : Bool) (out : List Int) : Prop := (p = false ∧ (∀ x ∈ R.take i, ¬ n < x) ∧ out = R.take i) ∨ (p = true ∧ (¬ ∀ x ∈ R.take i, ¬ n < x) ∧ out = insR (R.take i) n)
theorem PutI.len {R : List Int} {n : Int} {i : Nat} {p : Bool} {out : List Int} (h : PutI R n i p out) : out.length ≤ R.length + 1 := by
  rcases h with ⟨_, _, rfl⟩ | ⟨_, _, rfl⟩
  · rw [List.length_take]; omega
  · rw [ins_length, List.length_take]; omega
theorem PutI.next {R : List Int} {n x : Int} {i : Nat} {p : Bool} {out : List Int} (h : PutI R n i p out) (hx : R[i]? = some x) (hq : p = true ∨ ¬ n < x) : PutI R n (i + 1) p (out ++ [x]) := by
  unfold PutI
  rw [take_snocI hx]
  rcases h with ⟨rfl, h1, rfl⟩ | ⟨rfl, h1, rfl⟩
  · have h2 : ¬ n < x := by simpa using hq
    refine .inl ⟨rfl, fun y hy => ?_, rfl⟩
    rcases List.mem_append.1 hy with hy | hy
    · exact h1 y hy
    · simp at hy; subst hy; exact h2
  · exact .inr ⟨rfl, fun h => h1 fun y hy => h y (List.mem_append_left _ hy), (ins_more h1).symm⟩
theorem PutI.turn {R : List Int} {n x : Int} {i : Nat} {out : List Int} (h : PutI R n i false out) (hx : R[i]? = some x) (hq : n < x) : PutI R n (i + 1) true (out ++ [n] ++ [x]) := by
  unfold PutI
  rw [take_snocI hx]
  rcases h with ⟨_, h1, rfl⟩ | ⟨h, _⟩
  · exact .inr ⟨rfl, fun h => h x (by simp) hq, (ins_first h1 hq).symm⟩
  · cases h
theorem PutI.done {R : List Int} {n : Int} {p : Bool} {out : List Int} (h : PutI R n R.length p out) : (p = false → out ++ [n] = insR R n) ∧ (p = true → out = insR R n) := by
  unfold PutI at h
  rw [List.take_length] at h
  rcases h with ⟨rfl, h1, rfl⟩ | ⟨rfl, h1, rfl⟩
  · exact ⟨fun _ => (ins_last h1).symm, fun h => nomatch h⟩
  · exact ⟨fun h => (nomatch h), fun _ => rfl⟩
set_option maxRecDepth 100000 in
set_option maxHeartbeats 1000000 in
theorem rt_more (R : List Int) (n : Int) (hn : rightB n = true) (hl : R.length ≤ 60) (A : Option Addr) (c : Nat) (w : World) (hN : NumsIn w A R) :
    Calls Tryd.prog 26 #[.agg #[.slice A R.length c], .int .i64 n] w (MorePost (insR R n) w) := by
  have HN := Hd.mk hN
  have HM := Hd.mk (fun w hN => rt_many R n (by omega) A c w hN)
  have HK := Hd.mk (fun w hN => rt_kinds R (by omega) A c w hN)
  have hkl := kinds_len R
  have hcl : R.count n ≤ 60 := Nat.le_trans List.count_le_length hl
  have hn1 : 1 ≤ n ∧ n ≤ 2147483647 := by unfold rightB at hn; simpa using hn
  have hd1 : decide (n < 1) = false := by simp; omega
  have hd2 : decide (2147483647 < n) = false := by simp; omega
  unfold MorePost
  generalize R.count n = K at HM hcl
  clear hN hn
  go_enter Tryd.func26, Tryd.ntmps26
  go_upto_region 1 with (fail)
  refine abs_wp (fun W => W.heap[w.heap.size]? = some (.cells #[.slice A R.length c] 31 (0, 0)) ∧ W.heap[w.heap.size + 1]? = some (.cells #[.slice none 0 0] 31 (0, 0)) ∧ Below w.heap.size w W) ⟨heap_old (heap_new _ _) _, heap_at (by simp) _, ((Below.refl _ _).alloc (Nat.le_refl _) _).alloc (by simp) _⟩ fun W0 ⟨y0, y1, hB⟩ => ?_
  have c0 := cell_at y0
  go_wp2_with fail
  refine (HM.out _ (HN.out.below hB)).mono ?_
  rintro e w1 ⟨rfl, hb⟩
  have z0 := heap_below hb y0
  have z1 := heap_below hb y1
  have hB1 := below_on hB hb
  clear hb y0 y1 hB c0 HM
  have c0 := cell_at z0
  have hd3 : decide ((255 : Int) ≤ (K : Int)) = false := by simp; omega
  have hd4 : decide ((64 : Int) ≤ ((kinds R).length : Int)) = false := by simp; omega
  have HF1 := Hd.mk (And.intro z0 (And.intro z1 hB1))
  go_upto_region 4 with (fail)
  refine region_abs_t (fun a0 a' w' => ∃ vv : Nat → Value, (w'.heap[w.heap.size]? = some (.cells #[.slice A R.length c] 31 (0, 0)) ∧ w'.heap[w.heap.size + 1]? = some (.cells #[.slice none 0 0] 31 (0, 0)) ∧ Below w.heap.size w w') ∧ (a' = Act.put (Act.put (Act.put (Act.put (Act.put (Act.put (Act.put (Act.put (Act.put (Act.put (Act.put (Act.put a0 (some 20) (vv 20)) (some 21) (vv 21)) (some 22) (vv 22)) (some 23) (vv 23)) (some 24) (vv 24)) (some 25) (vv 25)) (some 26) (vv 26)) (some 27) (vv 27)) (some 28) (vv 28)) (some 29) (vv 29)) (some 30) (vv 30)) (some 31) (.bool false))) (fun KR hKR => ?_) ?_
  · by_cases hk0 : K = 0
    · have hd5 : ((K : Int) == 0) = true := by simp; exact hk0
      clear hk0
      go_wp2_with fail
      refine (HK.out _ (HN.out.below hB1)).mono ?_
      rintro e w2 ⟨A', c', rfl, _, hb⟩
      have x0 := heap_below hb z0
      have x1 := heap_below hb z1
      have hB2 := below_on hB1 hb
      clear hb
      go_wp2
      exact ex_put_t ⟨⟨x0, x1, hB2⟩, by kernel_rfl⟩
    · have hd5 : ((K : Int) == 0) = false := by simp; exact hk0
      clear hk0
      go_wp2
      exact ex_put_t ⟨HF1.out, by kernel_rfl⟩
  clear HF1 z0 z1 hB1 c0
  rintro a' W ⟨vv, ⟨z0, z1, hB⟩, rfl⟩
  simp only [Act.put, List.setIfInBounds_toArray, List.set_cons_succ, List.set_cons_zero]
  have hs1 := lt_of_block z1
  have HA := Hd.mk (HN.out.below hB)
  go_wp2
  go_loopw [7, 8, 9] (fun v pv iv wr => ∃ (i : Nat) (p : Bool) (out : List Int), iv = .int .i64 i ∧ i ≤ R.length ∧ pv = .bool p ∧ Hd (PutI R n i p out) ∧ Hd (wr.ownsRow W.heap.size 2 1 v out.length (numsC out)) ∧ Below W.heap.size W wr) (fun _ _ iv _ => R.length - (intOf iv).toNat)
  case atStart => exact ⟨0, false, [], rfl, Nat.zero_le _, rfl, ⟨.inl ⟨rfl, by simp, rfl⟩⟩, ⟨⟨rfl, .inl ⟨rfl, rfl⟩⟩⟩, Below.refl _ _⟩
  case round =>
    obtain ⟨i, p, out, rfl, hi, rfl, HP, HO, hB2⟩ := hrel
    have x0 := heap_below hB2 z0
    have c0 := cell_at x0
    have hol := HP.out.len
    by_cases hlt : i < R.length
    · have hd7 : decide ((i : Int) < (R.length : Int)) = true := by simp; omega
      have hd8 : decide (i < R.length) = true := by simp; omega
      obtain ⟨x, hx⟩ : ∃ x, R[i]? = some x := ⟨_, List.getElem?_eq_getElem hlt⟩
      obtain ⟨b, off, rfl, hcc⟩ := HA.out.below hB2 (by omega)
      have q1 := hcc i x hx
      have HX := Hd.mk hx
      clear hcc hx
      cases p with
      | true =>
        have HN2 := Hd.mk (HP.out.next HX.out (.inl rfl))
        obtain ⟨i0, hi0, hz0, hz1, hz2⟩ := info_parts infoI64
        have hu : Tryd.prog.underlying 22 = some (.slice 2) := by kernel_rfl
        go_wp2_with (at_builtin; refine wpList_append_own_at _ rfl (.tmp 55) (.tmp 61) 22 rfl W.heap.size 2 i0 (.int .i64 0) 1 8 hu hi0 hz0 hz1 hz2 rfl (by decide) _ (out).length (numsC out) rfl (HO.out.alloc _) ⟨wr.heap.size, 0, none⟩ 1 1 [.int .i64 x] rfl rfl (cell_one_new _ _ _) ?c3 ?d1 ?d2 ?d3 ?hgo)
        case c3 => intro u hu; simp at hu; subst hu; rfl
        case d1 => unfold maxLen; omega
        case d2 => omega
        case d3 => have := hB2.size; simp; omega
        case hgo =>
          intro v9 w9 hown' hgrow _ hat
          have hr : ∀ k, (u7).ownBlock = some k → W.heap.size ≤ k := fun k hk => own_ge HO.out hk
          have hb9 : Below W.heap.size W w9 := (hB2.alloc hB2.size _).trans (below_grown hgrow (fun k hk => hr k hk) (by have := hB2.size; simp; omega))
          have e9 : (out).length + 1 = (out ++ [x]).length := by simp
          rw [← numsC_snoc, e9] at hown'
          have HO9 := Hd.mk hown'
          clear hown' hgrow hat hr hi0 hz0 hz1 hz2 hu q1 e9
          go_wp2
          go_roundw
          case rel => exact ⟨i + 1, _, _, by go_num, by omega, rfl, HN2, HO9, hb9⟩
          case measure => simp [intOf]; omega
      | false =>
        by_cases hnx : n < x
        · have hd9 : decide (n < x) = true := decide_eq_true hnx
          have HN2 := Hd.mk (HP.out.turn HX.out hnx)
          clear hnx
          obtain ⟨i0, hi0, hz0, hz1, hz2⟩ := info_parts infoI64
          have hu : Tryd.prog.underlying 22 = some (.slice 2) := by kernel_rfl
          go_wp2_with (at_builtin; refine wpList_append_own_at _ rfl (.tmp 51) (.tmp 53) 22 rfl W.heap.size 2 i0 (.int .i64 0) 1 8 hu hi0 hz0 hz1 hz2 rfl (by decide) _ out.length (numsC out) rfl (HO.out.alloc _) ⟨wr.heap.size, 0, none⟩ 1 1 [.int .i64 n] rfl rfl (cell_one_new _ _ _) ?c2 ?b1 ?b2 ?b3 ?go)
          case c2 => intro u hu; simp at hu; subst hu; rfl
          case b1 => unfold maxLen; omega
          case b2 => omega
          case b3 => have := hB2.size; simp; omega
          case go =>
            intro v' w6 hown' hgrow _ hat
            have hr : ∀ k, u7.ownBlock = some k → W.heap.size ≤ k := fun k hk => own_ge HO.out hk
            have hb6 : Below W.heap.size W w6 := (hB2.alloc hB2.size _).trans (below_grown hgrow (fun k hk => hr k hk) (by have := hB2.size; simp; omega))
            have e9 : out.length + 1 = (out ++ [n]).length := by simp
            rw [← numsC_snoc, e9] at hown'
            have HO6 := Hd.mk hown'
            have x0 := heap_below hb6 z0
            have c0 := cell_at x0
            obtain ⟨b', off', e', hcc⟩ := HA.out.below hb6 (by omega)
            obtain ⟨rfl, rfl⟩ : b = b' ∧ off = off' := by injection e' with e'; injection e' with e1 e2 _; exact ⟨e1, e2⟩
            have q1 := hcc i x HX.out
            have hol2 : (out ++ [n]).length ≤ R.length + 2 := by simp; omega
            clear hown' hgrow hat hr HO hB2 hcc e' e9
            generalize out ++ [n] = out2 at HO6 HN2 hol2
            go_wp2_with (at_builtin; refine wpList_append_own_at _ rfl (.tmp 55) (.tmp 61) 22 rfl W.heap.size 2 i0 (.int .i64 0) 1 8 hu hi0 hz0 hz1 hz2 rfl (by decide) _ (out2).length (numsC out2) rfl (HO6.out.alloc _) ⟨w6.heap.size, 0, none⟩ 1 1 [.int .i64 x] rfl rfl (cell_one_new _ _ _) ?c3 ?d1 ?d2 ?d3 ?hgo)
            case c3 => intro u hu; simp at hu; subst hu; rfl
            case d1 => unfold maxLen; omega
            case d2 => omega
            case d3 => have := hb6.size; simp; omega
            case hgo =>
              intro v9 w9 hown' hgrow _ hat
              have hr : ∀ k, (v').ownBlock = some k → W.heap.size ≤ k := fun k hk => own_ge HO6.out hk
              have hb9 : Below W.heap.size W w9 := (hb6.alloc hb6.size _).trans (below_grown hgrow (fun k hk => hr k hk) (by have := hb6.size; simp; omega))
              have e9 : (out2).length + 1 = (out2 ++ [x]).length := by simp
              rw [← numsC_snoc, e9] at hown'
              have HO9 := Hd.mk hown'
              clear hown' hgrow hat hr hi0 hz0 hz1 hz2 hu q1 e9
              go_wp2
              go_roundw
              case rel => exact ⟨i + 1, _, _, by go_num, by omega, rfl, HN2, HO9, hb9⟩
              case measure => simp [intOf]; omega
        · have hd9 : decide (n < x) = false := decide_eq_false hnx
          have HN2 := Hd.mk (HP.out.next HX.out (.inr hnx))
          clear hnx
          obtain ⟨i0, hi0, hz0, hz1, hz2⟩ := info_parts infoI64
          have hu : Tryd.prog.underlying 22 = some (.slice 2) := by kernel_rfl
          go_wp2_with (at_builtin; refine wpList_append_own_at _ rfl (.tmp 55) (.tmp 61) 22 rfl W.heap.size 2 i0 (.int .i64 0) 1 8 hu hi0 hz0 hz1 hz2 rfl (by decide) _ (out).length (numsC out) rfl (HO.out.alloc _) ⟨wr.heap.size, 0, none⟩ 1 1 [.int .i64 x] rfl rfl (cell_one_new _ _ _) ?c3 ?d1 ?d2 ?d3 ?hgo)
          case c3 => intro u hu; simp at hu; subst hu; rfl
          case d1 => unfold maxLen; omega
          case d2 => omega
          case d3 => have := hB2.size; simp; omega
          case hgo =>
            intro v9 w9 hown' hgrow _ hat
            have hr : ∀ k, (u7).ownBlock = some k → W.heap.size ≤ k := fun k hk => own_ge HO.out hk
            have hb9 : Below W.heap.size W w9 := (hB2.alloc hB2.size _).trans (below_grown hgrow (fun k hk => hr k hk) (by have := hB2.size; simp; omega))
            have e9 : (out).length + 1 = (out ++ [x]).length := by simp
            rw [← numsC_snoc, e9] at hown'
            have HO9 := Hd.mk hown'
            clear hown' hgrow hat hr hi0 hz0 hz1 hz2 hu q1 e9
            go_wp2
            go_roundw
            case rel => exact ⟨i + 1, _, _, by go_num, by omega, rfl, HN2, HO9, hb9⟩
            case measure => simp [intOf]; omega
    · obtain rfl : i = R.length := by omega
      have hd7 : decide (((R.length : Nat) : Int) < (R.length : Int)) = false := by simp
      have HD := Hd.mk HP.out.done
      cases p with
      | true =>
        have e9 := HD.out.2 rfl
        rw [e9] at HO
        obtain ⟨A', c', rfl, h1, h2⟩ := own_nums HO.out
        have HI := Hd.mk (And.intro h1 h2)
        have HB := Hd.mk (hB.trans (hB2.mono hB.size))
        have x1 := heap_below hB2 z1
        have c1 := cell_at x1
        have f1 := frozen_at x1
        have k1 := heap_set x1 0 (.slice A' (insR R n).length c')
        have k2 := cell_at k1
        have hsW := hB.size
        clear h1 h2 HO
        go_wp2
        refine bodyPost_ret (by simp [results, Tryd.results26, go_sem, k2] <;> rfl) rfl ?_
        first | refine ⟨A', ⟨c', rfl⟩, ?_, fun a ha => Nat.le_trans hsW (HI.out.2 a ha), HB.out.setCell (by show _ ≤ _; simp) _⟩ | refine ⟨A', c', rfl, ?_, fun a ha => Nat.le_trans hsW (HI.out.2 a ha), HB.out.setCell (by show _ ≤ _; simp) _⟩
        intro h0
        obtain ⟨bb, off, e, hc⟩ := HI.out.1 h0
        have hbb := HI.out.2 _ e
        simp only at hbb
        have hn : ∀ o, (⟨w.heap.size + 1, 0, none⟩ : Addr) ≠ ⟨bb, o, none⟩ := fun o e => by injection e with e1 _ _; omega
        refine ⟨bb, off, e, fun j x hj => ?_⟩
        rw [World.cell?_setCell_other _ _ _ _ (hn _)]
        exact hc j x hj
      | false =>
        have e9 := HD.out.1 rfl
        obtain ⟨i0, hi0, hz0, hz1, hz2⟩ := info_parts infoI64
        have hu : Tryd.prog.underlying 22 = some (.slice 2) := by kernel_rfl
        go_wp2_with (at_builtin; refine wpList_append_own_at _ rfl (.tmp 65) (.tmp 67) 22 rfl W.heap.size 2 i0 (.int .i64 0) 1 8 hu hi0 hz0 hz1 hz2 rfl (by decide) _ out.length (numsC out) rfl (HO.out.alloc _) ⟨wr.heap.size, 0, none⟩ 1 1 [.int .i64 n] rfl rfl (cell_one_new _ _ _) ?c2 ?b1 ?b2 ?b3 ?go)
        case c2 => first | rfl | (intro u hu; simp at hu; subst hu; rfl)
        case b1 => unfold maxLen; omega
        case b2 => omega
        case b3 => have := hB2.size; simp; omega
        case go =>
          intro v' w6 hown' hgrow _ hat
          have hr : ∀ k, u7.ownBlock = some k → W.heap.size ≤ k := fun k hk => own_ge HO.out hk
          have hb6 : Below W.heap.size W w6 := (hB2.alloc hB2.size _).trans (below_grown hgrow (fun k hk => hr k hk) (by have := hB2.size; simp; omega))
          have e10 : out.length + 1 = (out ++ [n]).length := by simp
          rw [← numsC_snoc, e10, e9] at hown'
          have HO := Hd.mk hown'
          clear hown' hgrow hat hr hi0 hz0 hz1 hz2 hu
          obtain ⟨A', c', rfl, h1, h2⟩ := own_nums HO.out
          have HI := Hd.mk (And.intro h1 h2)
          have HB := Hd.mk (hB.trans (hb6.mono hB.size))
          have x1 := heap_below hb6 z1
          have c1 := cell_at x1
          have f1 := frozen_at x1
          have k1 := heap_set x1 0 (.slice A' (insR R n).length c')
          have k2 := cell_at k1
          have hsW := hB.size
          clear h1 h2 HO
          go_wp2
          refine bodyPost_ret (by simp [results, Tryd.results26, go_sem, k2] <;> rfl) rfl ?_
          first | refine ⟨A', ⟨c', rfl⟩, ?_, fun a ha => Nat.le_trans hsW (HI.out.2 a ha), HB.out.setCell (by show _ ≤ _; simp) _⟩ | refine ⟨A', c', rfl, ?_, fun a ha => Nat.le_trans hsW (HI.out.2 a ha), HB.out.setCell (by show _ ≤ _; simp) _⟩
          intro h0
          obtain ⟨bb, off, e, hc⟩ := HI.out.1 h0
          have hbb := HI.out.2 _ e
          simp only at hbb
          have hn : ∀ o, (⟨w.heap.size + 1, 0, none⟩ : Addr) ≠ ⟨bb, o, none⟩ := fun o e => by injection e with e1 _ _; omega
          refine ⟨bb, off, e, fun j x hj => ?_⟩
          rw [World.cell?_setCell_other _ _ _ _ (hn _)]
          exact hc j x hj
end Go.Proofs.YtfgdichdddknlaaDoor

namespace Go.Proofs.YtfgdichdddknlaaDoor
open Go.RowKit Go.BigFrame Go.Shelf

theorem NumsIn.setCell {W : World} {A : Option Addr} {L : List Int} (h : NumsIn W A L) {b : Nat} (hn : ∀ a, A = some a → b < a.block) (v : Value) : NumsIn (W.setCell ⟨b, 0, none⟩ v) A L := fun h0 => by
  obtain ⟨bb, off, e, hc⟩ := h h0
  have hbb := hn _ e
  simp only at hbb
  have hn : ∀ o, (⟨b, 0, none⟩ : Addr) ≠ ⟨bb, o, none⟩ := fun o e => by injection e with e1 _ _; omega
  refine ⟨bb, off, e, fun j x hj => ?_⟩
  rw [World.cell?_setCell_other _ _ _ _ (hn _)]
  exact hc j x hj
/-- What the reference's New tells. -/
noncomputable def refV (l : List Int) : List Int := if ∀ x ∈ l, rightB x = true then newR l else []
def RNewPost (V : List Int) (E : Int) (w : World) (e : Ending) (w' : World) : Prop := ∃ A c, e = .returned (.tuple #[.agg #[.slice A V.length c], .int .i64 E]) ∧ NumsIn w' A V ∧ Below w.heap.size w w'
theorem newR_length (l : List Int) : (newR l).length = l.length := by
  have h : ∀ k, k ≤ l.length → (newR (l.take k)).length = k := by
    intro k
    induction k with
    | zero => exact fun _ => rfl
    | succ k ih =>
      intro hk
      obtain ⟨x, hx⟩ : ∃ x, l[k]? = some x := ⟨_, List.getElem?_eq_getElem (by omega)⟩
      rw [take_snocI hx, newR_snoc, ins_length, ih (by omega)]
  have := h l.length (Nat.le_refl _)
  rwa [List.take_length] at this
set_option maxRecDepth 100000 in
set_option maxHeartbeats 1000000 in
theorem rt_new (l : List Int) (hl : l.length ≤ 60) (A : Option Addr) (c : Nat) (w : World) (hN : NumsIn w A l) :
    Calls Tryd.prog 6 #[.slice A l.length c] w (RNewPost (refV l) (newE l) w) := by
  have HN := Hd.mk hN
  unfold RNewPost
  clear hN
  go_enter Tryd.func6, Tryd.ntmps6
  go_upto_region 1 with (fail)
  refine abs_wp (fun W => W.heap[w.heap.size]? = some (.cells #[.slice none 0 0] 31 (0, 0)) ∧ Below w.heap.size w W) ⟨heap_new _ _, (Below.refl _ _).alloc (Nat.le_refl _) _⟩ fun W ⟨y0, hB⟩ => ?_
  have c0 := cell_at y0
  have f0 := frozen_at y0
  have hs0 := lt_of_block y0
  have HA := Hd.mk (HN.out.below hB)
  go_wp2
  go_loopw [4] (fun iv wr => ∃ i : Nat, iv = .int .i64 i ∧ i ≤ l.length ∧ Hd (∀ x ∈ l.take i, rightB x = true) ∧ wr = W) (fun iv _ => l.length - (intOf iv).toNat)
  case atStart => exact ⟨0, rfl, Nat.zero_le _, ⟨by simp⟩, rfl⟩
  case round =>
    obtain ⟨i, rfl, hi, HK, hw⟩ := hrel
    have hw2 := hw.symm
    clear hw
    subst hw2
    by_cases hlt : i < l.length
    · have hd1 : decide ((i : Int) < (l.length : Int)) = true := by simp; omega
      have hd2 : decide (i < l.length) = true := by simp; omega
      obtain ⟨x, hx⟩ : ∃ x, l[i]? = some x := ⟨_, List.getElem?_eq_getElem hlt⟩
      obtain ⟨b, off, rfl, hcc⟩ := HA.out (by omega)
      have q1 := hcc i x hx
      have HX := Hd.mk hx
      clear hcc hx
      by_cases h1 : x < 1
      · have hd3 : decide (x < 1) = true := decide_eq_true h1
        have HNO : Hd (¬ ∀ x ∈ l, rightB x = true) := ⟨fun h => by have := h x (List.mem_of_getElem? HX.out); unfold rightB at this; simp at this; omega⟩
        clear h1
        have k1 := heap_set y0 0 (.slice none 0 0)
        have k2 := cell_at k1
        have e1 : refV l = [] := by unfold refV; rw [if_neg HNO.out]
        have e2 : newE l = 2 := by unfold newE; rw [if_neg HNO.out]
        go_wp2
        refine bodyPost_ret (by simp [results, Tryd.results6, go_sem, k2] <;> rfl) rfl ?_
        rw [e1, e2]
        have hin : NumsIn (W.setCell ⟨w.heap.size, 0, none⟩ (.slice none 0 0)) none [] := fun h0 => absurd h0 (Nat.lt_irrefl 0)
        have hbe : Below w.heap.size w (W.setCell ⟨w.heap.size, 0, none⟩ (.slice none 0 0)) := hB.setCell (by show _ ≤ _; simp) _
        first | exact ⟨none, ⟨0, rfl⟩, hin, hbe⟩ | exact ⟨none, 0, rfl, hin, hbe⟩
      · have hd3 : decide (x < 1) = false := decide_eq_false h1
        by_cases h2 : 2147483647 < x
        · have hd4 : decide (2147483647 < x) = true := decide_eq_true h2
          have HNO : Hd (¬ ∀ x ∈ l, rightB x = true) := ⟨fun h => by have := h x (List.mem_of_getElem? HX.out); unfold rightB at this; simp at this; omega⟩
          clear h1 h2
          have k1 := heap_set y0 0 (.slice none 0 0)
          have k2 := cell_at k1
          have e1 : refV l = [] := by unfold refV; rw [if_neg HNO.out]
          have e2 : newE l = 2 := by unfold newE; rw [if_neg HNO.out]
          go_wp2
          refine bodyPost_ret (by simp [results, Tryd.results6, go_sem, k2] <;> rfl) rfl ?_
          rw [e1, e2]
          have hin : NumsIn (W.setCell ⟨w.heap.size, 0, none⟩ (.slice none 0 0)) none [] := fun h0 => absurd h0 (Nat.lt_irrefl 0)
          have hbe : Below w.heap.size w (W.setCell ⟨w.heap.size, 0, none⟩ (.slice none 0 0)) := hB.setCell (by show _ ≤ _; simp) _
          first | exact ⟨none, ⟨0, rfl⟩, hin, hbe⟩ | exact ⟨none, 0, rfl, hin, hbe⟩
        · have hd4 : decide (2147483647 < x) = false := decide_eq_false h2
          have HK2 : Hd (∀ y ∈ l.take (i + 1), rightB y = true) := ⟨fun y hy => by
            rw [take_snocI HX.out] at hy
            rcases List.mem_append.1 hy with h | h
            · exact HK.out y h
            · simp at h; subst h; unfold rightB; simp; omega⟩
          clear h1 h2
          go_wp2
          go_roundw
          case rel => exact ⟨i + 1, by go_num, by omega, HK2, by first | rfl | trivial⟩
          case measure => simp [intOf]; omega
    · obtain rfl : i = l.length := by omega
      have hd1 : decide (((l.length : Nat) : Int) < (l.length : Int)) = false := by simp
      have HG : Hd (∀ x ∈ l, rightB x = true) := ⟨by have := HK.out; rwa [List.take_length] at this⟩
      have e1 : refV l = newR l := by unfold refV; rw [if_pos HG.out]
      have e2 : newE l = 0 := by unfold newE; rw [if_pos HG.out]
      have HL := Hd.mk (newR_length l)
      have HE := Hd.mk (And.intro e1 e2)
      clear HK e1 e2 hlt hi
      go_upto_region 7 with (fail)
      refine abs_wp (fun W1 => W1.heap[w.heap.size]? = some (.cells #[.slice none 0 0] 31 (0, 0)) ∧ W1.heap[W.heap.size]? = some (.cells #[.slice none 0 0] 31 (0, 0)) ∧ Below W.heap.size W W1) ⟨heap_old y0 _, heap_new _ _, (Below.refl _ _).alloc (Nat.le_refl _) _⟩ fun W1 ⟨z0, z1, hB1⟩ => ?_
      clear c0 f0
      have hs1 := lt_of_block z1
      go_wp2
      go_loopw [6] (fun iv wr => ∃ (i : Nat) (A' : Option Addr) (c' : Nat), iv = .int .i64 i ∧ i ≤ l.length ∧ wr.heap[W.heap.size]? = some (.cells #[.slice A' (newR (l.take i)).length c'] 31 (0, 0)) ∧ Hd (NumsIn wr A' (newR (l.take i))) ∧ Hd (∀ a, A' = some a → W.heap.size < a.block) ∧ Below W.heap.size W wr ∧ wr.heap[w.heap.size]? = some (.cells #[.slice none 0 0] 31 (0, 0))) (fun iv _ => l.length - (intOf iv).toNat)
      case atStart => exact ⟨0, none, 0, rfl, Nat.zero_le _, z1, ⟨fun h0 => absurd h0 (by simp [newR])⟩, ⟨fun a ha => nomatch ha⟩, hB1, z0⟩
      case round =>
        obtain ⟨i, A', c', rfl, hi, x1, HI, HF, hB2, x0⟩ := hrel
        clear z0 z1 hB1
        by_cases hlt : i < l.length
        · have hd2 : decide ((i : Int) < (l.length : Int)) = true := by simp; omega
          have hd3 : decide (i < l.length) = true := by simp; omega
          obtain ⟨x, hx⟩ : ∃ x, l[i]? = some x := ⟨_, List.getElem?_eq_getElem hlt⟩
          have HXR : Hd (rightB x = true) := ⟨HG.out x (List.mem_of_getElem? hx)⟩
          have HTK : Hd (newR (l.take (i + 1)) = insR (newR (l.take i)) x) := ⟨by rw [take_snocI hx, newR_snoc]⟩
          have hlr : (newR (l.take i)).length ≤ 60 := by rw [newR_length, List.length_take]; omega
          obtain ⟨b, off, rfl, hcc⟩ := HA.out.below hB2 (by omega)
          have q1 := hcc i x hx
          have c1 := cell_at x1
          have HX1 := Hd.mk x1
          have HX0 := Hd.mk x0
          have hsr := lt_of_block x1
          have hbl : b < wr.heap.size := World.block_lt_of_cell? wr ⟨b, off + i, none⟩ q1
          clear hcc hx
          have HM := Hd.mk (fun w h => rt_more (newR (l.take i)) x HXR.out hlr A' c' w h)
          rw [← HTK.out] at HM
          unfold MorePost at HM
          clear HXR HTK
          obtain ⟨V2, HV2⟩ : ∃ V2, Hd (newR (l.take (i + 1)) = V2) := ⟨_, ⟨rfl⟩⟩
          rw [HV2.out] at HM
          generalize newR (l.take i) = V1 at HM HI c1 HX1 x1 hlr
          have HID := Hd.mk (HI.out.below (((Below.refl _ wr).alloc (Nat.le_refl _) (.cells #[.slice none 0 0] 31 (0, 0))).drew))
          have HIE := Hd.mk (HI.out.below ((Below.refl _ wr).drew))
          go_upto_region 10 with (fail)
          refine region_abs_t (fun a0 a' w' => ∃ (nb : Nat) (A2 : Option Addr) (c2 : Nat) (vv : Nat → Value), (w'.heap[nb]? = some (.cells #[.slice A2 V2.length c2] 31 (0, 0)) ∧ NumsIn w' A2 V2 ∧ (∀ a, A2 = some a → W.heap.size < a.block) ∧ Below wr.heap.size wr w') ∧ a' = Act.put (Act.put (Act.put (Act.put (Act.put (Act.put (Act.put (Act.put (Act.put (Act.put (Act.put (a0) (some 34) (vv 34)) (some 35) (vv 35)) (some 36) (vv 36)) (some 37) (vv 37)) (some 38) (vv 38)) (some 39) (vv 39)) (some 40) (vv 40)) (some 41) (vv 41)) (some 42) (vv 42)) (some 7) (.pointer (some ⟨nb, 0, none⟩))) (some 8) (.int .i64 0)) (fun KR hKR => ?_) ?_
          · refine wp_region_noPanic ?_
            go_region_with (first | (refine (HM.out _ HIE.out).mono ?_; rintro e w2 ⟨A2, c2, rfl, h2, hf2, hb2⟩) | (refine (HM.out _ HID.out).mono ?_; rintro e w2 ⟨A2, c2, rfl, h2, hf2, hb2⟩; have xq := heap_below hb2 (heap_drawn (heap_new wr (.cells #[.slice none 0 0] 31 (0, 0)))); have cq := cell_at xq; have fq := frozen_at xq))
            all_goals first
              | exact ⟨rfl, hKR _ _ ⟨w2.heap.size, A2, c2, ex_put_t ⟨⟨heap_new _ _, NumsIn.below h2 ((Below.refl _ w2).alloc (Nat.le_refl _) _), fun a ha => by have := hf2 a ha; simp at this; omega, (((Below.refl _ wr).drew).trans (hb2.mono (by simp))).alloc (by have := hb2.size; simpa using this) _⟩, by kernel_rfl⟩⟩⟩
              | exact ⟨rfl, hKR _ _ ⟨wr.heap.size, A2, c2, ex_put_t ⟨⟨(heap_set xq 0 _).trans (by rfl), NumsIn.setCell h2 (fun a ha => by have := hf2 a ha; simp at this; omega) _, fun a ha => by have := hf2 a ha; simp at this; omega, ((((Below.refl _ wr).alloc (Nat.le_refl _) _).drew).trans (hb2.mono (by simp))).setCell (by show _ ≤ _; simp) _⟩, by kernel_rfl⟩⟩⟩
          rintro a' W2 ⟨nb, A2, c2, vv, ⟨g1, g2, g3, g4⟩, rfl⟩
          simp only [Act.put, List.setIfInBounds_toArray, List.set_cons_succ, List.set_cons_zero]
          have z0 := heap_below g4 HX0.out
          have z1 := heap_below g4 HX1.out
          have hB3 := below_on hB2 g4
          have HG2 := Hd.mk (And.intro g2 g3)
          clear x0 x1 hB2 c1 HI HF HX0 HX1 HM HID g2 g3 g4
          have c1 := cell_at z1
          have f1 := frozen_at z1
          have c3 := cell_at g1
          have k1 := heap_set z1 0 (.slice A2 V2.length c2)
          go_wp2
          go_roundw
          case rel => exact ⟨i + 1, A2, c2, by go_num, by omega, by rw [HV2.out]; exact (heap_set z1 0 _).trans (by simp), by rw [HV2.out]; exact ⟨HG2.out.1.setCell HG2.out.2 _⟩, ⟨HG2.out.2⟩, hB3.setCell (by show _ ≤ _; simp) _, heap_set_other z0 (by simp; omega) _⟩
          case measure => simp [intOf]; omega
        · obtain rfl : i = l.length := by omega
          have hd2 : decide (((l.length : Nat) : Int) < (l.length : Int)) = false := by simp
          rw [List.take_length] at x1 HI
          have c1 := cell_at x1
          have c0 := cell_at x0
          have f0 := frozen_at x0
          have k1 := heap_set x0 0 (.slice A' (newR l).length c')
          have k2 := cell_at k1
          have hb0 := hB.size
          go_wp2
          refine bodyPost_ret (by simp [results, Tryd.results6, go_sem, k2] <;> rfl) rfl ?_
          rw [HE.out.1, HE.out.2]
          have hin : NumsIn (wr.setCell ⟨w.heap.size, 0, none⟩ (.slice A' (newR l).length c')) A' (newR l) := HI.out.setCell (fun a ha => by have := HF.out a ha; omega) _
          have hbe : Below w.heap.size w (wr.setCell ⟨w.heap.size, 0, none⟩ (.slice A' (newR l).length c')) := (hB.trans (hB2.mono hB.size)).setCell (by show _ ≤ _; simp) _
          first | exact ⟨A', ⟨c', rfl⟩, hin, hbe⟩ | exact ⟨A', c', rfl, hin, hbe⟩
end Go.Proofs.YtfgdichdddknlaaDoor

namespace Go.Proofs.YtfgdichdddknlaaDoor
open Go.RowKit Go.BigFrame Go.Shelf
attribute [local go_sem] Oper.semAt_some

/-- A contract of an iterator that yields the elements of L, one by one; it lays blocks, and does nothing else. -/
def SeqA {α : Type} (n : Nat) (P : Program) (g : Nat) (lb : Array Value) (encs : α → Array Value) (Kp : World → World → Prop) (L : List α) (w : World) : Prop :=
  ∀ (l : Nat) (J Jx : List α → World → Prop) (W : World), Below w.heap.size w W →
    (∀ pre W1 o, J pre W1 → J pre (W1.alloc o)) →
    (∀ pre x W1, pre ++ [x] <+: L → J pre W1 → YieldAt Fence.wide (n - 1) P l (encs x) W1 fun e W' =>
      (e = .returned (.bool true) ∧ J (pre ++ [x]) W' ∧ Kp W1 W') ∨ (e = .returned (.bool false) ∧ Jx (pre ++ [x]) W')) →
    J [] W →
    CallsIn Fence.wide n P g (#[.func (.yield l) #[] #[]] ++ lb) W fun e W' => (∃ v, e = .returned v) ∧ (J L W' ∨ (∃ pre, pre <+: L ∧ Jx pre W'))
theorem wpIn_scope_aw {n : Nat} {P : Program} {Q : Exit → Act → World → Prop} {a : Act} {w : World} {c : Code} (h : c.wpIn Fence.wide n P (Exit.noGoto Q) a w) : (Code.scope c).wpIn Fence.wide n P Q a w :=
  (wpIn_wide (n := n)).2 (wp_scope_straight ((wpIn_wide (n := n)).1 h))
def encC (c : Ct) : Array Value := #[.int .i64 c.1, .int .i64 c.2]
set_option maxRecDepth 100000 in
set_option maxHeartbeats 4000000 in
theorem all_seq (L : List Ct) (A : Option Addr) (c : Nat) (hlen : L.length ≤ 1000) (n b n₀ : Nat) (w : World) (hn : n₀ ≤ w.heap.size)
    (hb : w.heap[b]? = some (.cells #[.slice A L.length c] 26 (0, 0))) (hcl : ∀ W, Below n₀ w W → CtsIn W A L) :
    SeqA n Tryd.prog 27 #[.pointer (some ⟨b, 0, none⟩)] encC (Below n₀) L w := by
  intro lp J Jx W hW hJa hY h0
  have hb1 := (hW.block _ (lt_of_block hb)).trans hb
  refine callsIn_of_wp Tryd.func27 rfl trivial ?_ rfl
  simp only [Tryd.ntmps27, List.size_toArray, List.length_cons, List.length_nil, Nat.reduceAdd, Nat.reduceSub, Array.replicate_succ, Array.replicate_zero, List.push_toArray, List.append_toArray, List.nil_append, List.cons_append]
  have H0 := Hd.mk (And.intro hJa hY)
  clear hY hJa
  have hc := cell_at hb1
  gi_wp2
  refine wpIn_scope_aw ?_
  gi_wp2
  refine wpIn_label ?_
  gi_wp2
  gi_loopw [8] (fun i wr => ∃ k : Nat, k ≤ L.length ∧ i = .int .i64 k ∧ J (L.take k) wr ∧ W.heap.size ≤ wr.heap.size ∧ Below n₀ W wr) (fun i _ => L.length - (intOf i).toNat)
  case atStart => exact ⟨0, Nat.zero_le _, rfl, h0, Nat.le_refl _, Below.refl _ _⟩
  case round =>
    clear hc hb1 h0
    obtain ⟨k, hk, rfl, hJk, hsz, hB⟩ := hrel
    by_cases hlt : k < L.length
    · have hd1 : decide ((k : Int) < (L.length : Int)) = true := by simp; omega
      have hd2 : decide (k < L.length) = true := by simp; omega
      obtain ⟨bb, off, rfl, hcc⟩ := hcl wr ((hW.mono hn).trans hB) (by omega)
      obtain ⟨⟨u, m⟩, hv⟩ : ∃ v, L[k]? = some v := ⟨_, List.getElem?_eq_getElem hlt⟩
      have q1 := (hcc k _ hv).1
      have q2 := (hcc k _ hv).2
      simp only at q1 q2
      have htk : L.take (k + 1) = L.take k ++ [(u, m)] := by rw [List.take_add_one, hv]; rfl
      have hpx : L.take k ++ [(u, m)] <+: L := by rw [← htk]; exact List.take_prefix _ _
      have hn0 : n₀ ≤ wr.heap.size := by have := hW.size; omega
      obtain ⟨fn, tmps, assign, body, hy, hR⟩ := H0.out.2 _ (u, m) (wr.alloc (.cells #[.int .i64 u, .int .i64 m] 63 (0, 0))) hpx (H0.out.1 _ _ _ hJk)
      have HT := Hd.mk htk
      have HP := Hd.mk hpx
      have HB := Hd.mk (hB.alloc (by have := hB.size; omega) (.cells #[.int .i64 u, .int .i64 m] 63 (0, 0)))
      have HL := Hd.mk hlt
      clear hcc hv htk hpx hB hcl
      unfold encC at hy
      gi_wp2
      refine ⟨fun h => (by cases h), hR.mono ?_⟩
      rintro e W3 (⟨rfl, hJ3, hk3⟩ | ⟨rfl, hJ3⟩)
      · clear q1 q2 hy hR
        gi_wp2
        go_roundw
        case rel => exact ⟨k + 1, HL.out, by go_num, by rw [HT.out]; exact hJ3, Nat.le_trans hsz (by have := hk3.size; simp at this; omega), HB.out.trans hk3⟩
        case measure => have := HL.out; simp [intOf]; omega
      · clear q1 q2 hy hR
        gi_wp2
        unfold Exit.noGoto
        dsimp only
        go_end0
        exact ⟨⟨_, rfl⟩, .inr ⟨_, HP.out, hJ3⟩⟩
    · obtain rfl : k = L.length := by omega
      have hd1 : decide (((L.length : Nat) : Int) < (L.length : Int)) = false := by simp
      have hJe : J L wr := by
        have h := hJk
        rwa [List.take_length] at h
      clear hJk hcl
      gi_wp2
      unfold Exit.noGoto
      dsimp only
      go_end0
      exact ⟨⟨_, rfl⟩, .inl hJe⟩
theorem range_a {α : Type} {P : Program} {n : Nat} {g : Operand} {ps : Array Tmp} {assign body : Code} {Q : Exit → Act → World → Prop} {a : Act} {w : World}
    (_ : 1 ≤ n) {gf : Nat} {lb : Array Value} (hg : a.eval g = .func (.func gf) #[] lb) (eg : ∀ args w, (callFunc gf args).run P w = .ok (.enter gf args) w)
    {encs : α → Array Value} {Kp : World → World → Prop} {L : List α} (hseq : SeqA (n - 1) P gf lb encs Kp L w)
    (hKt : ∀ {A B C : World}, Kp A B → Kp B C → Kp A C) (hKb : ∀ (W : World) (o' : Obj), Kp W (W.putObj (w.heap.size + 1) o')) (hps : ∀ x, (encs x).size = ps.size)
    (I : List α → World → Prop) (Ix : Code → List α → World → Prop) (hI : ∀ pre A o, I pre A → I pre (A.putObj (w.heap.size + 1) o)) (hIa : ∀ pre A o, I pre A → I pre (A.alloc o)) (hIx : ∀ c pre A o, Ix c pre A → Ix c pre (A.putObj (w.heap.size + 1) o)) (h0 : ∀ W, Below w.heap.size w W → I [] W)
    (hround : ∀ (l : Nat) (pre : List α) (x : α) (W : World), pre ++ [x] <+: L → I pre W → w.heap.size + 2 ≤ W.heap.size →
      assign.wpIn (Fence.wide.inRound l) (n - 1 - 1) P (Exit.then (fun a1 W1 => Calm w.heap.size W W1 ∧ Kp W W1 ∧ I pre W1 ∧ ∀ o, I pre (W1.putObj (w.heap.size + 1) o) →
          body.wpIn (Fence.wide.inRound l) (n - 1 - 1) P (roundEnd w.heap.size Kp I Ix (pre ++ [x]) (W1.putObj (w.heap.size + 1) o)) a1 (W1.putObj (w.heap.size + 1) o)) (fun _ _ _ => False))
        { tmps := (ps.zip (encs x)).foldl (fun t (p, v) => t.setIfInBounds p v) a.tmps, defers := [] } W)
    (hdone : ∀ (W : World), I L W → W.heap[w.heap.size]? = some (.deferred (some [])) → Q .normal { a with defers := { target := .collected w.heap.size, args := #[] } :: a.defers } W)
    (hstop : ∀ (c : Code) (pre : List α) (W : World), pre <+: L → Ix c pre W → W.heap[w.heap.size]? = some (.deferred (some [])) → c.wpIn Fence.wide n P Q { a with defers := { target := .collected w.heap.size, args := #[] } :: a.defers } W) :
    (Code.rangeFunc g ps assign body).wpIn Fence.wide n P Q a w := by
  refine wpIn_rangeFunc fun fn _ => ?_
  -- the loop's record, by its state and its pending jump; the world when the iterator is called
  let rec0 : LoopState → Option Code → Loop := fun st pe => { state := st, pending := pe, fn, tmps := a.tmps, params := ps, assign, body, defers := w.heap.size }
  have hW1 : ((w.alloc (.deferred (some []))).alloc (.loop (rec0 .ready none))).heap.size = w.heap.size + 2 := by simp
  have hD1 : ((w.alloc (.deferred (some []))).alloc (.loop (rec0 .ready none))).heap[w.heap.size]? = some (.deferred (some [])) := heap_old (World.alloc_heap_new w _) _
  have hL1 : ((w.alloc (.deferred (some []))).alloc (.loop (rec0 .ready none))).heap[w.heap.size + 1]? = some (.loop (rec0 .ready none)) := by
    have h := World.alloc_heap_new (w.alloc (.deferred (some []))) (.loop (rec0 .ready none))
    rwa [World.size_alloc] at h
  have hB1 : Below w.heap.size w ((w.alloc (.deferred (some []))).alloc (.loop (rec0 .ready none))) := ((Below.refl _ w).alloc (Nat.le_refl _) _).alloc (by simp) _
  refine ⟨w.heap.size + 1, [{ target := .collected w.heap.size, args := #[] }], _, { target := .fn (.func gf) lb, args := #[.func (.yield (w.heap.size + 1)) #[] #[]] }, _, gf, _, _,
    run_enterLoop_outer fn a.tmps ps assign body, by simp only [resolve, hg]; simp [go_sem]; rfl, fun _ _ => trivial, by simp [invoke, go_sem, eg]; exact ⟨rfl, rfl⟩, fun h => absurd h (by decide), ?_⟩
  generalize hWd : (w.alloc (.deferred (some []))).alloc (.loop (rec0 .ready none)) = W1 at hW1 hD1 hL1 hB1
  clear hWd
  refine (hseq (w.heap.size + 1)
    (fun pre W => I pre W ∧ W.heap[w.heap.size + 1]? = some (.loop (rec0 .ready none)) ∧ W.heap[w.heap.size]? = some (.deferred (some [])))
    (fun pre W => ∃ c, Ix c pre W ∧ W.heap[w.heap.size + 1]? = some (.loop (rec0 .done (some c))) ∧ W.heap[w.heap.size]? = some (.deferred (some [])))
    W1 hB1 (fun pre W o h => ⟨hIa _ _ _ h.1, heap_old h.2.1 _, heap_old h.2.2 _⟩) ?_ ⟨h0 W1 hB1, hL1, hD1⟩).mono ?_
  · rintro pre x W hpx ⟨hi, hl, hd⟩
    have hsz := lt_of_block hl
    refine ⟨fn, _, assign, body, run_yield hl (hps x), roundIn_of_wpIn trivial (wpIn_mono (hround (w.heap.size + 1) pre x W hpx hi (by omega)) ?_)⟩
    intro e a1 Wa hp
    cases e with
    | normal =>
      obtain ⟨hca, hka, hia, hgo⟩ := hp
      have hla := hca.keep (by omega) hl
      have hda := hca.keep (Nat.le_refl _) hd
      have hlt := lt_of_block hla
      refine ⟨_, run_beginRound hla rfl, wpIn_mono (hgo _ (hI _ _ _ hia)) ?_⟩
      have hlb := World.putObj_heap_same (o := Obj.loop { rec0 .ready none with state := .busy }) hlt
      have hdb : (Wa.putObj (w.heap.size + 1) (.loop { rec0 .ready none with state := .busy })).heap[w.heap.size]? = some (.deferred (some [])) := (World.putObj_heap_other (by omega)).trans hda
      have ends : ∀ (jump : Option Code) (W3 : World), Calm w.heap.size (Wa.putObj (w.heap.size + 1) (.loop { rec0 .ready none with state := .busy })) W3 →
          ∃ o, (Instr.endRound (w.heap.size + 1) jump).run P W3 = .ok (.bool jump.isNone) (W3.putObj (w.heap.size + 1) o) ∧
            (W3.putObj (w.heap.size + 1) o).heap[w.heap.size + 1]? = some (.loop (rec0 (if jump.isNone then .ready else .done) jump)) ∧
            (W3.putObj (w.heap.size + 1) o).heap[w.heap.size]? = some (.deferred (some [])) ∧ Calm W1.heap.size W (W3.putObj (w.heap.size + 1) o) := fun jump W3 hc3 => by
        have hl3 := hc3.keep (by omega) hlb
        exact ⟨_, run_endRound jump hl3, World.putObj_heap_same (lt_of_block hl3), (World.putObj_heap_other (by omega)).trans (hc3.keep (Nat.le_refl _) hdb),
          (((hca.mono (by omega)).trans (Calm.put _ _ _ (by omega))).trans (hc3.mono (by omega))).trans (Calm.put _ _ _ (by omega))⟩
      intro e a3 W3 hp3
      cases e with
      | normal =>
        obtain ⟨hc3, hk3, hi3⟩ := hp3
        obtain ⟨o, hr, hl4, hd4, hc4⟩ := ends none W3 hc3
        exact ⟨_, _, hr, .inl ⟨rfl, ⟨hI _ _ _ hi3, hl4, hd4⟩, hKt (hKt (hKt hka (hKb _ _)) hk3) (hKb _ _)⟩⟩
      | ret =>
        obtain ⟨hc3, hi3⟩ := hp3
        obtain ⟨o, hr, hl4, hd4, hc4⟩ := ends (some .ret) W3 hc3
        exact ⟨_, _, hr, .inr ⟨rfl, ⟨_, hIx _ _ _ _ hi3, hl4, hd4⟩⟩⟩
      | exit id =>
        obtain ⟨hc3, hi3⟩ := hp3
        obtain ⟨o, hr, hl4, hd4, hc4⟩ := ends (some (.exit id)) W3 hc3
        exact ⟨_, _, hr, .inr ⟨rfl, ⟨_, hIx _ _ _ _ hi3, hl4, hd4⟩⟩⟩
      | goto t => exact hp3.elim
      | panic ch => exact hp3.elim
      | outgrown => exact hp3.elim
    | exit id => exact hp.elim
    | goto t => exact hp.elim
    | ret => exact hp.elim
    | panic ch => exact hp.elim
    | outgrown => exact hp.elim
  · rintro e W2 ⟨⟨v, rfl⟩, (⟨hi, hl, hd⟩ | ⟨pre, hSp, c, hi, hl, hd⟩)⟩
    · exact ⟨none, _, run_endLoop hl (fun h => nomatch h), hdone _ (hI _ _ _ hi) ((World.putObj_heap_other (by omega)).trans hd)⟩
    · exact ⟨some c, _, run_endLoop hl (fun h => nomatch h), hstop c pre _ hSp (hIx _ _ _ _ hi) ((World.putObj_heap_other (by omega)).trans hd)⟩
end Go.Proofs.YtfgdichdddknlaaDoor

namespace Go.Proofs.YtfgdichdddknlaaDoor
open Go.RowKit Go.BigFrame Go.Shelf

theorem keys_new (l : List Int) : keys (newV l) = kinds (refV l) := by
  unfold newV refV
  split
  · exact (new_both l).2.symm
  · rfl
theorem newV_len (l : List Int) : (newV l).length ≤ l.length := by
  unfold newV
  split
  · exact (newT_ok l).2.1
  · simp
theorem refV_len (l : List Int) : (refV l).length ≤ l.length := by
  unfold refV
  split
  · rw [newR_length]; exact Nat.le_refl _
  · simp
set_option maxHeartbeats 1000000 in
theorem tg_all (A : Option Addr) (n c : Nat) (w : World) :
    Calls Tryd.prog 8 #[.agg #[.slice A n c]] w fun e w' => ∃ b, e = .returned (.func (.func 27) #[] #[.pointer (some ⟨b, 0, none⟩)]) ∧ w'.heap[b]? = some (.cells #[.slice A n c] 26 (0, 0)) ∧ w.heap.size ≤ b ∧ Below w.heap.size w w' := by
  have hmf : ∀ (fn : Fn) (first cap : Array Value) (w : World), (Instr.makeFunc fn first cap).run Tryd.prog w = .ok (.func fn first cap) w := fun _ _ _ _ => rfl
  go_enter Tryd.func8, Tryd.ntmps8
  go_wp2
  go_ret
  exact ⟨_, rfl, heap_at (by simp) _, by simp, by focus (repeat (first | (with_reducible exact Below.refl _ _) | (with_reducible assumption) | ((with_reducible refine Below.setCell ?_ ?_ _); rotate_left; (focus (first | omega | (simp; done) | (simp; omega)))) | ((with_reducible refine Below.alloc ?_ ?_ _); rotate_left; (focus (first | omega | (simp; done) | (simp; omega)))) | (with_reducible refine Below.drew ?_) | (refine below_on ?_ (by assumption))))⟩
set_option maxHeartbeats 1000000 in
theorem tg_len (A : Option Addr) (n c : Nat) (w : World) :
    Calls Tryd.prog 12 #[.agg #[.slice A n c]] w fun e w' => e = .returned (.int .i64 (n : Nat)) ∧ Below w.heap.size w w' := by
  go_enter Tryd.func12, Tryd.ntmps12
  go_wp2
  go_ret
  exact ⟨rfl, by focus (repeat (first | (with_reducible exact Below.refl _ _) | (with_reducible assumption) | ((with_reducible refine Below.setCell ?_ ?_ _); rotate_left; (focus (first | omega | (simp; done) | (simp; omega)))) | ((with_reducible refine Below.alloc ?_ ?_ _); rotate_left; (focus (first | omega | (simp; done) | (simp; omega)))) | (with_reducible refine Below.drew ?_) | (refine below_on ?_ (by assumption))))⟩
end Go.Proofs.YtfgdichdddknlaaDoor
