/-
  A region that draws its order and in which one operation panics: whatever quiet operations come before it. And what a deferring function's end hangs on. Conditions stand in each theorem.
-/
import Derived.Deep.RegionHeld3
import Derived.Defers
import Derived.Test.YtfgdichdddknlaaDoorBase3
namespace Go.Proofs.YtfgdichdddknlaaDoor
open Go.RowKit

section
variable {P : Program} {ops : Array Oper} {md : Region.Mode} {C : World → Prop}

/-- Whatever order is picked: each that comes up is quiet, or is number n, which doesn't come to its end. -/
def panQ (P : Program) (md : Region.Mode) (ops : Array Oper) (C : World → Prop) (n : Nat) (Q' : Exit → Act → World → Prop) : Nat → Array Bool → Act → Prop
  | 0, _, _ => False
  | f + 1, listed, a => Region.ready md ops listed ≠ [] ∧
    ∀ i ∈ Region.ready md ops listed, (i < n → qOp P ops C i (panQ P md ops C n Q' f (listed.setIfInBounds i true)) a) ∧
      (n ≤ i → i = n ∧ ∀ w, C w → wpOp P ops Q' i (fun _ _ => False) a w)

theorem any_of_pan {n : Nat} {Q' : Exit → Act → World → Prop} : ∀ (f : Nat) (listed : Array Bool) (a : Act) (w : World), C w → panQ P md ops C n Q' f listed a → wpAny P md ops Q' f listed a w
  | 0, _, _, _, _, h => h.elim
  | f + 1, _, _, w, hw, h => ⟨fun h0 => absurd h0 h.1, fun i hi => by
      rcases Nat.lt_or_ge i n with hin | hin
      · exact wpOp_of_qOp hw (fun a' w' hw' h' => any_of_pan f _ a' w' hw' h') ((h.2 i hi).1 hin)
      · exact wpOp_mono (fun _ _ h => h.elim) (((h.2 i hi).2 hin).2 w hw)⟩

theorem wpOp_unput {j : Nat} {oi oj : Oper} {v : Value} {Q' : Exit → Act → World → Prop} (hj : ops[j]? = some oj) (hap : oi.apart ops oj = true)
    (hsj : ∀ cs b, oj.op ≠ .select cs b) (hQ : ∀ c a w, Q' (.panic c) (a.put oi.dst v) w → Q' (.panic c) a w) {a : Act} {w : World}
    (h : wpOp P ops Q' j (fun _ _ => False) (a.put oi.dst v) w) : wpOp P ops Q' j (fun _ _ => False) a w := by
  obtain ⟨h1, h2, h3⟩ := Oper.apart_spec hap
  unfold wpOp at *
  simp only [hj] at *
  rw [wanted_put oj a oi.dst v h1] at h
  split
  · rename_i hw
    simp only [hw, if_true] at h
    rcases h with h | ⟨hasks, hlets⟩
    case inr => exact .inr ⟨by unfold Oper.asks at *; rw [execOp_put oj hsj a oi.dst v h1] at hasks; exact hasks, hlets⟩
    refine .inl ?_
    unfold Oper.wp at *
    rw [execOp_put oj hsj a oi.dst v h1] at h
    generalize (execOp a.eval oj).run P w = r at *
    cases r with
    | ok n w' =>
      cases n <;> simp only [Oper.upon] at h ⊢
      case enter f args =>
        refine Calls.mono h fun e w'' he => ?_
        cases e with
        | returned u => exact he
        | panicked c => exact hQ _ _ _ he
        | outgrown => exact he
      case row row args => exact h
    | halt x w' =>
      cases x <;> simp only [Oper.upon] at h ⊢
      case panic u => exact hQ _ _ _ h
  · rename_i hw
    simp only [hw] at h
    exact h.elim

theorem pan_first {n i : Nat} {oi : Oper} {v : Value} {Q' : Exit → Act → World → Prop} (hi : ops[i]? = some oi) (hsel : ∀ (j : Nat) (o : Oper) cs b, ops[j]? = some o → o.op ≠ .select cs b)
    (hin : i < n) (hQ : ∀ c a w, Q' (.panic c) (a.put oi.dst v) w → Q' (.panic c) a w)
    (_hlate : ∀ j, n < j → j < ops.size → ∃ g, dep md ops g j n = true) :
    ∀ (f : Nat) (listed : Array Bool) (a : Act), Closed md ops listed → listed.getD n true = false →
      (∀ j oj, ops[j]? = some oj → j ≠ i → listed.getD j true = false → (∀ e ∈ oj.after, Region.binds md e = true → e.on ≠ i) → oi.apart ops oj = true) →
      i ∈ Region.ready md ops listed → YieldsIn P ops C oi v a →
      panQ P md ops C n Q' f (listed.setIfInBounds i true) (a.put oi.dst v) → panQ P md ops C n Q' (f + 1) listed a := by
  intro f
  induction f with
  | zero =>
    intro listed a _ _ _ _ _ H
    exact H.elim
  | succ f ih =>
    intro listed a hcl hnl hfree hr hy H
    refine ⟨fun h => (by rw [h] at hr; cases hr), fun j hj => ?_⟩
    by_cases hji : j = i
    · subst hji
      exact ⟨fun _ => hy.qOp hi H, fun h => absurd h (by omega)⟩
    · have h1 := H.2 j (ready_mono hj hji)
      obtain ⟨hjun, oj, hoj, hall⟩ := mem_ready.1 hj
      have hnot : ∀ e ∈ oj.after, Region.binds md e = true → e.on ≠ i := fun e he hb heq => by
        have h1 := hall e he hb
        rw [heq, getD_both (mem_ready.1 hr).1] at h1
        cases h1
      have hfree' : ∀ k ok, ops[k]? = some ok → k ≠ i → (listed.setIfInBounds j true).getD k true = false →
          (∀ e ∈ ok.after, Region.binds md e = true → e.on ≠ i) → oi.apart ops ok = true := fun k ok hk hki hun hno => by
        refine hfree k ok hk hki ?_ hno
        by_cases hjk : j = k
        · subst hjk; exact hjun
        · rw [getD_set_ne true hjk] at hun; exact hun
      refine ⟨fun hjn => ?_, fun hjn => ?_⟩
      · have h2 := qOp_put hoj (hfree j oj hoj hji hjun hnot) (fun cs b => hsel i oi cs b hi) (fun cs b => hsel j oj cs b hoj) hy (h1.1 hjn)
        refine qOp_mono (fun a' h3 => ih (listed.setIfInBounds j true) a' (hcl.set hj) (by rw [getD_set_ne true (by omega)]; exact hnl) hfree' (ready_mono hr (Ne.symm hji)) h3.1 ?_) h2
        rw [Array.setIfInBounds_comm _ _ hji]
        exact h3.2
      · obtain ⟨hjn', h2⟩ := h1.2 hjn
        exact ⟨hjn', fun w hw => wpOp_unput hoj (hfree j oj hoj hji hjun hnot) (fun cs b => hsel j oj cs b hoj) hQ (h2 w hw)⟩

def lexPan (md : Region.Mode) (ops : Array Oper) (n : Nat) : Nat → Nat → Array Bool → Bool
  | 0, _, listed => decide (Region.ready md ops listed = [n])
  | f + 1, k, listed => (Region.ready md ops listed).contains k && Region.free md ops listed k && lexPan md ops n f (k + 1) (listed.setIfInBounds k true)
def panB (md : Region.Mode) (ops : Array Oper) (n : Nat) (D : List Nat) : Bool :=
  Region.noSelect ops && decide (n < ops.size) && ((List.range ops.size).all fun j => decide (j ≤ n) || dep md ops ops.size j n) &&
  ((List.range n).all fun k => match (ops[k]?).bind (·.dst) with | some d => D.contains d | none => true) && lexPan md ops n n 0 (Array.replicate ops.size false)

theorem pan_lex {n : Nat} {D : List Nat} {Q' : Exit → Act → World → Prop} {Lq : Act → Prop} (hsel : Region.noSelect ops = true) (hQ : ∀ c a w d v, d ∈ D → Q' (.panic c) (a.put (some d) v) w → Q' (.panic c) a w)
    (hlate : ∀ j, n < j → j < ops.size → ∃ g, dep md ops g j n = true) (hD : ∀ k d, k < n → (ops[k]?).bind (·.dst) = some d → d ∈ D)
    (hL : ∀ a, Lq a → ∀ w, C w → wpOp P ops Q' n (fun _ _ => False) a w) (hn : n < ops.size) (g : Nat) :
    ∀ (l : List Oper) (k : Nat) (listed : Array Bool) (a : Act), (∀ j, j < l.length → l[j]? = ops[k + j]?) → k + l.length = n → Closed md ops listed → listed.getD n true = false →
    lexPan md ops n l.length k listed = true → wpQuiet P ops C Lq l a →
    panQ P md ops C n Q' (l.length + (g + 1)) listed a
  | [], k, listed, a, _, hk, _, _, hB, h => by
    have hr : Region.ready md ops listed = [n] := by simpa [lexPan] using hB
    simp only [List.length_nil, Nat.zero_add]
    refine ⟨by rw [hr]; simp, fun i hi => ?_⟩
    rw [hr] at hi
    have hin : i = n := by simpa using hi
    subst hin
    exact ⟨fun h => absurd h (by omega), fun _ => ⟨rfl, hL a h⟩⟩
  | o :: l, k, listed, a, hl, hk, inv, hnl, hB, h => by
    have h0 : ops[k]? = some o := by simpa using (hl 0 (by simp)).symm
    simp only [List.length_cons, lexPan, Bool.and_eq_true] at hB
    obtain ⟨⟨hr, hf⟩, hB'⟩ := hB
    have hkn : k < n := by simp only [List.length_cons] at hk; omega
    have hr' : k ∈ Region.ready md ops listed := by simpa using hr
    have hst : qOp P ops C k (wpQuiet P ops C Lq l) a := by unfold qOp; simp only [h0]; exact h
    obtain ⟨v, hy, hK⟩ := yieldsIn_of_qOp h0 hst
    have hQ' : ∀ c a w, Q' (.panic c) (a.put o.dst v) w → Q' (.panic c) a w := fun c a w hq => by
      cases hd : o.dst with
      | none => rw [hd] at hq; exact hq
      | some d => rw [hd] at hq; exact hQ c a w d v (hD k d hkn (by rw [h0]; exact hd)) hq
    rw [show (o :: l).length + (g + 1) = (l.length + (g + 1)) + 1 by simp only [List.length_cons]; omega]
    exact pan_first h0 (Region.noSelect_spec hsel) hkn hQ' hlate _ listed a inv hnl (Region.free_spec h0 hf) hr' hy
      (pan_lex hsel hQ hlate hD hL hn g l (k + 1) _ _ (fun j hj => by have := hl (j + 1) (by simp; omega); simpa [Nat.add_assoc, Nat.add_comm 1 j] using this) (by simp only [List.length_cons] at hk; omega) (inv.set hr') (by rw [getD_set_ne true (by omega)]; exact hnl) hB' hK)

/-- THE REGION: n operations that are quiet, in whatever order; number n panics. -/
theorem region_pan {id : Nat} {Q : Exit → Act → World → Prop} {a : Act} {w : World} {l : List Oper} (n : Nat) (D : List Nat) (hm : P.follows .mixedOrders = true) (hB : panB .any l.toArray n D = true)
    (hQ : ∀ c a w d v, d ∈ D → Q (.panic c) (a.put (some d) v) w → Q (.panic c) a w)
    (h : ∀ (X : Type) [Nonempty X] (mk : X → World), (∀ x, Below w.heap.size w (mk x)) → (∀ x W', Below (mk x).heap.size (mk x) W' → ∃ y, W' = mk y) →
      wpQuiet P l.toArray (fun w' => ∃ x, w' = mk x) (fun a' => ∀ w', (∃ x, w' = mk x) → wpList P l.toArray (Exit.then (fun _ _ => False) Q) ((l.drop n).take 1) a' w') (l.take n) a) : (Code.region id l.toArray true).wp P Q a w := by
  let X := { W' // Below w.heap.size w W' }
  letI : Nonempty X := ⟨⟨w, Below.refl _ _⟩⟩
  have h' := h X Subtype.val (fun x => x.2) (fun x W' hb => ⟨⟨W', x.2.trans (hb.mono x.2.size)⟩, rfl⟩)
  simp only [panB, Bool.and_eq_true, decide_eq_true_eq] at hB
  obtain ⟨⟨⟨⟨hsel, hn⟩, hlate⟩, hD⟩, hlex⟩ := hB
  have hn' : n < l.length := by simpa using hn
  have htl : (l.take n).length = n := by simp; omega
  have inv0 : Closed .any l.toArray (Array.replicate l.toArray.size false) :=
    ⟨by simp, fun j oj _ hl => (by rw [getD_replicate_false] at hl; cases hl)⟩
  have hC : (fun w' : World => ∃ x : X, w' = x.1) { w with drawn := w.drawn + 1 } := ⟨⟨_, (Below.refl _ _).drew⟩, rfl⟩
  have hdrop : (l.drop n).take 1 = [l[n]] := by rw [List.drop_eq_getElem_cons hn']; rfl
  have H := pan_lex (P := P) (md := .any) (n := n) (D := D) (Q' := Q) (C := fun w' => ∃ x : X, w' = x.1) hsel hQ
    (fun j h1 h2 => ⟨l.toArray.size, by
      have := List.all_eq_true.1 hlate j (List.mem_range.2 h2)
      rcases Bool.or_eq_true _ _ ▸ this with h3 | h3
      · exact absurd (of_decide_eq_true h3) (by omega)
      · exact h3⟩)
    (fun k d hk hd => by
      have := List.all_eq_true.1 hD k (List.mem_range.2 hk)
      rw [hd] at this
      simpa using this)
    (fun a' hL w' hw' => by
      have h4 := hL w' hw'
      rw [hdrop] at h4
      unfold wpOp
      have h5 : l.toArray[n]? = some l[n] := by simp [hn']
      simp only [h5]
      unfold wpList at h4
      split
      · rename_i hw
        rw [if_pos hw] at h4
        rcases h4 with h4 | ⟨h6, a₀, w₀, h7⟩
        · refine .inl ?_
          unfold Oper.wp at *
          generalize (execOp a'.eval l[n]).run P w' = r at *
          cases r with
          | ok x w1 =>
            cases x <;> simp only [Oper.upon] at h4 ⊢
            case value => exact h4
            case skip => exact h4
            case defer => exact h4
            case enter f args =>
              refine Calls.mono h4 fun e w2 he => ?_
              cases e with
              | returned u => exact he
              | panicked c => exact he
              | outgrown => exact he
            case row row args => exact Rows.mono h4 fun _ _ he => he
          | halt x w1 => cases x <;> simp only [Oper.upon] at h4 ⊢; exact h4
        · exact .inr ⟨h6, a₀, w₀, h7⟩
      · rename_i hw
        rw [if_neg hw] at h4
        exact h4) hn (l.toArray.size - n - 1) (l.take n) 0 _ a (fun j hj => by
    have hj' : j < n := by rw [htl] at hj; exact hj
    simp [hj']) (by simpa using htl) inv0 (getD_in (by simpa using hn') (getD_replicate_false _ _)) (by rw [htl]; exact hlex) h'
  refine wp_region_any hm ?_
  have := any_of_pan _ _ _ _ hC H
  rw [htl, show n + (l.toArray.size - n - 1 + 1) = l.toArray.size by omega] at this
  exact this
end

/-! ### What is left of a deferring function hangs on its results' places alone -/
theorem leaves_same {P : Program} {fn : Func} {t t' : Array Value} {R : Ending → World → Prop} (hr : ∀ w, (results fn t).run P w = (results fn t').run P w) :
    ∀ (ds : List Deferred) (u : FrameMode) (w : World), Leaves P fn t R ds u w → Leaves P fn t' R ds u w
  | [], .returning, w, h => by obtain ⟨v, h1, h2⟩ := h; exact ⟨v, (hr w) ▸ h1, h2⟩
  | [], .panicking _, _, h => h
  | [], .run, _, h => h
  | d :: ds, u, w, h => by
    obtain ⟨h0, fv, cap, f, args, h1, h2, h3⟩ := h
    refine ⟨h0, fv, cap, f, args, h1, h2, h3.mono ?_⟩
    intro e u' w' he
    cases e with
    | returned _ => exact leaves_same hr ds _ _ he
    | panicked _ => exact leaves_same hr ds _ _ he
    | outgrown => exact he
def resSlot : ResultVar → Nat
  | .tmp t => t
  | .cell t _ => t
theorem results_put {P : Program} {fn : Func} {t : Array Value} {d : Nat} {v : Value} (h : ∀ r ∈ fn.results.toList, resSlot r ≠ d) (w : World) : (results fn (t.setIfInBounds d v)).run P w = (results fn t).run P w := by
  have : results fn (t.setIfInBounds d v) = results fn t := by
    unfold results
    congr 1
    have hg : ∀ r ∈ fn.results.toList, (t.setIfInBounds d v).getD (resSlot r) undef = t.getD (resSlot r) undef := fun r hr => by
      simp [Array.getD_eq_getD_getElem?, (h r hr).symm]
    rw [← Array.toArray_toList (xs := fn.results)]
    simp only [List.mapM_toArray]
    congr 1
    generalize fn.results.toList = rs at hg
    induction rs with
    | nil => rfl
    | cons r rs ih =>
      simp only [List.mapM_cons]
      have h1 := hg r (by simp)
      rw [ih (fun r' hr' => hg r' (by simp [hr']))]
      congr 1
      cases r with
      | tmp s => simp only [resSlot] at h1; simp only [h1]
      | cell s ty => simp only [resSlot] at h1; simp only [h1]
  rw [this]
theorem leaves_put {P : Program} {fn : Func} {a : Act} {R : Ending → World → Prop} {ds : List Deferred} {u : FrameMode} {w : World} {d : Nat} {v : Value} (h : ∀ r ∈ fn.results.toList, resSlot r ≠ d)
    (hl : Leaves P fn (a.put (some d) v).tmps R ds u w) : Leaves P fn a.tmps R ds u w := leaves_same (fun w => results_put h w) ds u w hl
end Go.Proofs.YtfgdichdddknlaaDoor
