/-
  A region that draws its order, once more: quiet operations, of which those that look at no world may come behind a store, too; then the rest in one forced order. Conditions stand in each theorem.
-/
import Derived.Orders
import Derived.Test.YtfgdichdddknlaaDoorBase
namespace Go.Proofs.YtfgdichdddknlaaDoor
open Go.RowKit

section
variable {P : Program} {ops : Array Oper} {md : Region.Mode} {C : World → Prop}

/-- Operations whose value hangs on their operands alone. -/
def wlOp : Op → Bool
  | .move _ | .assign _ | .extract _ _ => true
  | _ => false

theorem wl_run {o : Oper} {a : Act} (h : wlOp o.op = true) : ∃ x : Sem Next, execOp a.eval o = x ∧ ((∃ v, x = .pure (.value v)) ∨ ∃ e, x = .halt e) := by
  refine ⟨_, rfl, ?_⟩
  unfold execOp
  cases hop : o.op <;> rw [hop] at h <;> simp [wlOp] at h
  case move x => exact .inl ⟨_, rfl⟩
  case assign x => exact .inl ⟨_, rfl⟩
  case extract t ix =>
    simp only [Instr.extract]
    split
    · split
      · exact .inl ⟨_, rfl⟩
      · exact .inr ⟨_, rfl⟩
    · exact .inr ⟨_, rfl⟩

theorem yields_of_wl {o : Oper} {v : Value} {a : Act} (h : wlOp o.op = true) (hC : ∃ w, C w) (hy : YieldsIn P ops C o v a) : Yields P ops o v a := by
  obtain ⟨w, hw⟩ := hC
  rcases hy with ⟨h1, h2⟩ | h1
  · refine .inl ⟨h1, fun w' => ?_⟩
    have h3 := h2 w hw
    obtain ⟨x, hx, hs⟩ := wl_run (a := a) h
    unfold Oper.quietAt at h3
    rw [hx] at h3 ⊢
    rcases hs with ⟨u, rfl⟩ | ⟨e, rfl⟩
    · simp only [Sem.run, Oper.quietUpon] at h3 ⊢
      rw [h3.2]
    · simp only [Sem.run, Oper.quietUpon] at h3
  · exact .inr h1

/-- j waits for k, maybe through others. -/
def dep (md : Region.Mode) (ops : Array Oper) : Nat → Nat → Nat → Bool
  | 0, _, _ => false
  | f + 1, j, k => match ops[j]? with
    | none => false
    | some oj => oj.after.any fun e => Region.binds md e && (e.on == k || dep md ops f e.on k)

/-- What has come up has come up behind all that it waits for. -/
def Closed (md : Region.Mode) (ops : Array Oper) (listed : Array Bool) : Prop :=
  listed.size = ops.size ∧ ∀ j oj, ops[j]? = some oj → listed.getD j false = true → ∀ e ∈ oj.after, Region.binds md e = true → listed.getD e.on false = true

theorem Closed.set {listed : Array Bool} (h : Closed md ops listed) {i : Nat} (hi : i ∈ Region.ready md ops listed) : Closed md ops (listed.setIfInBounds i true) := by
  obtain ⟨_, oi, hoi, hall⟩ := mem_ready.1 hi
  refine ⟨by simp [h.1], fun j oj hj hl e he hb => ?_⟩
  by_cases hij : i = j
  · subst hij
    have : oj = oi := Option.some.inj (hj.symm.trans hoi)
    subst this
    exact getD_set_true (hall e he hb)
  · rw [getD_set_ne false hij] at hl
    exact getD_set_true (h.2 j oj hj hl e he hb)

theorem dep_listed {listed : Array Bool} (h : Closed md ops listed) : ∀ (f j k : Nat) (oj : Oper), ops[j]? = some oj → (∀ e ∈ oj.after, Region.binds md e = true → listed.getD e.on false = true) → dep md ops f j k = true → listed.getD k false = true
  | 0, _, _, _, _, _, hd => by simp [dep] at hd
  | f + 1, j, k, oj, hoj, hall, hd => by
    simp only [dep, hoj] at hd
    obtain ⟨e, he, hb⟩ := Array.any_eq_true'.1 hd
    simp only [Bool.and_eq_true, Bool.or_eq_true, beq_iff_eq] at hb
    obtain ⟨hb1, hb2⟩ := hb
    have hle := hall e he hb1
    rcases hb2 with rfl | hb2
    · exact hle
    · have hlt : e.on < ops.size := by
        rcases Nat.lt_or_ge e.on listed.size with h' | h'
        · rw [← h.1]; exact h'
        · simp [Array.getElem?_eq_none h'] at hle
      exact dep_listed h f e.on k _ (Array.getElem?_eq_getElem hlt) (fun e' he' hb' => h.2 e.on _ (Array.getElem?_eq_getElem hlt) hle e' he' hb') hb2

/-- Whatever order is picked: the first n are quiet; at any other one the rest goes as it goes. -/
def mixQ (P : Program) (md : Region.Mode) (ops : Array Oper) (C : World → Prop) (n : Nat) (Q' : Exit → Act → World → Prop) : Nat → Array Bool → Act → Prop
  | 0, listed, a => ∀ w, C w → wpAny P md ops Q' 0 listed a w
  | f + 1, listed, a => (Region.ready md ops listed = [] → ∀ w, C w → Q' .normal a w) ∧
    ∀ i ∈ Region.ready md ops listed, (i < n → qOp P ops C i (mixQ P md ops C n Q' f (listed.setIfInBounds i true)) a) ∧
      (n ≤ i → ∀ w, C w → wpOp P ops Q' i (wpAny P md ops Q' f (listed.setIfInBounds i true)) a w)

theorem any_of_mix {n : Nat} {Q' : Exit → Act → World → Prop} : ∀ (f : Nat) (listed : Array Bool) (a : Act) (w : World), C w → mixQ P md ops C n Q' f listed a → wpAny P md ops Q' f listed a w
  | 0, _, _, w, hw, h => h w hw
  | f + 1, _, _, w, hw, h => ⟨fun h0 => h.1 h0 w hw, fun i hi => by
      rcases Nat.lt_or_ge i n with hin | hin
      · exact wpOp_of_qOp hw (fun a' w' hw' h' => any_of_mix f _ a' w' hw' h') ((h.2 i hi).1 hin)
      · exact (h.2 i hi).2 hin w hw⟩

theorem mix_first {n i : Nat} {oi : Oper} {v : Value} {Q' : Exit → Act → World → Prop} (hi : ops[i]? = some oi) (hsel : ∀ (j : Nat) (o : Oper) cs b, ops[j]? = some o → o.op ≠ .select cs b)
    (hin : i < n) (hne : ∃ w, C w) (hQ : wlOp oi.op = true → ∀ c a w, Q' (.panic c) (a.put oi.dst v) w → Q' (.panic c) a w)
    (hlate : wlOp oi.op = true ∨ ∀ j, n ≤ j → j < ops.size → ∃ g, dep md ops g j i = true) :
    ∀ (f : Nat) (listed : Array Bool) (a : Act), Closed md ops listed →
      (∀ j oj, ops[j]? = some oj → j ≠ i → listed.getD j true = false → (∀ e ∈ oj.after, Region.binds md e = true → e.on ≠ i) → oi.apart ops oj = true) →
      i ∈ Region.ready md ops listed → YieldsIn P ops C oi v a →
      mixQ P md ops C n Q' f (listed.setIfInBounds i true) (a.put oi.dst v) → mixQ P md ops C n Q' (f + 1) listed a := by
  intro f
  induction f with
  | zero =>
    intro listed a hcl _ hr hy H
    refine ⟨fun h => (by rw [h] at hr; cases hr), fun j hj => ?_⟩
    by_cases hji : j = i
    · subst hji
      exact ⟨fun _ => hy.qOp hi H, fun h => absurd h (by omega)⟩
    · obtain ⟨w, hw⟩ := hne
      have := ready_mono hj hji
      rw [(H w hw).1] at this
      cases this
  | succ f ih =>
    intro listed a hcl hfree hr hy H
    refine ⟨fun h => (by rw [h] at hr; cases hr), fun j hj => ?_⟩
    by_cases hji : j = i
    · subst hji
      exact ⟨fun _ => hy.qOp hi H, fun h => absurd h (by omega)⟩
    · have h1 := H.2 j (ready_mono hj hji)
      obtain ⟨hjun, oj, hoj, hall⟩ := mem_ready.1 hj
      have hnot : ∀ e ∈ oj.after, Region.binds md e = true → e.on ≠ i := fun e he hb heq => by
        have h1 := hall e he hb
        rw [heq, getD_both (mem_ready.1 hr).1] at h1
        cases h1
      have hfree' : ∀ k ok, ops[k]? = some ok → k ≠ i → (listed.setIfInBounds j true).getD k true = false →
          (∀ e ∈ ok.after, Region.binds md e = true → e.on ≠ i) → oi.apart ops ok = true := fun k ok hk hki hun hno => by
        refine hfree k ok hk hki ?_ hno
        by_cases hjk : j = k
        · subst hjk; exact hjun
        · rw [getD_set_ne true hjk] at hun; exact hun
      refine ⟨fun hjn => ?_, fun hjn w hw => ?_⟩
      · have h2 := qOp_put hoj (hfree j oj hoj hji hjun hnot) (fun cs b => hsel i oi cs b hi) (fun cs b => hsel j oj cs b hoj) hy (h1.1 hjn)
        refine qOp_mono (fun a' h3 => ih (listed.setIfInBounds j true) a' (hcl.set hj) hfree' (ready_mono hr (Ne.symm hji)) h3.1 ?_) h2
        rw [Array.setIfInBounds_comm _ _ hji]
        exact h3.2
      · have hwl : wlOp oi.op = true := by
          rcases hlate with h | h
          · exact h
          · obtain ⟨g, hg⟩ := h j hjn (Array.getElem?_eq_some_iff.1 hoj).1
            have h4 := dep_listed hcl g j i oj hoj hall hg
            rw [getD_both (mem_ready.1 hr).1] at h4
            cases h4
        have hyy : Yields P ops oi v a := yields_of_wl hwl hne hy
        have h2 := wpOp_put hoj (hfree j oj hoj hji hjun hnot) (fun cs b => hsel i oi cs b hi) (fun cs b => hsel j oj cs b hoj) (hQ hwl) hyy (h1.2 hjn w hw)
        refine wpOp_mono (fun a' w' h3 => wpAny_first hi hsel (hQ hwl) f _ a' w' hfree' (ready_mono hr (Ne.symm hji)) h3.1 ?_) h2
        rw [Array.setIfInBounds_comm _ _ hji]
        exact h3.2

def lexMix (md : Region.Mode) (ops : Array Oper) (n g : Nat) : Nat → Nat → Array Bool → Bool
  | 0, k, listed => Region.seqB md ops g k listed
  | f + 1, k, listed => (Region.ready md ops listed).contains k && Region.free md ops listed k &&
    ((match ops[k]? with | some o => wlOp o.op | none => false) || (List.range ops.size).all fun j => decide (j < n) || dep md ops ops.size j k) &&
    lexMix md ops n g f (k + 1) (listed.setIfInBounds k true)
def mixB (md : Region.Mode) (ops : Array Oper) (n : Nat) : Bool :=
  Region.noSelect ops && decide (n < ops.size) && lexMix md ops n (ops.size - n) n 0 (Array.replicate ops.size false)

theorem mix_lex {n : Nat} {Q' : Exit → Act → World → Prop} {Lq : Act → Prop} (hsel : Region.noSelect ops = true) (hne : ∃ w, C w) (hQ : ∀ c a (t : Array Value) w, Q' (.panic c) ⟨t, a.defers⟩ w → Q' (.panic c) a w)
    (hL : ∀ listed a, Region.seqB md ops (ops.size - n) n listed = true → Lq a → ∀ w, C w → wpAny P md ops Q' (ops.size - n) listed a w) (hn : n < ops.size) :
    ∀ (l : List Oper) (k : Nat) (listed : Array Bool) (a : Act), (∀ j, j < l.length → l[j]? = ops[k + j]?) → k + l.length = n → Closed md ops listed →
    lexMix md ops n (ops.size - n) l.length k listed = true → wpQuiet P ops C Lq l a →
    mixQ P md ops C n Q' (l.length + (ops.size - n)) listed a
  | [], k, listed, a, _, hk, _, hB, h => by
    have hkn : k = n := by simpa using hk
    subst hkn
    have hs : Region.seqB md ops (ops.size - k) k listed = true := by simpa [lexMix] using hB
    have H := hL listed a hs h
    obtain ⟨m, hm⟩ : ∃ m, ops.size - k = m + 1 := ⟨ops.size - k - 1, by omega⟩
    simp only [List.length_nil, Nat.zero_add]
    rw [hm] at H hs ⊢
    refine ⟨fun h0 w hw => (H w hw).1 h0, fun i hi => ⟨fun hik => ?_, fun _ w hw => (H w hw).2 i hi⟩⟩
    have := seqB_ready hs i hi
    omega
  | o :: l, k, listed, a, hl, hk, inv, hB, h => by
    have h0 : ops[k]? = some o := by simpa using (hl 0 (by simp)).symm
    simp only [List.length_cons, lexMix, Bool.and_eq_true, h0] at hB
    obtain ⟨⟨⟨hr, hf⟩, hw⟩, hB'⟩ := hB
    have hkn : k < n := by simp only [List.length_cons] at hk; omega
    have hr' : k ∈ Region.ready md ops listed := by simpa using hr
    have hst : qOp P ops C k (wpQuiet P ops C Lq l) a := by unfold qOp; simp only [h0]; exact h
    obtain ⟨v, hy, hK⟩ := yieldsIn_of_qOp h0 hst
    have hlate : wlOp o.op = true ∨ ∀ j, n ≤ j → j < ops.size → ∃ g, dep md ops g j k = true := by
      rcases Bool.or_eq_true _ _ ▸ hw with h1 | h1
      · exact .inl h1
      · refine .inr fun j hj hj2 => ⟨ops.size, ?_⟩
        have := List.all_eq_true.1 h1 j (List.mem_range.2 hj2)
        rcases Bool.or_eq_true _ _ ▸ this with h2 | h2
        · exact absurd (of_decide_eq_true h2) (by omega)
        · exact h2
    have hQ' : wlOp o.op = true → ∀ c a w, Q' (.panic c) (a.put o.dst v) w → Q' (.panic c) a w := fun _ c a w hq => by
      cases hd : o.dst with
      | none => rw [hd] at hq; exact hq
      | some d => rw [hd] at hq; exact hQ c a _ w hq
    rw [show (o :: l).length + (ops.size - n) = (l.length + (ops.size - n)) + 1 by simp only [List.length_cons]; omega]
    exact mix_first h0 (Region.noSelect_spec hsel) hkn hne hQ' hlate _ listed a inv (Region.free_spec h0 hf) hr' hy
      (mix_lex hsel hne hQ hL hn l (k + 1) _ _ (fun j hj => by have := hl (j + 1) (by simp; omega); simpa [Nat.add_assoc, Nat.add_comm 1 j] using this) (by simp only [List.length_cons] at hk; omega) (inv.set hr') hB' hK)

/-- THE REGION: the first n operations are quiet in the class 'below what was there all is as it was'; those that look at no world may come behind the others; the rest comes in the order of the text. -/
theorem region_mix {id : Nat} {Q : Exit → Act → World → Prop} {a : Act} {w : World} {l : List Oper} (n : Nat) (hm : P.follows .mixedOrders = true) (hB : mixB .any l.toArray n = true)
    (hQ : ∀ c a (t : Array Value) w, Q (.panic c) ⟨t, a.defers⟩ w → Q (.panic c) a w)
    (h : ∀ (X : Type) [Nonempty X] (mk : X → World), (∀ x, Below w.heap.size w (mk x)) → (∀ x W', Below (mk x).heap.size (mk x) W' → ∃ y, W' = mk y) →
      wpQuiet P l.toArray (fun w' => ∃ x, w' = mk x) (fun a' => ∀ w', (∃ x, w' = mk x) → wpList P l.toArray Q (l.drop n) a' w') (l.take n) a) : (Code.region id l.toArray true).wp P Q a w := by
  let X := { W' // Below w.heap.size w W' }
  letI : Nonempty X := ⟨⟨w, Below.refl _ _⟩⟩
  have h' := h X Subtype.val (fun x => x.2) (fun x W' hb => ⟨⟨W', x.2.trans (hb.mono x.2.size)⟩, rfl⟩)
  simp only [mixB, Bool.and_eq_true, decide_eq_true_eq] at hB
  obtain ⟨⟨hsel, hn⟩, hlex⟩ := hB
  have hn' : n < l.length := by simpa using hn
  have htl : (l.take n).length = n := by simp; omega
  have hdl : (l.drop n).length = l.toArray.size - n := by simp
  have inv0 : Closed .any l.toArray (Array.replicate l.toArray.size false) :=
    ⟨by simp, fun j oj _ hl => (by rw [getD_replicate_false] at hl; cases hl)⟩
  have hC : (fun w' : World => ∃ x : X, w' = x.1) { w with drawn := w.drawn + 1 } := ⟨⟨_, (Below.refl _ _).drew⟩, rfl⟩
  have H := mix_lex (P := P) (md := .any) (n := n) (Q' := Q) (C := fun w' => ∃ x : X, w' = x.1) hsel ⟨_, hC⟩ hQ
    (fun listed a' hs hL w' hw' => by
      have := wpAny_of_seq (md := .any) (Q' := Q) (l.drop n) n listed a' w' (fun j => by simp [List.getElem?_drop]) (by rw [hdl]; exact hs) (hL w' hw')
      rwa [hdl] at this) hn (l.take n) 0 _ a (fun j hj => by
    have hj' : j < n := by rw [htl] at hj; exact hj
    simp [hj']) (by simpa using htl) inv0 (by rw [htl]; exact hlex) h'
  refine wp_region_any hm ?_
  have := any_of_mix _ _ _ _ hC H
  rw [htl, show n + (l.toArray.size - n) = l.toArray.size by omega] at this
  exact this
end
end Go.Proofs.YtfgdichdddknlaaDoor
