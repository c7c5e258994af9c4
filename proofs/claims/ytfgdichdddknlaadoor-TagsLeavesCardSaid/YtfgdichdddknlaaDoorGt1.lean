/-
  Tags: plain laws on lists: numbers, how often each is there, the different ones. Conditions stand in each theorem.
-/
import Derived.Test.YtfgdichdddknlaaDoorBase
namespace Go.Proofs.YtfgdichdddknlaaDoor

/-- A number, and how often it is there. -/
abbrev Ct := Int × Int
def keys (L : List Ct) : List Int := L.map (·.1)
def addT : List Ct → Int → List Ct
  | [], n => [(n, 1)]
  | (k, m) :: r, n => if n < k then (n, 1) :: (k, m) :: r else if n = k then (k, m + 1) :: r else (k, m) :: addT r n
def addK : List Int → Int → List Int
  | [], n => [n]
  | k :: r, n => if n < k then n :: k :: r else if n = k then k :: r else k :: addK r n
def insR : List Int → Int → List Int
  | [], n => [n]
  | a :: r, n => if n < a then n :: a :: r else a :: insR r n
def kin : Option Int → List Int → List Int
  | _, [] => []
  | p, a :: r => if p = some a then kin (some a) r else a :: kin (some a) r
def kinds (R : List Int) : List Int := kin none R
theorem keys_add (L : List Ct) (n : Int) : keys (addT L n) = addK (keys L) n := by
  induction L with
  | nil => rfl
  | cons c r ih =>
    obtain ⟨k, m⟩ := c
    show keys (if n < k then _ else _) = (if n < k then _ else _)
    split
    · rfl
    · split
      · rfl
      · show k :: keys (addT r n) = _
        rw [ih]
        rfl
def Ups (R : List Int) : Prop := R.Pairwise (· ≤ ·)
def Rise (K : List Int) : Prop := K.Pairwise (· < ·)
theorem mem_ins {R : List Int} {n x : Int} (h : x ∈ insR R n) : x = n ∨ x ∈ R := by
  induction R with
  | nil => simp [insR] at h; exact .inl h
  | cons a r ih =>
    unfold insR at h
    split at h
    · simp at h ⊢
      omega
    · rw [List.mem_cons] at h
      rcases h with rfl | h
      · exact .inr (by simp)
      · rcases ih h with h | h
        · exact .inl h
        · exact .inr (by simp [h])
theorem ups_ins {R : List Int} {n : Int} (h : Ups R) : Ups (insR R n) := by
  induction R with
  | nil => simp [insR, Ups]
  | cons a r ih =>
    unfold Ups at h ih
    rw [List.pairwise_cons] at h
    unfold insR
    split
    · rename_i hn
      unfold Ups
      rw [List.pairwise_cons, List.pairwise_cons]
      refine ⟨fun x hx => ?_, h⟩
      rw [List.mem_cons] at hx
      rcases hx with rfl | hx
      · omega
      · have := h.1 x hx
        omega
    · rename_i hn
      unfold Ups
      rw [List.pairwise_cons]
      refine ⟨fun x hx => ?_, ih h.2⟩
      rcases mem_ins hx with rfl | hx
      · omega
      · exact h.1 x hx
theorem kin_ins : ∀ (R : List Int) (p : Option Int) (n : Int), Ups R → (∀ q, p = some q → q ≤ n ∧ ∀ x ∈ R, q ≤ x) → kin p (insR R n) = if p = some n then kin p R else addK (kin p R) n
  | [], p, n, _, _ => by
    show kin p [n] = _
    unfold kin
    split <;> rfl
  | a :: r, p, n, h, hp => by
    unfold Ups at h
    rw [List.pairwise_cons] at h
    by_cases hn : n < a
    · have e : insR (a :: r) n = n :: a :: r := by simp [insR, hn]
      have hpa : ¬ p = some a := fun e => by
        have := (hp a e).1
        omega
      have e1 : kin p (a :: r) = a :: kin (some a) r := by simp [kin, hpa]
      have e2 : kin (some n) (a :: r) = a :: kin (some a) r := by
        have : ¬ n = a := by omega
        simp [kin, this]
      rw [e, e1]
      by_cases hpn : p = some n
      · rw [if_pos hpn]
        show (if p = some n then kin (some n) (a :: r) else n :: kin (some n) (a :: r)) = _
        rw [if_pos hpn, e2]
      · rw [if_neg hpn]
        show (if p = some n then kin (some n) (a :: r) else n :: kin (some n) (a :: r)) = _
        rw [if_neg hpn, e2]
        simp [addK, hn]
    · have e : insR (a :: r) n = a :: insR r n := by simp [insR, hn]
      have ih := kin_ins r (some a) n h.2 (fun q hq => by
        obtain rfl : a = q := by simpa using hq
        exact ⟨by omega, h.1⟩)
      rw [e]
      by_cases hpa : p = some a
      · have e1 : kin p (a :: insR r n) = kin (some a) (insR r n) := by simp [kin, hpa]
        have e2 : kin p (a :: r) = kin (some a) r := by simp [kin, hpa]
        rw [e1, e2, ih, hpa]
      · have e1 : kin p (a :: insR r n) = a :: kin (some a) (insR r n) := by simp [kin, hpa]
        have e2 : kin p (a :: r) = a :: kin (some a) r := by simp [kin, hpa]
        have hpn : ¬ p = some n := fun e3 => by
          have h1 := (hp n e3).2 a (by simp)
          have h2 : a = n := by omega
          exact hpa (by rw [e3, h2])
        rw [e1, e2, ih, if_neg hpn]
        by_cases han : a = n
        · subst han
          simp [addK]
        · have h3 : ¬ n = a := fun h => han h.symm
          have h4 : ¬ (some a : Option Int) = some n := by simpa using han
          rw [if_neg h4]
          simp [addK, hn, h3]
theorem kinds_ins {R : List Int} {n : Int} (h : Ups R) : kinds (insR R n) = addK (kinds R) n := by
  unfold kinds
  rw [kin_ins R none n h (fun q hq => by cases hq)]
  simp
theorem kin_snoc : ∀ (R : List Int) (p : Option Int) (x : Int), kin p (R ++ [x]) = kin p R ++ (if (R.getLast?.or p) = some x then [] else [x])
  | [], p, x => by
    have e : (([] : List Int).getLast?.or p) = p := by simp
    rw [e]
    show (if p = some x then kin (some x) [] else x :: kin (some x) []) = kin p [] ++ _
    by_cases h : p = some x
    · rw [if_pos h, if_pos h]; rfl
    · rw [if_neg h, if_neg h]; rfl
  | a :: r, p, x => by
    have ih := kin_snoc r (some a) x
    have e : (a :: r).getLast?.or p = r.getLast?.or (some a) := by
      cases r with
      | nil => simp
      | cons b r => simp [List.getLast?_cons]
    rw [e, List.cons_append]
    show (if p = some a then kin (some a) (r ++ [x]) else a :: kin (some a) (r ++ [x])) = (if p = some a then kin (some a) r else a :: kin (some a) r) ++ _
    rw [ih]
    split <;> simp
/-- The place of a number. -/
def Place (L : List Ct) (n : Int) (i : Nat) : Prop := i ≤ L.length ∧ (∀ (j : Nat) c, L[j]? = some c → j < i → c.1 < n) ∧ (∀ (j : Nat) c, L[j]? = some c → i ≤ j → n ≤ c.1)
theorem add_set : ∀ {L : List Ct} {n : Int} {i : Nat} {m : Int}, Place L n i → L[i]? = some (n, m) → addT L n = L.set i (n, m + 1)
  | [], n, i, m, _, h => by simp at h
  | (k, q) :: r, n, 0, m, _, h => by
    simp at h
    obtain ⟨rfl, rfl⟩ := h
    simp [addT]
  | (k, q) :: r, n, i + 1, m, hp, h => by
    have hk : k < n := hp.2.1 0 (k, q) rfl (by omega)
    have ih := add_set (L := r) (n := n) (i := i) (m := m) ⟨by have := hp.1; simp at this; omega, fun j c hj hl => hp.2.1 (j + 1) c (by simpa using hj) (by omega), fun j c hj hl => hp.2.2 (j + 1) c (by simpa using hj) (by omega)⟩ (by simpa using h)
    have h1 : ¬ n < k := by omega
    have h2 : ¬ n = k := by omega
    simp [addT, h1, h2, ih]
theorem add_put : ∀ {L : List Ct} {n : Int} {i : Nat}, Place L n i → (∀ m, L[i]? ≠ some (n, m)) → addT L n = L.take i ++ (n, 1) :: L.drop i
  | [], n, i, hp, _ => by
    obtain rfl : i = 0 := by have := hp.1; simpa using this
    rfl
  | (k, q) :: r, n, 0, hp, h => by
    have hk : n ≤ k := hp.2.2 0 (k, q) rfl (by omega)
    have hne : ¬ n = k := fun e => h q (by rw [e]; rfl)
    have h1 : n < k := by omega
    simp [addT, h1]
  | (k, q) :: r, n, i + 1, hp, h => by
    have hk : k < n := hp.2.1 0 (k, q) rfl (by omega)
    have ih := add_put (L := r) (n := n) (i := i) ⟨by have := hp.1; simp at this; omega, fun j c hj hl => hp.2.1 (j + 1) c (by simpa using hj) (by omega), fun j c hj hl => hp.2.2 (j + 1) c (by simpa using hj) (by omega)⟩ (fun m => by simpa using h m)
    have h1 : ¬ n < k := by omega
    have h2 : ¬ n = k := by omega
    simp [addT, h1, h2, ih]
theorem mem_addK {K : List Int} {n x : Int} (h : x ∈ addK K n) : x = n ∨ x ∈ K := by
  induction K with
  | nil => simp [addK] at h; exact .inl h
  | cons a r ih =>
    unfold addK at h
    split at h
    · simp at h ⊢
      omega
    · split at h
      · exact .inr h
      · rw [List.mem_cons] at h
        rcases h with rfl | h
        · exact .inr (by simp)
        · rcases ih h with h | h
          · exact .inl h
          · exact .inr (by simp [h])
theorem rise_addK {K : List Int} {n : Int} (h : Rise K) : Rise (addK K n) := by
  induction K with
  | nil => simp [addK, Rise]
  | cons a r ih =>
    unfold Rise at h ih
    rw [List.pairwise_cons] at h
    unfold addK
    split
    · unfold Rise
      rw [List.pairwise_cons, List.pairwise_cons]
      refine ⟨fun x hx => ?_, h⟩
      rw [List.mem_cons] at hx
      rcases hx with rfl | hx
      · omega
      · have := h.1 x hx
        omega
    · split
      · unfold Rise
        rw [List.pairwise_cons]
        exact h
      · unfold Rise
        rw [List.pairwise_cons]
        refine ⟨fun x hx => ?_, ih h.2⟩
        rcases mem_addK hx with rfl | hx
        · omega
        · exact h.1 x hx
theorem rise_lt {L : List Ct} (h : Rise (keys L)) {i j : Nat} {a b : Ct} (hi : L[i]? = some a) (hj : L[j]? = some b) (hij : i < j) : a.1 < b.1 := by
  unfold Rise keys at h
  rw [List.pairwise_iff_getElem] at h
  obtain ⟨h1, e1⟩ := List.getElem?_eq_some_iff.1 hi
  obtain ⟨h2, e2⟩ := List.getElem?_eq_some_iff.1 hj
  have h3 := h i j (by simpa using h1) (by simpa using h2) hij
  simp only [List.getElem_map] at h3
  rw [e1, e2] at h3
  exact h3
/-- Lists that are as they come out of numbers. -/
def TagOk (B : Nat) (L : List Ct) : Prop := Rise (keys L) ∧ L.length ≤ B ∧ ∀ c ∈ L, 1 ≤ c.2 ∧ c.2 ≤ B
theorem mem_addT {L : List Ct} {n : Int} {c : Ct} (h : c ∈ addT L n) : c = (n, 1) ∨ c ∈ L ∨ ∃ m, (n, m) ∈ L ∧ c = (n, m + 1) := by
  induction L with
  | nil => simp [addT] at h; exact .inl h
  | cons a r ih =>
    obtain ⟨k, m⟩ := a
    unfold addT at h
    split at h
    · rw [List.mem_cons] at h
      rcases h with rfl | h
      · exact .inl rfl
      · exact .inr (.inl h)
    · split at h
      · rename_i hk
        subst hk
        rw [List.mem_cons] at h
        rcases h with rfl | h
        · exact .inr (.inr ⟨m, by simp, rfl⟩)
        · exact .inr (.inl (by simp [h]))
      · rw [List.mem_cons] at h
        rcases h with rfl | h
        · exact .inr (.inl (by simp))
        · rcases ih h with h | h | ⟨q, hq, rfl⟩
          · exact .inl h
          · exact .inr (.inl (by simp [h]))
          · exact .inr (.inr ⟨q, by simp [hq], rfl⟩)
theorem len_addT (L : List Ct) (n : Int) : (addT L n).length ≤ L.length + 1 := by
  induction L with
  | nil => simp [addT]
  | cons a r ih =>
    obtain ⟨k, m⟩ := a
    unfold addT
    split
    · simp
    · split
      · simp
      · simp; omega
theorem TagOk.add {B : Nat} {L : List Ct} (h : TagOk B L) (n : Int) : TagOk (B + 1) (addT L n) := by
  refine ⟨by rw [keys_add]; exact rise_addK h.1, Nat.le_trans (len_addT L n) (by have := h.2.1; omega), fun c hc => ?_⟩
  rcases mem_addT hc with rfl | h1 | ⟨m, h1, rfl⟩
  · exact ⟨by show (1 : Int) ≤ 1; omega, by show (1 : Int) ≤ _; omega⟩
  · have := h.2.2 c h1
    exact ⟨this.1, by omega⟩
  · have h2 := h.2.2 _ h1
    simp only at h2
    refine ⟨?_, ?_⟩
    · show 1 ≤ m + 1
      omega
    · show m + 1 ≤ ((B + 1 : Nat) : Int)
      omega
def newT (l : List Int) : List Ct := l.foldl addT []
def newR (l : List Int) : List Int := l.foldl insR []
theorem newT_snoc (l : List Int) (n : Int) : newT (l ++ [n]) = addT (newT l) n := by simp [newT]
theorem newR_snoc (l : List Int) (n : Int) : newR (l ++ [n]) = insR (newR l) n := by simp [newR]
theorem take_snocI {l : List Int} {k : Nat} {x : Int} (h : l[k]? = some x) : l.take (k + 1) = l.take k ++ [x] := by rw [List.take_add_one, h]; rfl
theorem new_both (l : List Int) : Ups (newR l) ∧ kinds (newR l) = keys (newT l) := by
  have h : ∀ k, k ≤ l.length → Ups (newR (l.take k)) ∧ kinds (newR (l.take k)) = keys (newT (l.take k)) := by
    intro k
    induction k with
    | zero => exact fun _ => ⟨by simp [newR, Ups], rfl⟩
    | succ k ih =>
      intro hk
      obtain ⟨h1, h2⟩ := ih (by omega)
      obtain ⟨x, hx⟩ : ∃ x, l[k]? = some x := ⟨_, List.getElem?_eq_getElem (by omega)⟩
      rw [take_snocI hx, newR_snoc, newT_snoc]
      exact ⟨ups_ins h1, by rw [kinds_ins h1, keys_add, h2]⟩
  have := h l.length (Nat.le_refl _)
  rwa [List.take_length] at this
theorem newT_ok (l : List Int) : TagOk l.length (newT l) := by
  have h : ∀ k, k ≤ l.length → TagOk k (newT (l.take k)) := by
    intro k
    induction k with
    | zero => exact fun _ => ⟨by simp [newT, keys, Rise], by simp [newT], by simp [newT]⟩
    | succ k ih =>
      intro hk
      obtain ⟨x, hx⟩ : ∃ x, l[k]? = some x := ⟨_, List.getElem?_eq_getElem (by omega)⟩
      rw [take_snocI hx, newT_snoc]
      exact (ih (by omega)).add x
  have := h l.length (Nat.le_refl _)
  rwa [List.take_length] at this
end Go.Proofs.YtfgdichdddknlaaDoor
