/-
  Texts parted by one byte, and put together again. Plain lists of bytes. Conditions stand in each theorem.
-/
import Derived.Lib.Join
import Derived.Lib.Split
import Derived.Lib.SplitLaws
import Derived.Test.YtfchmikbebdflaaGreatDoorTy8
namespace Go.Proofs.YtfchmikbebdflaaGreatDoor

abbrev Bs := List UInt8
theorem join_two (c : UInt8) (p q : Bs) (r : List Bs) : Lib.join (p :: q :: r) [c] = p ++ c :: Lib.join (q :: r) [c] := by
  rw [Lib.join_cons, Lib.join_cons]
  simp [Lib.joinTail]
/-- A text, parted at each byte c. -/
def splitC (c : UInt8) : Bs → List Bs
  | [] => [[]]
  | a :: l => if a = c then [] :: splitC c l else match splitC c l with
    | [] => [[a]]
    | p :: ps => (a :: p) :: ps
theorem splitC_ne (c : UInt8) (l : Bs) : splitC c l ≠ [] := by
  cases l with
  | nil => simp [splitC]
  | cons a l =>
    simp only [splitC]
    split
    · simp
    · split <;> simp
theorem splitC_no (c : UInt8) : ∀ l : Bs, c ∉ l → splitC c l = [l]
  | [], _ => rfl
  | a :: l, h => by
    have h1 : a ≠ c := fun e => h (by simp [e])
    have h2 : c ∉ l := fun e => h (by simp [e])
    simp [splitC, h1, splitC_no c l h2]
theorem splitC_at (c : UInt8) : ∀ l r : Bs, c ∉ l → splitC c (l ++ c :: r) = l :: splitC c r
  | [], r, _ => by simp [splitC]
  | a :: l, r, h => by
    have h1 : a ≠ c := fun e => h (by simp [e])
    have h2 : c ∉ l := fun e => h (by simp [e])
    simp [splitC, h1, splitC_at c l r h2]
theorem first_of {c : UInt8} : ∀ {l : Bs}, c ∈ l → ∃ a b, l = a ++ c :: b ∧ c ∉ a
  | x :: l, h => by
    by_cases hx : x = c
    · exact ⟨[], l, by simp [hx], by simp⟩
    · obtain ⟨a, b, rfl, hn⟩ := first_of (l := l) (by simpa [Ne.symm hx] using h)
      exact ⟨x :: a, b, by simp, by simp [Ne.symm hx, hn]⟩
theorem join_split (c : UInt8) (l : Bs) : Lib.join (splitC c l) [c] = l := by
  induction h : l.length using Nat.strongRecOn generalizing l with
  | _ n ih =>
    by_cases hm : c ∈ l
    · obtain ⟨a, b, rfl, hn⟩ := first_of hm
      have e := ih b.length (by rw [← h]; simp; omega) b rfl
      rw [splitC_at c a b hn]
      cases hs : splitC c b with
      | nil => exact absurd hs (splitC_ne c b)
      | cons p ps => rw [join_two, ← hs, e]
    · rw [splitC_no c l hm, Lib.join_one]
theorem split_join (c : UInt8) : ∀ ps : List Bs, ps ≠ [] → (∀ p ∈ ps, c ∉ p) → splitC c (Lib.join ps [c]) = ps
  | [p], _, h => by rw [Lib.join_one, splitC_no c p (h p (by simp))]
  | p :: q :: r, _, h => by
    rw [join_two, splitC_at c p _ (h p (by simp)), split_join c (q :: r) (by simp) fun x hx => h x (by simp [hx])]
theorem splitC_free (c : UInt8) (l : Bs) : ∀ p ∈ splitC c l, c ∉ p := by
  induction h : l.length using Nat.strongRecOn generalizing l with
  | _ n ih =>
    by_cases hm : c ∈ l
    · obtain ⟨a, b, rfl, hn⟩ := first_of hm
      rw [splitC_at c a b hn]
      intro p hp
      rcases List.mem_cons.1 hp with rfl | hp
      · exact hn
      · exact ih b.length (by rw [← h]; simp; omega) b rfl p hp
    · rw [splitC_no c l hm]
      intro p hp
      rw [List.mem_singleton.1 hp]
      exact hm
theorem splitK_list (c : UInt8) (l : Bs) : ∀ k, Lib.count l [c] = k → Lib.splitK [c] 0 k l = splitC c l := by
  induction h : l.length using Nat.strongRecOn generalizing l with
  | _ n ih =>
    intro k hk
    by_cases hm : c ∈ l
    · obtain ⟨a, b, rfl, hn⟩ := first_of hm
      have hi : Lib.index (a ++ c :: b) [c] = (a.length : Nat) := index_at c a b hn
      have hcn := Lib.count_hit (s := a ++ c :: b) (sub := [c]) (by simp) hi
      have hd : (a ++ c :: b).drop (a.length + [c].length) = b := by simp
      rw [hd] at hcn
      subst hk
      rw [hcn, Nat.add_comm 1, Lib.splitK, hi, if_neg (by simp)]
      have e1 : ((a.length : Nat) : Int).toNat = a.length := by omega
      rw [e1, hd, Nat.add_zero, splitC_at c a b hn]
      rw [ih b.length (by rw [← h]; simp; omega) b rfl _ rfl]
      simp
    · rw [splitC_no c l hm]
      cases k with
      | zero => rfl
      | succ k => rw [Lib.splitK, index_none c l hm]; rfl
/-- What strings.Split tells, as lists of bytes. -/
theorem splitB_list (c : UInt8) (s : ByteArray) : (Lib.splitB ⟨#[c]⟩ 0 (Lib.countB s ⟨#[c]⟩) s).map (·.data.toList) = splitC c s.data.toList := by
  rw [Lib.splitB_data]
  exact splitK_list c _ _ rfl
/-- What stands ahead of the first byte c, and behind it. -/
def cutC (c : UInt8) : Bs → Option (Bs × Bs)
  | [] => none
  | a :: l => if a = c then some ([], l) else (cutC c l).map fun p => (a :: p.1, p.2)
theorem cutC_no {c : UInt8} : ∀ {l : Bs}, c ∉ l → cutC c l = none
  | [], _ => rfl
  | a :: l, h => by
    have h1 : a ≠ c := fun e => h (by simp [e])
    have h2 : c ∉ l := fun e => h (by simp [e])
    simp [cutC, h1, cutC_no h2]
theorem cutC_at {c : UInt8} : ∀ {l r : Bs}, c ∉ l → cutC c (l ++ c :: r) = some (l, r)
  | [], r, _ => by simp [cutC]
  | a :: l, r, h => by
    have h1 : a ≠ c := fun e => h (by simp [e])
    have h2 : c ∉ l := fun e => h (by simp [e])
    simp [cutC, h1, cutC_at h2]
theorem cutC_some {c : UInt8} {l a b : Bs} (h : cutC c l = some (a, b)) : l = a ++ c :: b ∧ c ∉ a := by
  by_cases hm : c ∈ l
  · obtain ⟨x, y, rfl, hn⟩ := first_of hm
    rw [cutC_at hn] at h
    obtain ⟨rfl, rfl⟩ : x = a ∧ y = b := by simpa using h
    exact ⟨rfl, hn⟩
  · rw [cutC_no hm] at h
    cases h
theorem cutC_none {c : UInt8} {l : Bs} (h : cutC c l = none) : c ∉ l := fun hm => by
  obtain ⟨x, y, rfl, hn⟩ := first_of hm
  rw [cutC_at hn] at h
  cases h
/-- What is behind a beginning. -/
def behind : Bs → Bs → Option Bs
  | [], l => some l
  | _ :: _, [] => none
  | a :: p, b :: l => if a = b then behind p l else none
theorem behind_self (p l : Bs) : behind p (p ++ l) = some l := by
  induction p with
  | nil => rfl
  | cons a p ih => simp [behind, ih]
theorem behind_some : ∀ {p l r : Bs}, behind p l = some r → l = p ++ r
  | [], l, r, h => by simpa [behind] using h
  | _ :: _, [], r, h => by simp [behind] at h
  | a :: p, b :: l, r, h => by
    simp only [behind] at h
    split at h
    · rename_i e
      rw [e, behind_some h]
      rfl
    · cases h
end Go.Proofs.YtfchmikbebdflaaGreatDoor
