/-
  Plain: digits, their number, and a number's text. Conditions stand in each theorem.
-/
import Derived.Test.YtbhfnfokihdjjaaGreatDoorPi2
namespace Go.Proofs.YtbhfnfokihdjjaaGreatDoor

/-- Is a byte a digit? -/
def digU (c : UInt8) : Bool := decide (48 ≤ c.toNat) && decide (c.toNat ≤ 57)
/-- The number of digits. -/
def valU (l : List UInt8) : Nat := l.foldl (fun m c => 10 * m + (c.toNat - 48)) 0
theorem valU_snoc (l : List UInt8) (c : UInt8) : valU (l ++ [c]) = 10 * valU l + (c.toNat - 48) := by
  unfold valU
  rw [List.foldl_append]
  rfl
theorem digU_range {c : UInt8} (h : digU c = true) : 48 ≤ c.toNat ∧ c.toNat ≤ 57 := by
  unfold digU at h
  simpa using h
theorem rev_ind {P : List UInt8 → Prop} (h0 : P []) (h1 : ∀ l c, P l → P (l ++ [c])) (l : List UInt8) : P l := by
  have h : ∀ l : List UInt8, P l.reverse := by
    intro l
    induction l with
    | nil => exact h0
    | cons c l ih =>
      rw [List.reverse_cons]
      exact h1 _ _ ih
  have := h l.reverse
  rwa [List.reverse_reverse] at this
theorem valU_lt (l : List UInt8) : l.all digU = true → valU l < 10 ^ l.length := by
  refine rev_ind (P := fun l => l.all digU = true → valU l < 10 ^ l.length) ?_ ?_ l
  · intro _
    decide
  · intro l c ih h
    rw [List.all_append, Bool.and_eq_true] at h
    have h1 := ih h.1
    have h2 : digU c = true := by simpa using h.2
    have h3 := digU_range h2
    rw [valU_snoc, List.length_append, List.length_singleton, Nat.pow_succ]
    omega
theorem byte_of (c : UInt8) (h : digU c = true) : UInt8.ofNat (48 + (c.toNat - 48)) = c := by
  have h1 := digU_range h
  apply UInt8.toNat_inj.1
  rw [UInt8.toNat_ofNat']
  omega
/-- Digits that do not begin with a nought too many are their number's text. -/
theorem dec_valU (l : List UInt8) : l.all digU = true → l ≠ [] → (l.head? ≠ some 48 ∨ l.length = 1) → Lib.decDigits (valU l) = l ∧ (l.head? ≠ some 48 → 0 < valU l) := by
  refine rev_ind (P := fun l => l.all digU = true → l ≠ [] → (l.head? ≠ some 48 ∨ l.length = 1) → Lib.decDigits (valU l) = l ∧ (l.head? ≠ some 48 → 0 < valU l)) ?_ ?_ l
  · intro _ h
    exact absurd rfl h
  · intro l c ih h hne h0
    rw [List.all_append, Bool.and_eq_true] at h
    have h2 : digU c = true := by simpa using h.2
    have h3 := digU_range h2
    rw [valU_snoc]
    by_cases hl : l = []
    · subst hl
      have e : 10 * valU [] + (c.toNat - 48) = c.toNat - 48 := by
        show 10 * 0 + (c.toNat - 48) = _
        omega
      rw [e, Lib.decDigits, dif_pos (by omega), byte_of c h2]
      refine ⟨rfl, fun hh => ?_⟩
      have h4 : c ≠ 48 := fun e => hh (by rw [e]; rfl)
      have h5 : c.toNat ≠ 48 := fun e => h4 (UInt8.toNat_inj.1 (by rw [e]; rfl))
      omega
    · have hh : (l ++ [c]).head? = l.head? := by
        cases l with
        | nil => exact absurd rfl hl
        | cons a l => rfl
      have h48 : l.head? ≠ some 48 := by
        rcases h0 with h0 | h0
        · rw [hh] at h0
          exact h0
        · rw [List.length_append, List.length_singleton] at h0
          have : l.length = 0 := by omega
          exact absurd (List.eq_nil_of_length_eq_zero this) hl
      obtain ⟨i1, i2⟩ := ih h.1 hl (.inl h48)
      have i3 := i2 h48
      refine ⟨?_, fun _ => by omega⟩
      rw [Lib.decDigits, dif_neg (by omega), show (10 * valU l + (c.toNat - 48)) / 10 = valU l by omega, show (10 * valU l + (c.toNat - 48)) % 10 = c.toNat - 48 by omega, i1, byte_of c h2]
theorem dec_all (u : Nat) : (Lib.decDigits u).all digU = true := by
  rw [List.all_eq_true]
  intro c hc
  have := dec_byte u c hc
  unfold digU
  simpa using this
theorem valU_dec (u : Nat) : valU (Lib.decDigits u) = u := by
  induction u using Nat.strongRecOn with
  | _ u ih =>
    by_cases h : u < 10
    · rw [Lib.decDigits, dif_pos h]
      show 10 * 0 + ((UInt8.ofNat (48 + u)).toNat - 48) = u
      rw [digit_byte u h]
      omega
    · rw [Lib.decDigits, dif_neg h, valU_snoc, ih (u / 10) (by omega), digit_byte (u % 10) (by omega)]
      omega
theorem dec_head (u : Nat) : (Lib.decDigits u).head? ≠ some 48 ∨ (Lib.decDigits u).length = 1 := by
  induction u using Nat.strongRecOn with
  | _ u ih =>
    by_cases h : u < 10
    · rw [Lib.decDigits, dif_pos h]
      exact .inr rfl
    · left
      by_cases h2 : u / 10 < 10
      · rw [Lib.decDigits, dif_neg h, Lib.decDigits, dif_pos h2]
        show some (UInt8.ofNat (48 + u / 10)) ≠ some 48
        intro e
        have e2 := congrArg UInt8.toNat (Option.some.inj e)
        rw [digit_byte (u / 10) h2] at e2
        have : (48 : UInt8).toNat = 48 := by decide
        omega
      · have := ih (u / 10) (by omega)
        rw [Lib.decDigits, dif_neg h]
        have hne := dec_ne (u / 10)
        cases hd : Lib.decDigits (u / 10) with
        | nil => exact absurd hd hne
        | cons a l =>
          rw [hd] at this
          rcases this with h3 | h3
          · exact h3
          · exfalso
            have h4 := valU_lt (a :: l) (by rw [← hd]; exact dec_all _)
            rw [← hd, valU_dec, hd, h3] at h4
            omega
theorem dec_len {u k : Nat} (hk : 0 < k) (h : u < 10 ^ k) : (Lib.decDigits u).length ≤ k := by
  induction k generalizing u with
  | zero => omega
  | succ k ih =>
    by_cases h2 : u < 10
    · rw [Lib.decDigits, dif_pos h2]
      simp
    · rw [Lib.decDigits, dif_neg h2, List.length_append, List.length_singleton]
      have hk2 : 0 < k := by
        rcases Nat.eq_zero_or_pos k with rfl | h3
        · simp at h
          omega
        · exact h3
      have h5 : u / 10 < 10 ^ k := by
        rw [Nat.pow_succ] at h
        omega
      have := ih hk2 h5
      omega
/-- A byte of a text. -/
def bt (s : ByteArray) (k : Nat) : Int := ((s.data.toList.getD k 0).toNat : Int)
theorem get_bt (s : ByteArray) (k : Nat) (h : k < s.size) : ((s[k]'h).toNat : Int) = bt s k := by
  unfold bt
  have h1 : k < s.data.toList.length := by simpa using h
  rw [List.getD_eq_getElem?_getD, List.getElem?_eq_getElem h1]
  rfl
theorem bt_range (s : ByteArray) (k : Nat) : 0 ≤ bt s k ∧ bt s k < 256 := by
  unfold bt
  have := UInt8.toNat_lt (s.data.toList.getD k 0)
  omega
theorem size_list (s : ByteArray) : s.data.toList.length = s.size := by simp
end Go.Proofs.YtbhfnfokihdjjaaGreatDoor
