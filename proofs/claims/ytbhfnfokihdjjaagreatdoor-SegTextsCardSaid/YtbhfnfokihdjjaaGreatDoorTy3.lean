/-
  The reference number: of any text, by what it tells. Conditions stand in each theorem.
-/
import Derived.Test.YtbhfnfokihdjjaaGreatDoorTy2
namespace Go.Proofs.YtbhfnfokihdjjaaGreatDoor
open Go.RowKit Go.BigFrame

theorem itS_of {s : ByteArray} {n : Int} (h : s.data.toList = Lib.itoa n) : s = itS n := by
  apply ByteArray.ext
  apply Array.ext'
  rw [h]
  rfl
theorem itS_inj {m n : Int} (hm : -9223372036854775808 ≤ m ∧ m ≤ 9223372036854775807) (hn : -9223372036854775808 ≤ n ∧ n ≤ 9223372036854775807) (h : itS m = itS n) : m = n := by
  have h1 := parse_itoa m hm.1 hm.2
  have h2 := parse_itoa n hn.1 hn.2
  have h3 : Lib.itoa m = Lib.itoa n := by
    have := congrArg (fun b : ByteArray => b.data.toList) h
    simpa [itS_list] using this
  rw [h3, h2] at h1
  injection h1 with h4
  exact h4.symm
theorem goodU_parts {neg : Bool} {d : List UInt8} (h : goodU neg d = true) : d ≠ [] ∧ d.length ≤ 9 ∧ (d.head? ≠ some 48 ∨ d.length = 1 ∧ neg = false) ∧ d.all digU = true := by
  unfold goodU at h
  simp only [Bool.and_eq_true, Bool.or_eq_true, Bool.not_eq_true', decide_eq_true_eq, bne_iff_ne, beq_iff_eq, List.isEmpty_eq_false_iff] at h
  obtain ⟨h1, h2, h3, h4⟩ := h
  exact ⟨h1, h2, h3, h4⟩
theorem goodU_of {neg : Bool} {d : List UInt8} (h1 : d ≠ []) (h2 : d.length ≤ 9) (h3 : d.head? ≠ some 48 ∨ d.length = 1 ∧ neg = false) (h4 : d.all digU = true) : goodU neg d = true := by
  unfold goodU
  simp only [Bool.and_eq_true, Bool.or_eq_true, Bool.not_eq_true', decide_eq_true_eq, bne_iff_ne, beq_iff_eq, List.isEmpty_eq_false_iff]
  exact ⟨h1, h2, h3, h4⟩
theorem val_bound {d : List UInt8} (h : d.all digU = true) (hl : d.length ≤ 9) : valU d ≤ 999999999 := by
  have h1 := valU_lt d h
  have h2 : (10 : Nat) ^ d.length ≤ 10 ^ 9 := Nat.pow_le_pow_right (by decide) hl
  omega
theorem dec_pos_head {u : Nat} (h : 0 < u) : (Lib.decDigits u).head? ≠ some 48 := by
  rcases dec_head u with h1 | h1
  · exact h1
  · intro h2
    match hd : Lib.decDigits u, h1, h2 with
    | [c], _, h2 =>
      have h3 : c = 48 := by simpa using h2
      have h4 := valU_dec u
      rw [hd, h3] at h4
      have h5 : valU [48] = 0 := by decide
      omega
theorem first_not {u : Nat} {s : ByteArray} (h : s.data.toList = Lib.decDigits u) : 0 < s.size ∧ bt s 0 ≠ 45 := by
  have hne := dec_ne u
  have hb := dec_byte u
  have hl := size_list s
  unfold bt
  rw [h] at hl ⊢
  cases hd : Lib.decDigits u with
  | nil => exact absurd hd hne
  | cons c r =>
    rw [hd] at hl hb
    have := hb c (by simp)
    refine ⟨by rw [← hl]; simp, ?_⟩
    show ((c.toNat : Nat) : Int) ≠ 45
    omega
theorem drop_list (s : ByteArray) : (s.extract 1 s.size).data.toList = s.data.toList.drop 1 := by
  rw [ByteArray.data_extract]
  simp
  exact List.take_of_length_le (by simp)
/-- The reference number, of any text. -/
theorem rnumber_ex (s : ByteArray) (hsz : s.size ≤ 100) :
    ∃ (n : Int) (b : Bool), (b = true → s = itS n ∧ -999999999 ≤ n ∧ n ≤ 999999999) ∧ (∀ n' : Int, -67108864 ≤ n' ∧ n' ≤ 67108864 → s = itS n' → b = true) ∧
    ∀ w : World, Calls Tryz.prog 97 #[.string s] w fun e w' => e = .returned (.tuple #[.int .i64 n, .bool b]) ∧ w' = w := by
  by_cases h0 : s.size = 0
  · refine ⟨_, _, fun hb => ?_, fun n' _ hs => ?_, fun w => number_none s h0 hsz w⟩
    · have := (goodU_parts hb).1
      exact absurd (List.eq_nil_of_length_eq_zero (by rw [size_list]; exact h0)) this
    · exfalso
      have h1 : Lib.itoa n' = [] := by
        rw [← itS_list, ← hs]
        exact List.eq_nil_of_length_eq_zero (by rw [size_list]; exact h0)
      unfold Lib.itoa at h1
      split at h1
      · cases h1
      · exact dec_ne _ h1
  have h0' : 0 < s.size := by omega
  by_cases h45 : bt s 0 = 45
  · have hl : ∃ d, s.data.toList = 45 :: d := by
      have h1 := size_list s
      unfold bt at h45
      cases hd : s.data.toList with
      | nil => rw [hd] at h1; simp at h1; omega
      | cons c r =>
        rw [hd] at h45
        have h2 : ((c.toNat : Nat) : Int) = 45 := h45
        have h3 : c = 45 := by
          apply UInt8.toNat_inj.1
          have : (45 : UInt8).toNat = 45 := by decide
          omega
        exact ⟨r, by rw [h3]⟩
    obtain ⟨d, hd⟩ := hl
    have hD : (s.extract 1 s.size).data.toList = d := by rw [drop_list, hd]; rfl
    refine ⟨_, _, fun hb => ?_, fun n' hn hs => ?_, fun w => number_neg s _ h0' h45 rfl hsz w⟩
    · rw [hD] at hb ⊢
      obtain ⟨g1, g2, g3, g4⟩ := goodU_parts hb
      have g5 : d.head? ≠ some 48 := by
        rcases g3 with g | ⟨_, g⟩
        · exact g
        · cases g
      obtain ⟨e1, e2⟩ := dec_valU d g4 g1 (.inl g5)
      have e3 := e2 g5
      have e4 := val_bound g4 g2
      have e5 : valS true d = -(valU d : Int) := by unfold valS; rw [hb]; rfl
      rw [e5]
      refine ⟨itS_of ?_, by omega, by omega⟩
      rw [hd, Lib.itoa, if_pos (by omega), show (-(valU d : Int)).natAbs = valU d by omega, e1]
    · rw [hD]
      have h1 : (45 :: d : List UInt8) = Lib.itoa n' := by rw [← hd, hs]; rfl
      by_cases hneg : n' < 0
      · rw [Lib.itoa, if_pos hneg] at h1
        obtain rfl : d = Lib.decDigits n'.natAbs := (List.cons.inj h1).2
        exact goodU_of (dec_ne _) (dec_len (by decide) (by omega)) (.inl (dec_pos_head (by omega))) (dec_all _)
      · exfalso
        rw [Lib.itoa, if_neg hneg] at h1
        have := dec_byte n'.toNat 45 (by rw [← h1]; simp)
        have h2 : (45 : UInt8).toNat = 45 := by decide
        omega
  · refine ⟨_, _, fun hb => ?_, fun n' hn hs => ?_, fun w => number_plain s h0' h45 hsz w⟩
    · obtain ⟨g1, g2, g3, g4⟩ := goodU_parts hb
      have g6 : s.data.toList.head? ≠ some 48 ∨ s.data.toList.length = 1 := by
        rcases g3 with g | ⟨g, _⟩
        · exact .inl g
        · exact .inr g
      obtain ⟨e1, _⟩ := dec_valU _ g4 g1 g6
      have e4 := val_bound g4 g2
      have e5 : valS false s.data.toList = (valU s.data.toList : Int) := by unfold valS; rw [hb]; rfl
      rw [e5]
      refine ⟨itS_of ?_, by omega, by omega⟩
      rw [Lib.itoa, if_neg (by omega), Int.toNat_natCast, e1]
    · have h1 : s.data.toList = Lib.itoa n' := by rw [hs]; rfl
      by_cases hneg : n' < 0
      · exfalso
        rw [Lib.itoa, if_pos hneg] at h1
        apply h45
        unfold bt
        rw [h1]
        rfl
      · rw [Lib.itoa, if_neg hneg] at h1
        rw [h1]
        exact goodU_of (dec_ne _) (dec_len (by decide) (by omega)) (by
          rcases dec_head n'.toNat with h2 | h2
          · exact .inl h2
          · exact .inr ⟨h2, rfl⟩) (dec_all _)
end Go.Proofs.YtbhfnfokihdjjaaGreatDoor
