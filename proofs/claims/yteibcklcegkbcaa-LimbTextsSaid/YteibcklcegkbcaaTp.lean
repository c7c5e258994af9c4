/-
  Plain laws: the Int of an Int's text is that Int. Conditions stand in each theorem.
-/
import Derived.Test.YteibcklcegkbcaaLm28
namespace Go.Proofs.Yteibcklcegkbcaa
open Go.RowKit Go.BigFrame

theorem strB_nums {l : List Int} (h : ∀ c ∈ l, 0 ≤ c ∧ c < 256) : strB (strOfNums l) = l := by
  unfold strB strOfNums
  simp only [List.toList_toArray, List.map_map]
  refine (List.map_congr_left fun c hc => ?_).trans (List.map_id l)
  obtain ⟨h1, h2⟩ := h c hc
  simp only [Function.comp, id]
  rw [UInt8.toNat_ofNat']
  omega
def digB (n : Nat) : List Int := (dec10 n).reverse.map fun d : Nat => 48 + (d : Int)
theorem rev_text (z : Int) : (revB z).reverse = (if ng z then [45] else []) ++ digB (ab z) := by
  unfold revB digB
  rw [List.reverse_append, List.map_reverse]
  cases ng z <;> simp
theorem dec10_dig (n : Nat) : ∀ d ∈ dec10 n, d < 10 := by
  intro d hd
  obtain ⟨k, hk⟩ : ∃ k, n < 10 ^ k := ⟨n, Nat.lt_pow_self (by decide)⟩
  exact dec10_lt k n hk d hd
theorem digB_dig (n : Nat) : ∀ c ∈ digB n, 48 ≤ c ∧ c ≤ 57 := by
  intro c hc
  unfold digB at hc
  obtain ⟨d, hd, rfl⟩ := List.mem_map.1 hc
  have := dec10_dig n d (List.mem_reverse.1 hd)
  omega
theorem decF_append (l : List Int) (c : Int) : ∀ m, decF m (l ++ [c]) = (decF m l).bind fun k => if k * 10 + (c - 48).toNat < 2 ^ 256 then some (k * 10 + (c - 48).toNat) else none := by
  induction l with
  | nil => intro m; simp [decF]
  | cons x l ih =>
    intro m
    simp only [List.cons_append, decF]
    by_cases h : m * 10 + (x - 48).toNat < 2 ^ 256
    · rw [if_pos h, if_pos h]; exact ih _
    · rw [if_neg h, if_neg h]; rfl
theorem digB_zero : digB 0 = [48] := by
  unfold digB
  rw [dec10_small (by decide)]
  rfl
theorem decF_digB : ∀ (k n : Nat), n < 10 ^ k → n < 2 ^ 256 → decF 0 (digB n) = some n
  | 0, n, h, _ => by
    obtain rfl : n = 0 := by simpa using h
    rw [digB_zero]
    rfl
  | k + 1, n, h, hn => by
    by_cases h1 : n < 10
    · unfold digB
      rw [dec10_small h1]
      simp only [List.reverse_cons, List.reverse_nil, List.nil_append, List.map_cons, List.map_nil, decF]
      have e : 0 * 10 + (48 + (n : Int) - 48).toNat = n := by omega
      rw [e, if_pos hn]
    · have h2 := decF_digB k (n / 10) (Nat.div_lt_of_lt_mul (by rw [Nat.mul_comm]; simpa [Nat.pow_succ] using h)) (Nat.lt_of_le_of_lt (Nat.div_le_self _ _) hn)
      have h3 : digB n = digB (n / 10) ++ [48 + ((n % 10 : Nat) : Int)] := by
        unfold digB
        rw [dec10_big h1]
        simp
      rw [h3, decF_append, h2]
      have e : n / 10 * 10 + (48 + ((n % 10 : Nat) : Int) - 48).toNat = n := by omega
      simp only [Option.bind_some]
      rw [e, if_pos hn]
theorem digB_ne (n : Nat) : digB n ≠ [] := by
  unfold digB
  by_cases h : n < 10
  · rw [dec10_small h]; simp
  · rw [dec10_big h]; simp
/-- The first digit is none but of nought. -/
theorem digB_head : ∀ (k n : Nat), n < 10 ^ k → n ≠ 0 → (digB n).head? ≠ some 48
  | 0, n, h, h0 => by
    exact absurd (by simpa using h) h0
  | k + 1, n, h, h0 => by
    by_cases h1 : n < 10
    · unfold digB
      rw [dec10_small h1]
      simp
      omega
    · have h3 : digB n = digB (n / 10) ++ [48 + ((n % 10 : Nat) : Int)] := by
        unfold digB
        rw [dec10_big h1]
        simp
      have h2 := digB_head k (n / 10) (Nat.div_lt_of_lt_mul (by rw [Nat.mul_comm]; simpa [Nat.pow_succ] using h)) (by omega)
      have hne := digB_ne (n / 10)
      rw [h3]
      cases hd : digB (n / 10) with
      | nil => exact absurd hd hne
      | cons x l =>
        rw [hd] at h2
        simpa using h2
theorem good_digB (s : Bool) (n : Nat) (hs : s = true → n ≠ 0) : goodD s (digB n) = true := by
  unfold goodD
  have h1 : (digB n).isEmpty = false := by
    cases h : digB n with
    | nil => exact absurd h (digB_ne n)
    | cons => rfl
  have h2 : (digB n).all isDig = true := by
    rw [List.all_eq_true]
    intro c hc
    have := digB_dig n c hc
    unfold isDig
    simp
    omega
  rw [h1, h2]
  by_cases h0 : n = 0
  · subst h0
    rw [digB_zero]
    cases s
    · rfl
    · exact absurd rfl (hs rfl)
  · obtain ⟨k, hk⟩ : ∃ k, n < 10 ^ k := ⟨n, Nat.lt_pow_self (by decide)⟩
    have h3 := digB_head k n hk h0
    simp [h3]
theorem parse_text (z : Int) (hz : ab z < 2 ^ 256) : (textZ z).size ≤ 1000000 ∧ parseV (strB (textZ z)) = z ∧ parseE (strB (textZ z)) = 0 := by
  have hb : ∀ c ∈ (revB z).reverse, 0 ≤ c ∧ c < 256 := by
    intro c hc
    rw [rev_text] at hc
    rcases List.mem_append.1 hc with h | h
    · cases hs : ng z <;> simp [hs] at h
      omega
    · have := digB_dig _ c h; omega
  have hS : strB (textZ z) = (if ng z then [45] else []) ++ digB (ab z) := by
    unfold textZ
    rw [strB_nums hb, rev_text]
  have hlen : (digB (ab z)).length ≤ 78 := by
    unfold digB
    simpa using dec10_len256 hz
  have hN : isNeg (strB (textZ z)) = ng z := by
    rw [hS]
    unfold isNeg
    cases hs : ng z
    · cases hd : digB (ab z) with
      | nil => exact absurd hd (digB_ne _)
      | cons x l =>
        have := digB_dig (ab z) x (by rw [hd]; simp)
        simp
        omega
    · rfl
  have hR : rest (strB (textZ z)) = digB (ab z) := by
    unfold rest
    rw [hN, hS]
    cases hs : ng z <;> simp
  have hG := good_digB (ng z) (ab z) (ng_zero_iff z)
  obtain ⟨k, hk⟩ : ∃ k, ab z < 10 ^ k := ⟨ab z, Nat.lt_pow_self (by decide)⟩
  have hD := decF_digB k (ab z) hk hz
  refine ⟨?_, ?_, ?_⟩
  · rw [← strB_length, hS, List.length_append]
    cases hs : ng z <;> simp <;> omega
  · unfold parseV
    rw [hN, hR, if_pos hG, hD]
    exact zof_ng_ab z
  · unfold parseE
    rw [hN, hR, if_pos hG, hD]
    rfl
end Go.Proofs.Yteibcklcegkbcaa
