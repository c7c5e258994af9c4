/-
  Walks of the references: Parse. Conditions stand in each theorem.
-/
import Derived.Test.YteibcklcegkbcaaRt1
namespace Go.Proofs.Yteibcklcegkbcaa
open Go.RowKit Go.BigFrame

/-- The value of digits behind a number. -/
def dval (m : Nat) : List Int → Nat
  | [] => m
  | c :: cs => dval (m * 10 + (c - 48).toNat) cs
theorem dval_le : ∀ (d : List Int) (m : Nat), m * 10 ^ d.length ≤ dval m d
  | [], m => by simp [dval]
  | c :: cs, m => by
    refine Nat.le_trans ?_ (dval_le cs _)
    rw [List.length_cons, Nat.pow_succ, Nat.mul_comm (10 ^ cs.length) 10, ← Nat.mul_assoc]
    exact Nat.mul_le_mul_right _ (by omega)
theorem dval_ge (d : List Int) (m : Nat) : m ≤ dval m d := Nat.le_trans (Nat.le_mul_of_pos_right _ (Nat.pow_pos (by decide))) (dval_le d m)
theorem decF_dval : ∀ (d : List Int) (m : Nat), m < 2 ^ 256 → decF m d = if dval m d < 2 ^ 256 then some (dval m d) else none
  | [], m, h => (if_pos h).symm
  | c :: cs, m, h => by
    by_cases h1 : m * 10 + (c - 48).toNat < 2 ^ 256
    · exact (if_pos h1).trans (decF_dval cs _ h1)
    · exact (if_neg h1).trans (if_neg (fun h2 : dval (m * 10 + (c - 48).toNat) cs < 2 ^ 256 => h1 (Nat.lt_of_le_of_lt (dval_ge cs _) h2))).symm
theorem dval_append (d : List Int) (c : Int) : ∀ m, dval m (d ++ [c]) = dval m d * 10 + (c - 48).toNat := by
  induction d with
  | nil => intro m; rfl
  | cons x d ih => intro m; simp only [List.cons_append, dval]; exact ih _
theorem str_get (l : List Int) (hl : ∀ c ∈ l, 0 ≤ c ∧ c < 256) (i : Nat) (h : i < (strOfNums l).size) : (((strOfNums l)[i]'h).toNat : Int) = l.getD i 0 := by
  have h1 : i < l.length := by rw [strOfNums_size] at h; exact h
  obtain ⟨h2, h3⟩ := hl l[i] (List.getElem_mem h1)
  rw [List.getD_eq_getElem?_getD, List.getElem?_eq_getElem h1]
  show ((((strOfNums l).data[i]).toNat : Nat) : Int) = l[i]
  simp only [strOfNums, List.getElem_toArray, List.getElem_map, UInt8.toNat_ofNat']
  omega
theorem all_false {d : List Int} {k : Nat} {c : Int} (h : d[k]? = some c) (hc : isDig c = false) : d.all isDig = false := by
  cases h1 : d.all isDig
  · rfl
  · rw [List.all_eq_true] at h1
    rw [h1 c (List.mem_of_getElem? h)] at hc
    cases hc
theorem many_digits {x : Int} {xs : List Int} (ha : (x :: xs).all isDig = true) (hl : x ≠ 48 ∨ xs.length = 0) (h : xs.length + 1 > 100) : ¬ dval 0 (x :: xs) < 2 ^ 256 := by
  have hx : x ≠ 48 := by
    rcases hl with h1 | h1
    · exact h1
    · omega
  have h1 : isDig x = true := by
    rw [List.all_cons, Bool.and_eq_true] at ha
    exact ha.1
  unfold isDig at h1
  simp only [Bool.and_eq_true, decide_eq_true_eq] at h1
  have h2 := dval_le xs (0 * 10 + (x - 48).toNat)
  have h3 : 1 * 10 ^ xs.length ≤ (0 * 10 + (x - 48).toNat) * 10 ^ xs.length := Nat.mul_le_mul_right _ (by omega)
  have h4 : 10 ^ 100 ≤ 10 ^ xs.length := Nat.pow_le_pow_right (by decide) (by omega)
  have h5 : (2 : Nat) ^ 256 < 10 ^ 100 := by decide
  show ¬ dval (0 * 10 + (x - 48).toNat) xs < 2 ^ 256
  omega
theorem nat_zero (W : World) : NatIn (W.alloc (.cells #[.bool false, .slice none 0 0] 38)) W.heap.size 0 :=
  ⟨none, 0, by rw [dd_zero]; exact heap_new _ _, by rw [dd_zero]; exact Nat.le_refl _, by rw [dd_zero]; exact ⟨by simp, fun h => by simp at h⟩⟩
theorem dig_range {d : List Int} (h : d.all isDig = true) {c : Int} (hc : c ∈ d) : 48 ≤ c ∧ c ≤ 57 := by
  have h1 := (List.all_eq_true.1 h) c hc
  unfold isDig at h1
  simpa using h1
theorem all_take {d : List Int} (h : d.all isDig = true) (k : Nat) : (d.take k).all isDig = true :=
  List.all_eq_true.2 fun c hc => (List.all_eq_true.1 h) c (List.mem_of_mem_take hc)
theorem dval_lt : ∀ (d : List Int) (m : Nat), d.all isDig = true → dval m d < (m + 1) * 10 ^ d.length
  | [], m, _ => by simp [dval]
  | c :: cs, m, h => by
    obtain ⟨h1, h2⟩ := dig_range h (List.mem_cons_self ..)
    rw [List.all_cons, Bool.and_eq_true] at h
    refine Nat.lt_of_lt_of_le (dval_lt cs _ h.2) ?_
    rw [List.length_cons, Nat.pow_succ, Nat.mul_comm (10 ^ cs.length) 10, ← Nat.mul_assoc]
    exact Nat.mul_le_mul_right _ (by omega)
theorem num_len {N k : Nat} (h : N < (0 + 1) * 10 ^ k) (hk : k ≤ 100) : (dd (ab (N : Int))).length ≤ 1000 ∧ (dd (ab ((N : Int) * 10))).length ≤ 1000 := by
  have h1 : 10 ^ k ≤ 10 ^ 100 := Nat.pow_le_pow_right (by decide) hk
  have h2 : (10 : Nat) ^ 100 * 10 < 65536 ^ 22 := by decide
  have e : ab ((N : Int) * 10) = N * 10 := by unfold ab; omega
  rw [ab_nat, e]
  exact ⟨Nat.le_trans ((dd_len 22 _).2 (by omega)) (by omega), Nat.le_trans ((dd_len 22 _).2 (by omega)) (by omega)⟩
theorem ten_len : (dd (ab 10)).length ≤ 1000 := Nat.le_trans ((dd_len 1 _).2 (by decide)) (by omega)
theorem small_len {z : Int} (h1 : 0 ≤ z) (h2 : z ≤ 9) : (dd (ab z)).length ≤ 1000 := Nat.le_trans ((dd_len 1 _).2 (by unfold ab; omega)) (by omega)
theorem wrap_dig {c : Int} (h1 : 48 ≤ c) (h2 : c ≤ 57) : IntKind.i64.wrap (IntKind.u8.wrap (c - 48)) = c - 48 := by
  rw [show IntKind.u8.wrap (c - 48) = c - 48 by rw [IntKind.wrap_u8]; omega, IntKind.wrap_i64]
  omega
theorem rnum_dig (z c : Int) (h1 : 48 ≤ c) (h2 : c ≤ 57) (hz : z = c - 48) (w : World) :
    Calls Try.prog 30 #[.int .i64 z] w fun e w' => ∃ v, e = .returned v ∧ BigAt w' v (c - 48) ∧ Below w.heap.size w w' := by
  subst hz
  exact rnum_any (c - 48) (by omega) (by omega) w
theorem goodD_eq (neg : Bool) (x : Int) (xs : List Int) : goodD neg (x :: xs) = (((x != 48) || (xs.length == 0 && !neg)) && (x :: xs).all isDig) := by
  unfold goodD
  have h1 : ((x :: xs).head? != some 48) = (x != 48) := rfl
  rw [h1]
  cases xs <;> rfl
set_option maxRecDepth 20000 in
set_option maxHeartbeats 4000000 in
theorem rparse_nil (w : World) :
    Calls Try.prog 22 #[.string (strOfNums [])] w fun e w' => ∃ v, e = .returned (.tuple #[v, .int .i64 (parseE [])]) ∧ BigAt w' v (parseV []) ∧ Below w.heap.size w w' := by
  have HV : Hd (parseV [] = 0) := ⟨by decide⟩
  have HE : Hd (parseE [] = 111) := ⟨by decide⟩
  have hsz : (strOfNums []).size = 0 := strOfNums_size _
  have hemp : (strOfNums []).toList.isEmpty = true := by rw [ByteArray.toList_eq, strOfNums_data]; rfl
  go_enter Try.func22, Try.ntmps22
  go_wp2
  refine abs_post (fun W => W.heap[w.heap.size]? = some (.cells #[.bool false, .slice none 0 0] 38 (0, 0)) ∧ Below w.heap.size w W) ?_ fun W ⟨k1, hB⟩ => ?_
  · first | exact ⟨heap_new _ _, by focus (repeat (first | (with_reducible exact Below.refl _ _) | (with_reducible assumption) | ((with_reducible refine Below.setCell ?_ ?_ _); rotate_left; (focus (first | omega | (simp; done) | (simp; omega)))) | ((with_reducible refine Below.alloc ?_ ?_ _); rotate_left; (focus (first | omega | (simp; done) | (simp; omega)))) | (with_reducible refine Below.drew ?_) | (refine below_on ?_ (by assumption))))⟩ | exact ⟨laid_both _ _ _ _ (heap_new _ _) rfl, by focus (repeat (first | (with_reducible exact Below.refl _ _) | (with_reducible assumption) | ((with_reducible refine Below.setCell ?_ ?_ _); rotate_left; (focus (first | omega | (simp; done) | (simp; omega)))) | ((with_reducible refine Below.alloc ?_ ?_ _); rotate_left; (focus (first | omega | (simp; done) | (simp; omega)))) | (with_reducible refine Below.drew ?_) | (refine below_on ?_ (by assumption))))⟩ | exact ⟨y0, hB⟩ | exact ⟨laid_both _ _ _ _ y0 rfl, by focus (repeat (first | (with_reducible exact Below.refl _ _) | (with_reducible assumption) | ((with_reducible refine Below.setCell ?_ ?_ _); rotate_left; (focus (first | omega | (simp; done) | (simp; omega)))) | ((with_reducible refine Below.alloc ?_ ?_ _); rotate_left; (focus (first | omega | (simp; done) | (simp; omega)))) | (with_reducible refine Below.drew ?_) | (refine below_on ?_ (by assumption))))⟩
  · have k2 := cell_at k1
    have hz := big_zero W
    refine bodyPost_ret (by simp [results, Try.results22, go_sem, k2]; rfl) rfl ⟨_, by rw [HE.out], by rw [HV.out]; exact hz, hB⟩
theorem ex_put {T : Array Value} {ds : List Deferred} {G : (Nat → Value) → Act} {R : Prop} (h : (Act.mk T ds = G (fun i => T.getD i undef)) ∧ R) : ∃ v : Nat → Value, (Act.mk T ds = G v) ∧ R := ⟨_, h⟩
theorem region_abs_k {P : Program} {id : Nat} {ops : Array Oper} {dr : Bool} {Q : Exit → Act → World → Prop} {a : Act} {w : World} (Qr : Act → Act → World → Prop)
    (h1 : ∀ K : Act → World → Prop, (∀ a' w', Qr a a' w' → K a' w') → (Code.region id ops dr).wp P (fun ex a' w' => ex = .normal ∧ K a' w') a w) (h2 : ∀ a' w', Qr a a' w' → Q .normal a' w') : (Code.region id ops dr).wp P Q a w :=
  Code.wp_mono (fun ex a' w' h => by obtain ⟨rfl, h⟩ := h; exact h2 a' w' h) (h1 (fun a' w' => Qr a a' w') (fun _ _ h => h))
end Go.Proofs.Yteibcklcegkbcaa
