/-
  The walk of the law package's steps. Conditions stand in each theorem.
-/
import Derived.Test.YtfchmikbebdflaaGreatDoorOr1
import Derived.Test.YtfchmikbebdflaaGreatDoorRf10
namespace Go.Proofs.YtfchmikbebdflaaGreatDoor
open Go.RowKit Go.BigFrame

theorem below_up {n : Nat} {w S W1 : World} (hn : n ≤ w.heap.size) (h : Below n w S) (k : Below S.heap.size S W1) : Below n w W1 := h.trans (k.mono (Nat.le_trans hn h.size))
open Go.RowKit Go.BigFrame

/-- The Int of a number, or that it is too great. -/
def outV (z : Int) : Int := if ab z < 2 ^ 256 then z else 0
def outE (z : Int) : Int := if ab z < 2 ^ 256 then 0 else 110
end Go.Proofs.YtfchmikbebdflaaGreatDoor

namespace Go.Proofs.YtfchmikbebdflaaGreatDoor
open Go.RowKit Go.BigFrame

theorem val_set : ∀ (ds : List Int) (j : Nat) (x v : Int), ds[j]? = some x → val (ds.set j v) + x.toNat * 65536 ^ j = val ds + v.toNat * 65536 ^ j
  | [], j, x, v, h => by simp at h
  | y :: ds, 0, x, v, h => by
    simp only [List.getElem?_cons_zero, Option.some.injEq] at h
    subst h
    simp only [List.set_cons_zero, val, Nat.pow_zero, Nat.mul_one]
    omega
  | y :: ds, j + 1, x, v, h => by
    rw [List.getElem?_cons_succ] at h
    have ih := val_set ds j x v h
    simp only [List.set_cons_succ, val, Nat.pow_succ, ← Nat.mul_assoc]
    omega
theorem dg_set {ds : List Int} (h : Dg ds) {j : Nat} {v : Int} (h0 : 0 ≤ v) (h1 : v < 65536) : Dg (ds.set j v) := by
  intro x hx
  rcases List.mem_or_eq_of_mem_set hx with h2 | rfl
  · exact h x h2
  · exact ⟨h0, h1⟩
theorem val_zeros : ∀ k : Nat, val (List.replicate k 0) = 0
  | 0 => rfl
  | k + 1 => by simp only [List.replicate_succ, val, val_zeros k]; rfl
/-- A row of digits under way: the product of the digits below i by n, and of digit i by those of n below k; C is carried. -/
def MulRow (m n L lb i k C : Nat) (ds : List Int) : Prop :=
  ds.length = L ∧ Dg ds ∧ val ds + C * 65536 ^ (i + k) = m % 65536 ^ i * n + 65536 ^ i * ((d16 m i).toNat * (n % 65536 ^ k)) ∧ ∀ j, i + lb ≤ j → j < L → ds[j]? = some 0
theorem mul_start (m n L lb : Nat) : MulRow m n L lb 0 0 0 (List.replicate L 0) := by
  refine ⟨by simp, ?_, ?_, ?_⟩
  · intro x hx
    have := (List.mem_replicate.1 hx).2
    omega
  · rw [val_zeros]
    simp [Nat.mod_one]
  · intro j _ hj
    simp [hj]
theorem mul_step {m n L lb i k C : Nat} {ds : List Int} (h : MulRow m n L lb i k C ds) {o : Int} (ho : ds[i + k]? = some o) (hk : k < lb) {s : Int} (h0 : 0 ≤ s) (hs : s = o + d16 m i * d16 n k + C) :
    MulRow m n L lb i (k + 1) (s / 65536).toNat (ds.set (i + k) (s % 65536)) := by
  obtain ⟨h1, h2, h3, h4⟩ := h
  refine ⟨by simp [h1], dg_set h2 (by omega) (by omega), ?_, ?_⟩
  · have hv := val_set ds (i + k) o (s % 65536) ho
    have ho1 := h2 o (List.mem_of_getElem? ho)
    obtain ⟨O, rfl⟩ := Int.eq_ofNat_of_zero_le ho1.1
    obtain ⟨S, rfl⟩ := Int.eq_ofNat_of_zero_le h0
    obtain ⟨X, hX⟩ : ∃ X : Nat, d16 m i = X := ⟨_, rfl⟩
    obtain ⟨Y, hY⟩ : ∃ Y : Nat, d16 n k = Y := ⟨_, rfl⟩
    have hY' : Y = n / 65536 ^ k % 65536 := by
      have : ((n / 65536 ^ k % 65536 : Nat) : Int) = Y := hY
      omega
    rw [hX] at h3 hs ⊢
    rw [hY] at hs
    have hS : S = O + X * Y + C := by
      have : ((S : Nat) : Int) = ((O + X * Y + C : Nat) : Int) := by rw [hs]; push_cast; rfl
      omega
    have e1 : (((S : Nat) : Int) % 65536).toNat = S % 65536 := by omega
    have e2 : (((S : Nat) : Int) / 65536).toNat = S / 65536 := by omega
    rw [e1, Int.toNat_natCast] at hv
    rw [e2, Int.toNat_natCast]
    rw [Int.toNat_natCast] at h3
    have hn : n % 65536 ^ (k + 1) = 65536 ^ k * Y + n % 65536 ^ k := by rw [Nat.pow_succ, mod_step, ← hY']
    rw [hn]
    have hp : 65536 ^ (i + (k + 1)) = 65536 ^ (i + k) * 65536 := by rw [← Nat.add_assoc, Nat.pow_succ]
    rw [hp]
    have hq : 65536 ^ i * (X * (65536 ^ k * Y + n % 65536 ^ k)) = 65536 ^ i * (X * (n % 65536 ^ k)) + X * Y * 65536 ^ (i + k) := by
      rw [Nat.mul_add, Nat.mul_add, Nat.pow_add, Nat.add_comm]
      congr 1
      rw [Nat.mul_left_comm X (65536 ^ k) Y, ← Nat.mul_assoc, Nat.mul_comm (X * Y)]
    rw [hq]
    have hS2 : S % 65536 + 65536 * (S / 65536) = S := by omega
    generalize 65536 ^ (i + k) = P at *
    have e3 : S / 65536 * (P * 65536) = 65536 * (S / 65536) * P := by rw [Nat.mul_comm P, ← Nat.mul_assoc, Nat.mul_comm (S / 65536)]
    rw [e3]
    have e4 : (S % 65536 + 65536 * (S / 65536)) * P = S * P := by rw [hS2]
    rw [Nat.add_mul] at e4
    have e5 : S * P = O * P + X * Y * P + C * P := by rw [hS, Nat.add_mul, Nat.add_mul]
    omega
  · intro j hj hjL
    rw [List.getElem?_set_ne (by omega)]
    exact h4 j hj hjL
theorem mul_next {m n L lb i C : Nat} {ds : List Int} (h : MulRow m n L lb i lb C ds) (hL : i + lb < L) (hn : n < 65536 ^ lb) (hC : C < 65536) :
    MulRow m n L lb (i + 1) 0 0 (ds.set (i + lb) (C : Int)) := by
  obtain ⟨h1, h2, h3, h4⟩ := h
  have h0 := h4 (i + lb) (Nat.le_refl _) hL
  have hv := val_set ds (i + lb) 0 C h0
  refine ⟨by simp [h1], dg_set h2 (by omega) (by omega), ?_, ?_⟩
  · rw [Nat.mod_eq_of_lt hn] at h3
    have e : m % 65536 ^ (i + 1) = 65536 ^ i * (d16 m i).toNat + m % 65536 ^ i := by
      rw [Nat.pow_succ, mod_step]; rfl
    rw [e, Nat.add_mul, Nat.pow_zero, Nat.mod_one, Nat.mul_zero, Nat.mul_zero, Nat.mul_assoc]
    have e0 : (0 : Int).toNat = 0 := rfl
    rw [e0, Int.toNat_natCast] at hv
    omega
  · intro j hj hjL
    rw [List.getElem?_set_ne (by omega)]
    exact h4 j (by omega) hjL
theorem mul_end {m n L lb i : Nat} {ds : List Int} (h : MulRow m n L lb i 0 0 ds) (hm : m < 65536 ^ i) : val ds = m * n := by
  have := h.2.2.1
  rw [Nat.mod_eq_of_lt hm, Nat.pow_zero, Nat.mod_one] at this
  simpa using this
/-- A row of digits in a block of its own. -/
def RowAt (W : World) (g : Nat) (ds : List Int) : Prop := W.heap[g]? = some (.cells (longV ds).toArray 2 (0, 0))
theorem RowAt.cell {W : World} {g : Nat} {ds : List Int} (h : RowAt W g ds) {j : Nat} {x : Int} (hx : ds[j]? = some x) : W.cell? ⟨g, j, none⟩ = some (.int .i64 x) := by
  rw [cell_at h]
  simp [longV, hx]
theorem RowAt.set {W : World} {g : Nat} {ds : List Int} (h : RowAt W g ds) (j : Nat) (v : Int) : RowAt (W.setCell ⟨g, j, none⟩ (.int .i64 v)) g (ds.set j v) := by
  unfold RowAt at *
  rw [heap_set h]
  congr 2
  simp [longV, List.map_set]
theorem RowAt.dig {W : World} {g : Nat} {ds : List Int} (h : RowAt W g ds) (hl : ds.length ≤ 1000000) : DigAt W (some ⟨g, 0, none⟩) ds :=
  ⟨hl, fun _ => ⟨g, 0, rfl, fun k x hk => by rw [Nat.zero_add]; exact h.cell hk⟩⟩
theorem row_own {W : World} {base g n : Nat} (h : W.ownsRow base 2 1 (.slice (some ⟨g, 0, none⟩) n n) n (madeCells #[.int .i64 0] n).toList) : RowAt W g (List.replicate n 0) := by
  rcases h.2 with ⟨h0, _⟩ | ⟨g', cap, cur, h1, _, h3, _, _, h5, h6⟩
  · cases h0
  · simp only [Value.slice.injEq, Option.some.injEq, Addr.mk.injEq] at h1
    obtain ⟨⟨rfl, _, _⟩, _, rfl⟩ := h1
    unfold RowAt
    rw [h3]
    congr 2
    have h7 : cur.toList = (madeCells #[.int .i64 0] n).toList := by
      rw [← h6, List.take_of_length_le (by simp [h5])]
    apply Array.ext'
    rw [h7]
    rw [toList_madeCells_one]
    simp [longV]
theorem zof_mul2 (x y : Int) : zof (ng x != ng y) (ab x * ab y) = x * y := zof_mul x y
theorem d16_mul (m n i k : Nat) : 0 ≤ d16 m i * d16 n k ∧ d16 m i * d16 n k ≤ 4294836225 := by
  have a1 := d16_lt m i
  have b1 := d16_lt n k
  refine ⟨Int.mul_nonneg (d16_nonneg _ _) (d16_nonneg _ _), ?_⟩
  have h1 : d16 m i * d16 n k ≤ 65535 * 65535 := Int.mul_le_mul (by omega) (by omega) (d16_nonneg _ _) (by omega)
  omega
/-- The blocks of a product under way. -/
def MulW (x y : Int) (A B : Option Addr) (c d la lb g : Nat) (ds : List Int) (w W : World) : Prop :=
  W.heap[w.heap.size]? = some (.cells #[.bool (ng x), .slice A la c] 123 (0, 0)) ∧ W.heap[w.heap.size + 1]? = some (.cells #[.bool (ng y), .slice B lb d] 123 (0, 0)) ∧
    W.heap[w.heap.size + 1 + 1]? = some (.cells #[.bool false, .slice none 0 0] 123 (0, 0)) ∧ RowAt W g ds ∧ Below w.heap.size w W
theorem MulW.below {x y : Int} {A B : Option Addr} {c d la lb g : Nat} {ds : List Int} {w W W1 : World} (h : MulW x y A B c d la lb g ds w W) (hb : Below W.heap.size W W1) : MulW x y A B c d la lb g ds w W1 :=
  ⟨heap_below hb h.1, heap_below hb h.2.1, heap_below hb h.2.2.1, heap_below hb h.2.2.2.1, below_on h.2.2.2.2 hb⟩
theorem MulW.set {x y : Int} {A B : Option Addr} {c d la lb : Nat} {ds : List Int} {w W : World} (h : MulW x y A B c d la lb (w.heap.size + 1 + 1 + 1) ds w W) (j : Nat) (v : Int) :
    MulW x y A B c d la lb (w.heap.size + 1 + 1 + 1) (ds.set j v) w (W.setCell ⟨w.heap.size + 1 + 1 + 1, j, none⟩ (.int .i64 v)) :=
  ⟨heap_set_other h.1 (by simp; omega) _, heap_set_other h.2.1 (by simp) _, heap_set_other h.2.2.1 (by simp) _, h.2.2.2.1.set j v, Below.setCell h.2.2.2.2 (by simp; omega) _⟩
end Go.Proofs.YtfchmikbebdflaaGreatDoor

namespace Go.Proofs.YtfchmikbebdflaaGreatDoor
open Go.RowKit Go.BigFrame

/-- A Big of value z in a block of its own. -/
def BigIn (W : World) (b : Nat) (z : Int) : Prop :=
  ∃ (A : Option Addr) (c : Nat), W.heap[b]? = some (.cells #[.bool (ng z), .slice A (dd (ab z)).length c] 123 (0, 0)) ∧ (dd (ab z)).length ≤ c ∧ DigAt W A (dd (ab z))
theorem BigIn.below {W W1 : World} {b : Nat} {z : Int} (h : BigIn W b z) (hb : Below W.heap.size W W1) : BigIn W1 b z := by
  obtain ⟨A, c, h1, h2, h3⟩ := h
  exact ⟨A, c, heap_below hb h1, h2, h3.below hb⟩
theorem dd_small {z : Int} (h : ab z < 2 ^ 256) : (dd (ab z)).length ≤ 1000 := Nat.le_trans ((dd_len16 _).2 h) (by omega)
end Go.Proofs.YtfchmikbebdflaaGreatDoor
