/-
  Walks: Text. Conditions stand in each theorem.
-/
import Derived.Laws.AppendOwn
import Derived.Laws.BytesArg
import Derived.Maps.AppendAt
import Derived.WalkKit
import Derived.Test.YtfgdichdddknlaaDoorLm21
namespace Go.Proofs.YtfgdichdddknlaaDoor
open Go.RowKit Go.BigFrame

theorem infoByte : (Tryd.prog.info? 5).map (fun i => (i.zero, i.size, i.bytes)) = some (some (.int .u8 0), 1, 1) := by kernel_rfl
theorem below_grown {W W' : World} {row : Option Nat} (h : W.grownBy W' row) {n : Nat} (hr : ∀ k, row = some k → n ≤ k) (hn : n ≤ W.heap.size) : Below n W W' :=
  ⟨h.os, h.tape, h.output, h.size, fun k hk => h.block k (by omega) (fun e => by have := hr k e.symm; omega)⟩
theorem own_ge {W : World} {base : Nat} {e : TypeId} {size n : Nat} {v : Value} {xs : List Value} (h : W.ownsRow base e size v n xs) {k : Nat} (hk : v.ownBlock = some k) : base ≤ k := by
  rcases h.2 with ⟨rfl, _⟩ | ⟨g, cap, cur, rfl, hg, _⟩
  · simp [Value.ownBlock] at hk
  · simp [Value.ownBlock] at hk; omega
theorem own_laid {W : World} {base : Nat} {e : TypeId} {size n : Nat} {v : Value} {xs : List Value} (h : W.ownsRow base e size v n xs) {B : Nat} (hB : B < base) (u : Value) : (W.setCell ⟨B, 0, none⟩ u).ownsRow base e size v n xs := by
  refine ⟨h.1, ?_⟩
  rcases h.2 with h1 | ⟨g, cap, cur, h1, h2, h3, h4⟩
  · exact .inl h1
  · exact .inr ⟨g, cap, cur, h1, h2, heap_set_other h3 (by simp; omega) _, h4⟩
/-- What a byte that is put leaves. -/
def PutPost (B base n : Nat) (v : Value) (xs : List Value) (c : Int) (W w' : World) : Prop :=
  ∃ v', w'.heap[B]? = some (.cells #[v'] 84 (0, 0)) ∧ w'.ownsRow base 5 1 v' (n + 1) (xs ++ [.int .u8 c]) ∧ (∀ k o, k ≠ B → some k ≠ v.ownBlock → W.heap[k]? = some o → w'.heap[k]? = some o) ∧ Below B W w' ∧ (v'.ownBlock = v.ownBlock ∨ ∃ q, v'.ownBlock = some q ∧ W.heap.size ≤ q)
open Go.RowKit Go.BigFrame

/-- What is left of a row of n bytes, of which i at either end are turned about. -/
def TurnedAt (g : Nat) (t : TypeId) (f : Nat → Int) (n i : Nat) (W : World) : Prop :=
  ∃ cur : Array Value, W.heap[g]? = some (.cells cur t (0, 0)) ∧ ∀ k, k < n → cur[k]? = some (.int .u8 (if k < i ∨ n - 1 - i < k then f (n - 1 - k) else f k))
theorem turned_step {g : Nat} {t : TypeId} {f : Nat → Int} {n i j : Nat} {W : World} (h : TurnedAt g t f n i W) (hij : i + j + 1 = n) (hlt : i < j) :
    TurnedAt g t f n (i + 1) ((W.setCell ⟨g, i, none⟩ (.int .u8 (f j))).setCell ⟨g, j, none⟩ (.int .u8 (f i))) := by
  obtain ⟨cur, h1, h2⟩ := h
  refine ⟨_, heap_set (heap_set h1 _ _) _ _, fun k hk => ?_⟩
  have hk1 := h2 k hk
  have hs : k < cur.size := (Array.getElem?_eq_some_iff.1 hk1).1
  rw [Array.getElem?_setIfInBounds, Array.size_setIfInBounds, Array.getElem?_setIfInBounds]
  by_cases e1 : j = k
  · subst e1
    rw [if_pos rfl, if_pos hs, if_pos (.inr (by omega)), show n - 1 - j = i by omega]
  · rw [if_neg e1]
    by_cases e2 : i = k
    · subst e2
      rw [if_pos rfl, if_pos hs, if_pos (.inl (by omega)), show n - 1 - i = j by omega]
    · rw [if_neg e2, hk1]
      by_cases e3 : k < i ∨ n - 1 - i < k
      · rw [if_pos e3, if_pos (by omega)]
      · rw [if_neg e3, if_neg (by omega)]
/-- At the end all is turned. -/
theorem turned_all {g : Nat} {t : TypeId} {f : Nat → Int} {n i : Nat} {W : World} (h : TurnedAt g t f n i W) (hi : n ≤ 2 * i + 1) {k : Nat} (hk : k < n) : W.cell? ⟨g, k, none⟩ = some (.int .u8 (f (n - 1 - k))) := by
  obtain ⟨cur, h1, h2⟩ := h
  rw [cell_at h1, h2 k hk]
  by_cases e : k < i ∨ n - 1 - i < k
  · rw [if_pos e]
  · rw [if_neg e, show n - 1 - k = k by omega]
end Go.Proofs.YtfgdichdddknlaaDoor

namespace Go.Proofs.YtfgdichdddknlaaDoor
open Go.RowKit Go.BigFrame

/-- Decimal digits, the lowest ahead. -/
def dec10 (n : Nat) : List Nat := if h : n < 10 then [n] else n % 10 :: dec10 (n / 10)
termination_by n
decreasing_by omega
theorem dec10_small {n : Nat} (h : n < 10) : dec10 n = [n] := by unfold dec10; rw [dif_pos h]
theorem dec10_big {n : Nat} (h : ¬ n < 10) : dec10 n = n % 10 :: dec10 (n / 10) := by rw [dec10]; rw [dif_neg h]
theorem dec10_len : ∀ (k n : Nat), n < 10 ^ (k + 1) → (dec10 n).length ≤ k + 1
  | 0, n, h => by rw [dec10_small (by simpa using h)]; simp
  | k + 1, n, h => by
    by_cases h1 : n < 10
    · rw [dec10_small h1]; simp
    · rw [dec10_big h1, List.length_cons]
      have := dec10_len k (n / 10) (Nat.div_lt_of_lt_mul (by rw [Nat.mul_comm]; simpa [Nat.pow_succ] using h))
      omega
theorem dec10_len256 {n : Nat} (h : n < 2 ^ 256) : (dec10 n).length ≤ 78 := dec10_len 77 n (Nat.lt_of_lt_of_le h (by decide))
theorem dec10_lt : ∀ (k n : Nat), n < 10 ^ k → ∀ d ∈ dec10 n, d < 10
  | 0, n, h, d, hd => by
    rw [dec10_small (by simp at h; omega)] at hd
    simp at hd h; omega
  | k + 1, n, h, d, hd => by
    by_cases h1 : n < 10
    · rw [dec10_small h1] at hd; simp at hd; omega
    · rw [dec10_big h1, List.mem_cons] at hd
      rcases hd with rfl | hd
      · exact Nat.mod_lt _ (by decide)
      · exact dec10_lt k (n / 10) (Nat.div_lt_of_lt_mul (by rw [Nat.mul_comm]; simpa [Nat.pow_succ] using h)) d hd
/-- The bytes of a text, the last ahead. -/
def revB (z : Int) : List Int := (dec10 (ab z)).map (fun d : Nat => 48 + (d : Int)) ++ (if ng z then [45] else [])
/-- The text of a number. -/
def textZ (z : Int) : ByteArray := strOfNums (revB z).reverse
def bytesV (l : List Int) : List Value := l.map (Value.int .u8)
theorem own_below {W W1 : World} {base : Nat} {e : TypeId} {size n : Nat} {v : Value} {xs : List Value} (h : W.ownsRow base e size v n xs) (hb : Below W.heap.size W W1) : W1.ownsRow base e size v n xs := by
  refine ⟨h.1, ?_⟩
  rcases h.2 with h1 | ⟨g, cap, cur, h1, h2, h3, h4⟩
  · exact .inl h1
  · exact .inr ⟨g, cap, cur, h1, h2, heap_below hb h3, h4⟩
theorem own_set {W : World} {base : Nat} {e : TypeId} {size n : Nat} {v : Value} {xs : List Value} (h : W.ownsRow base e size v n xs) {p : Addr} (hp : v.ownBlock ≠ some p.block) (u : Value) : (W.setCell p u).ownsRow base e size v n xs := by
  refine ⟨h.1, ?_⟩
  rcases h.2 with h1 | ⟨g, cap, cur, h1, h2, h3, h4⟩
  · exact .inl h1
  · refine .inr ⟨g, cap, cur, h1, h2, heap_set_other h3 (fun e => hp ?_) _, h4⟩
    subst h1
    simp [Value.ownBlock, e]
theorem own_lt {W : World} {base : Nat} {e : TypeId} {size n : Nat} {v : Value} {xs : List Value} (h : W.ownsRow base e size v n xs) {k : Nat} (hk : v.ownBlock = some k) : k < W.heap.size := by
  rcases h.2 with ⟨rfl, _⟩ | ⟨g, cap, cur, rfl, _, hg, _⟩
  · simp [Value.ownBlock] at hk
  · simp [Value.ownBlock] at hk; subst hk; exact lt_of_block hg
def ptrBlock : Value → Nat
  | .pointer (some a) => a.block
  | _ => 0
theorem byte_digit {m : Nat} : IntKind.u8.wrap (48 + IntKind.u8.wrap (dg (m % 10) 0)) = 48 + ((m % 10 : Nat) : Int) := by
  have h := (dg_small (m := m % 10) (by omega)).1
  rw [h]
  simp [IntKind.wrap, IntKind.bits, IntKind.signed]
  omega
theorem row_len {l : List Nat} {m n : Nat} (h : l ++ dec10 m = dec10 n) (hn : n < 2 ^ 256) : l.length ≤ 1000 := by
  have h1 := congrArg List.length h
  have h2 := dec10_len256 hn
  rw [List.length_append] at h1
  omega
theorem byte_ten {m : Nat} : (48 + dg (m % 10) 0) % 256 = 48 + ((m % 10 : Nat) : Int) := by
  have h := (dg_small (m := m % 10) (by omega)).1
  rw [h]
  omega
theorem own_step {W : World} {base : Nat} {e : TypeId} {v : Value} {l : List Nat} {c : Int} {d : Nat} (hc : c = 48 + (d : Int)) (h : W.ownsRow base e 1 v (l.length + 1) (bytesV (l.map fun d : Nat => 48 + (d : Int)) ++ [.int .u8 c])) :
    W.ownsRow base e 1 v (l ++ [d]).length (bytesV ((l ++ [d]).map fun d : Nat => 48 + (d : Int))) := by
  subst hc
  simpa [bytesV] using h
theorem own_four {W : World} {base : Nat} {e : TypeId} {size n : Nat} {v : Value} {xs : List Value} (h : W.ownsRow base e size v n xs) {b : Nat} (hp : v.ownBlock ≠ some b) (u0 u1 u2 u3 : Value) :
    ((((W.setCell ⟨b, 0, none⟩ u0).setCell ⟨b, 1, none⟩ u1).setCell ⟨b, 2, none⟩ u2).setCell ⟨b, 3, none⟩ u3).ownsRow base e size v n xs :=
  own_set (own_set (own_set (own_set h hp _) hp _) hp _) hp _
theorem own_turned {W : World} {base : Nat} {n : Nat} {v : Value} {xs : List Int} (h : W.ownsRow base 5 1 v n (bytesV xs)) (hn : 1 ≤ n) :
    ∃ g cap, v = .slice (some ⟨g, 0, none⟩) n cap ∧ base ≤ g ∧ TurnedAt g 5 (fun k => xs.getD k 0) n 0 W := by
  obtain ⟨h0, h1⟩ := h
  rcases h1 with ⟨_, h1⟩ | ⟨g, cap, cur, rfl, hg, hb, hc, _, hs, ht⟩
  · omega
  · refine ⟨g, cap, rfl, hg, cur, hb, fun k hk => ?_⟩
    rw [if_neg (by omega)]
    have h2 : (cur.toList.take (n * 1))[k]? = (bytesV xs)[k]? := by rw [ht]
    rw [List.getElem?_take, if_pos (by omega), Array.getElem?_toList] at h2
    rw [h2]
    have h3 : k < xs.length := by simp [bytesV] at h0; omega
    simp [bytesV, List.getElem?_eq_getElem h3]
theorem rev_str {W : World} {g n i cap : Nat} {t : TypeId} {xs : List Int} (h : TurnedAt g t (fun k => xs.getD k 0) n i W) (hi : n ≤ 2 * i + 1) (hl : xs.length = n) :
    (convert 84 9 (.slice (some ⟨g, 0, none⟩) n cap)).run Tryd.prog W = .ok (.string (strOfNums xs.reverse)) W := by
  refine run_convert_bytes_arg W 84 5 (by kernel_rfl) (by kernel_rfl) g 0 n cap xs.reverse (by simpa using hl) (fun k hk => ?_) _ (by kernel_rfl)
  rw [Nat.zero_add, turned_all h hi hk]
  subst hl
  rw [List.getD_eq_getElem?_getD, List.getD_eq_getElem?_getD, List.getElem?_reverse hk]
end Go.Proofs.YtfgdichdddknlaaDoor
