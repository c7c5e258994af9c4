/-
  Walks: Text. Conditions stand in each theorem.
-/
import Derived.Laws.AppendOwn
import Derived.Laws.BytesArg
import Derived.Maps.AppendAt
import Derived.WalkKit
import Derived.Test.YtfchmikbebdflaaGreatDoorLm21
namespace Go.Proofs.YtfchmikbebdflaaGreatDoor
open Go.RowKit Go.BigFrame

theorem infoByte : (Tryz.prog.info? 5).map (fun i => (i.zero, i.size, i.bytes)) = some (some (.int .u8 0), 1, 1) := by kernel_rfl
theorem below_grown {W W' : World} {row : Option Nat} (h : W.grownBy W' row) {n : Nat} (hr : ∀ k, row = some k → n ≤ k) (hn : n ≤ W.heap.size) : Below n W W' :=
  ⟨h.os, h.tape, h.output, h.size, fun k hk => h.block k (by omega) (fun e => by have := hr k e.symm; omega)⟩
theorem own_ge {W : World} {base : Nat} {e : TypeId} {size n : Nat} {v : Value} {xs : List Value} (h : W.ownsRow base e size v n xs) {k : Nat} (hk : v.ownBlock = some k) : base ≤ k := by
  rcases h.2 with ⟨rfl, _⟩ | ⟨g, cap, cur, rfl, hg, _⟩
  · simp [Value.ownBlock] at hk
  · simp [Value.ownBlock] at hk; omega
theorem own_laid {W : World} {base : Nat} {e : TypeId} {size n : Nat} {v : Value} {xs : List Value} (h : W.ownsRow base e size v n xs) {B : Nat} (hB : B < base) (u : Value) : (W.setCell ⟨B, 0, none⟩ u).ownsRow base e size v n xs := by
  refine ⟨h.1, ?_⟩
  rcases h.2 with h1 | ⟨g, cap, cur, h1, h2, h3, h4⟩
  · exact .inl h1
  · exact .inr ⟨g, cap, cur, h1, h2, heap_set_other h3 (by simp; omega) _, h4⟩
/-- What a byte that is put leaves. -/
def PutPost (B base n : Nat) (v : Value) (xs : List Value) (c : Int) (W w' : World) : Prop :=
  ∃ v', w'.heap[B]? = some (.cells #[v'] 130 (0, 0)) ∧ w'.ownsRow base 5 1 v' (n + 1) (xs ++ [.int .u8 c]) ∧ (∀ k o, k ≠ B → some k ≠ v.ownBlock → W.heap[k]? = some o → w'.heap[k]? = some o) ∧ Below B W w' ∧ (v'.ownBlock = v.ownBlock ∨ ∃ q, v'.ownBlock = some q ∧ W.heap.size ≤ q)
set_option maxHeartbeats 1000000 in
theorem put_any (c : Int) (B base : Nat) (v : Value) (n : Nat) (xs : List Value) (W : World) (h : W.heap[B]? = some (.cells #[v] 130 (0, 0))) (hB : B < base) (hbase : base ≤ W.heap.size)
    (hown : W.ownsRow base 5 1 v n xs) (hn : n ≤ 1000) :
    Calls Tryz.prog 109 #[.int .u8 c, .pointer (some ⟨B, 0, none⟩)] W fun e w' => e = .returned (.tuple #[]) ∧ PutPost B base n v xs c W w' := by
  obtain ⟨i0, hi, hz0, hz1, hz2⟩ := info_parts infoByte
  have hu : Tryz.prog.underlying 130 = some (.slice 5) := by kernel_rfl
  have hc := cell_at h 0
  have hf := frozen_at h
  have HH := Hd.mk h
  simp only [List.getElem?_toArray, List.getElem?_cons_zero] at hc
  go_enter Tryz.func109, Tryz.ntmps109
  go_wp2_with (at_builtin; refine wpList_append_own_at _ rfl (.tmp 3) (.tmp 5) 130 rfl base 5 i0 (.int .u8 0) 1 1 hu hi hz0 hz1 hz2 rfl (by decide) v n xs rfl (hown.alloc _) ⟨W.heap.size, 0, none⟩ 1 1 [.int .u8 c] rfl rfl (cell_one_new _ _ _) ?c2 ?b1 ?b2 ?b3 ?go)
  case c2 => intro u hu; simp at hu; subst hu; rfl
  case b1 => unfold maxLen; omega
  case b2 => omega
  case b3 => simp; omega
  case go =>
    intro v' w1 hown' hgrow _ hat
    have hr : ∀ k, v.ownBlock = some k → base ≤ k := fun k hk => own_ge hown hk
    have hold : ∀ k o, some k ≠ v.ownBlock → W.heap[k]? = some o → w1.heap[k]? = some o := fun k o hk ho =>
      (hgrow.block k (by have := lt_of_block ho; simp; omega) hk).trans (heap_old ho _)
    have y0 := hold B _ (fun e => by have := hr B e.symm; omega) h
    have hat' : v'.ownBlock = v.ownBlock ∨ ∃ q, v'.ownBlock = some q ∧ W.heap.size ≤ q := by
      rcases hat with h1 | h1
      · exact .inl h1
      · exact .inr ⟨_, h1, by simp⟩
    have HAT := Hd.mk hat'
    clear hat hat'
    have hb : Below B W w1 := (Below.alloc (Below.refl B W) (by omega) _).trans (below_grown hgrow (fun k hk => by have := hr k hk; omega) (by simp; omega))
    have hc1 : w1.cell? ⟨B, 0, none⟩ = some v := cell_at y0 0
    have hf1 := frozen_at y0
    obtain ⟨g, cap, hv'⟩ : ∃ g cap, v' = .slice (some ⟨g, 0, none⟩) (n + 1) cap := by
      rcases hown'.2 with ⟨_, h0⟩ | ⟨g, cap, cur, h1, _⟩
      · omega
      · exact ⟨g, cap, h1⟩
    subst hv'
    have HO := Hd.mk hown'
    have HL := Hd.mk hold
    have HB := Hd.mk hb
    have HY := Hd.mk y0
    have HI := Hd.mk hB
    clear hf hc h hgrow hown' hold hb y0 HH hown hr hi hz0 hz1 hz2 hu hB hbase
    go_wp2
    go_end0
    have y0 := HY.out
    have hown' := HO.out
    have hold := HL.out
    have hb := HB.out
    have hB := HI.out
    obtain ⟨l1, l2, l3⟩ := laid_one B w1 (.slice (some ⟨g, 0, none⟩) (n + 1) cap)
    refine ⟨rfl, _, l1 y0 rfl, own_laid hown' (by omega) _, fun k o hne hk ho => l2 k o hne (hold k o hk ho), hb.trans (l3 B (Nat.le_refl _)), HAT.out⟩
open Go.RowKit Go.BigFrame

/-- What is left of a row of n bytes, of which i at either end are turned about. -/
def TurnedAt (g : Nat) (t : TypeId) (f : Nat → Int) (n i : Nat) (W : World) : Prop :=
  ∃ cur : Array Value, W.heap[g]? = some (.cells cur t (0, 0)) ∧ ∀ k, k < n → cur[k]? = some (.int .u8 (if k < i ∨ n - 1 - i < k then f (n - 1 - k) else f k))
theorem turned_step {g : Nat} {t : TypeId} {f : Nat → Int} {n i j : Nat} {W : World} (h : TurnedAt g t f n i W) (hij : i + j + 1 = n) (hlt : i < j) :
    TurnedAt g t f n (i + 1) ((W.setCell ⟨g, i, none⟩ (.int .u8 (f j))).setCell ⟨g, j, none⟩ (.int .u8 (f i))) := by
  obtain ⟨cur, h1, h2⟩ := h
  refine ⟨_, heap_set (heap_set h1 _ _) _ _, fun k hk => ?_⟩
  have hk1 := h2 k hk
  have hs : k < cur.size := (Array.getElem?_eq_some_iff.1 hk1).1
  rw [Array.getElem?_setIfInBounds, Array.size_setIfInBounds, Array.getElem?_setIfInBounds]
  by_cases e1 : j = k
  · subst e1
    rw [if_pos rfl, if_pos hs, if_pos (.inr (by omega)), show n - 1 - j = i by omega]
  · rw [if_neg e1]
    by_cases e2 : i = k
    · subst e2
      rw [if_pos rfl, if_pos hs, if_pos (.inl (by omega)), show n - 1 - i = j by omega]
    · rw [if_neg e2, hk1]
      by_cases e3 : k < i ∨ n - 1 - i < k
      · rw [if_pos e3, if_pos (by omega)]
      · rw [if_neg e3, if_neg (by omega)]
set_option maxHeartbeats 1000000 in
theorem reverse_any (g n cap : Nat) (t : TypeId) (f : Nat → Int) (W : World) (h : TurnedAt g t f n 0 W) (hn0 : 1 ≤ n) (hn : n ≤ 1000) :
    Calls Tryz.prog 111 #[.slice (some ⟨g, 0, none⟩) n cap] W fun e w' =>
      e = .returned (.tuple #[]) ∧ (∃ i, TurnedAt g t f n i w' ∧ n ≤ 2 * i + 1) ∧ (∀ k o, k ≠ g → W.heap[k]? = some o → w'.heap[k]? = some o) ∧ Below g W w' := by
  have HH := Hd.mk h
  have hn1 : IntKind.i64.wrap ((n : Int) - 1) = ((n - 1 : Nat) : Int) := by
    simp [IntKind.wrap, IntKind.bits, IntKind.signed]
    omega
  clear h
  go_enter Tryz.func111, Tryz.ntmps111
  go_wp2
  go_loopw [2, 3] (fun vi vj wr => ∃ i j : Nat, i + j + 1 = n ∧ i ≤ j + 1 ∧ vi = .int .i64 i ∧ vj = .int .i64 j ∧ TurnedAt g t f n i wr ∧ (∀ k o, k ≠ g → W.heap[k]? = some o → wr.heap[k]? = some o) ∧ Below g W wr) (fun _ vj _ => (intOf vj).toNat)
  case atStart => exact ⟨0, n - 1, by omega, by omega, rfl, rfl, HH.out, fun _ _ _ h => h, Below.refl _ _⟩
  case round =>
    obtain ⟨i, j, hij, hle, rfl, rfl, hT, hO, hB⟩ := hrel
    have HT := Hd.mk hT
    have HO := Hd.mk hO
    have HB := Hd.mk hB
    by_cases hlt : i < j
    · have hb : decide ((i : Int) < j) = true := by simpa using hlt
      obtain ⟨cur, h1, h2⟩ := hT
      have hi : cur[i]? = some (.int .u8 (f i)) := by rw [h2 i (by omega), if_neg (by omega)]
      have hj : cur[j]? = some (.int .u8 (f j)) := by rw [h2 j (by omega), if_neg (by omega)]
      have hin : (i : Int) < n := by omega
      have hjn : (j : Int) < n := by omega
      have HL := Hd.mk hlt
      clear hO hB h2
      go_upto_region 3 with (fail)
      refine region_mix 12 (by kernel_rfl) (by kernel_rfl) (fun _ _ _ _ h => h) fun X _ mk hmk hcl => ?_
      have q0 : ∀ x, (mk x).cell? ⟨g, i, none⟩ = some (.int .u8 (f i)) := fun x => (cell_at (heap_below (hmk x) h1) i).trans hi
      have q1 : ∀ x, (mk x).cell? ⟨g, j, none⟩ = some (.int .u8 (f j)) := fun x => (cell_at (heap_below (hmk x) h1) j).trans hj
      simp only [List.take_succ_cons, List.take_zero, List.drop_succ_cons, List.drop_zero]
      repeat (go_big_quiet_step (skip))
      refine wpQuiet_nil ?_
      rintro _ ⟨x, rfl⟩
      have hW1 := hmk x
      clear hcl hmk q0 q1
      generalize mk x = W1 at hW1
      have y1 := heap_below hW1 h1
      have q0 : W1.cell? ⟨g, i, none⟩ = some (.int .u8 (f i)) := (cell_at y1 i).trans hi
      have q1 : W1.cell? ⟨g, j, none⟩ = some (.int .u8 (f j)) := (cell_at y1 j).trans hj
      have f1 := frozen_at y1
      have ne1 : j ≠ i := by omega
      go_wp2
      have hg := lt_of_block h1
      have hT1 : TurnedAt g t f n i W1 := by
        obtain ⟨c2, k1, k2⟩ := HT.out
        exact ⟨c2, heap_below hW1 k1, k2⟩
      refine ⟨⟨i + 1, j - 1, by omega, by omega, by go_num, by rw [show ((j - 1 : Nat) : Int) = (j : Int) - 1 by omega], turned_step hT1 hij HL.out, fun k o hk ho => ?_, ?_⟩, ?_⟩
      · exact heap_set_other (heap_set_other (heap_below hW1 (HO.out k o hk ho)) hk _) hk _
      · exact Below.setCell (Below.setCell (HB.out.trans (hW1.mono (by omega))) (Nat.le_refl _) _) (Nat.le_refl _) _
      · simp [intOf]; omega
    · have hge : j ≤ i := by omega
      have HL := Hd.mk hge
      clear hT hO hB hlt
      go_wp2
      go_end0
      have := HL.out
      exact ⟨rfl, ⟨i, HT.out, by omega⟩, HO.out, HB.out⟩
/-- At the end all is turned. -/
theorem turned_all {g : Nat} {t : TypeId} {f : Nat → Int} {n i : Nat} {W : World} (h : TurnedAt g t f n i W) (hi : n ≤ 2 * i + 1) {k : Nat} (hk : k < n) : W.cell? ⟨g, k, none⟩ = some (.int .u8 (f (n - 1 - k))) := by
  obtain ⟨cur, h1, h2⟩ := h
  rw [cell_at h1, h2 k hk]
  by_cases e : k < i ∨ n - 1 - i < k
  · rw [if_pos e]
  · rw [if_neg e, show n - 1 - k = k by omega]
end Go.Proofs.YtfchmikbebdflaaGreatDoor

namespace Go.Proofs.YtfchmikbebdflaaGreatDoor
open Go.RowKit Go.BigFrame

/-- Decimal digits, the lowest ahead. -/
def dec10 (n : Nat) : List Nat := if h : n < 10 then [n] else n % 10 :: dec10 (n / 10)
termination_by n
decreasing_by omega
theorem dec10_small {n : Nat} (h : n < 10) : dec10 n = [n] := by unfold dec10; rw [dif_pos h]
theorem dec10_big {n : Nat} (h : ¬ n < 10) : dec10 n = n % 10 :: dec10 (n / 10) := by rw [dec10]; rw [dif_neg h]
theorem dec10_len : ∀ (k n : Nat), n < 10 ^ (k + 1) → (dec10 n).length ≤ k + 1
  | 0, n, h => by rw [dec10_small (by simpa using h)]; simp
  | k + 1, n, h => by
    by_cases h1 : n < 10
    · rw [dec10_small h1]; simp
    · rw [dec10_big h1, List.length_cons]
      have := dec10_len k (n / 10) (Nat.div_lt_of_lt_mul (by rw [Nat.mul_comm]; simpa [Nat.pow_succ] using h))
      omega
theorem dec10_len256 {n : Nat} (h : n < 2 ^ 256) : (dec10 n).length ≤ 78 := dec10_len 77 n (Nat.lt_of_lt_of_le h (by decide))
theorem dec10_lt : ∀ (k n : Nat), n < 10 ^ k → ∀ d ∈ dec10 n, d < 10
  | 0, n, h, d, hd => by
    rw [dec10_small (by simp at h; omega)] at hd
    simp at hd h; omega
  | k + 1, n, h, d, hd => by
    by_cases h1 : n < 10
    · rw [dec10_small h1] at hd; simp at hd; omega
    · rw [dec10_big h1, List.mem_cons] at hd
      rcases hd with rfl | hd
      · exact Nat.mod_lt _ (by decide)
      · exact dec10_lt k (n / 10) (Nat.div_lt_of_lt_mul (by rw [Nat.mul_comm]; simpa [Nat.pow_succ] using h)) d hd
/-- The bytes of a text, the last ahead. -/
def revB (z : Int) : List Int := (dec10 (ab z)).map (fun d : Nat => 48 + (d : Int)) ++ (if ng z then [45] else [])
/-- The text of a number. -/
def textZ (z : Int) : ByteArray := strOfNums (revB z).reverse
def bytesV (l : List Int) : List Value := l.map (Value.int .u8)
/-- What Text's loop holds: the magnitude that is left, in block b; the bytes that are put, in the slice of block B. -/
def TextInv (n0 B b : Nat) (w W : World) : Prop :=
  ∃ (m : Nat) (l : List Nat) (v : Value), m < 2 ^ 256 ∧ l ++ dec10 m = dec10 n0 ∧ W.heap[b]? = some (.cells #[.int .u64 (dg (m) 0), .int .u64 (dg (m) 1), .int .u64 (dg (m) 2), .int .u64 (dg (m) 3)] 168 (0, 0)) ∧ W.heap[B]? = some (.cells #[v] 130 (0, 0)) ∧
    W.ownsRow (B + 1) 5 1 v l.length (bytesV (l.map fun d : Nat => 48 + (d : Int))) ∧ v.ownBlock ≠ some b ∧ B < b ∧ Below B w W
theorem own_below {W W1 : World} {base : Nat} {e : TypeId} {size n : Nat} {v : Value} {xs : List Value} (h : W.ownsRow base e size v n xs) (hb : Below W.heap.size W W1) : W1.ownsRow base e size v n xs := by
  refine ⟨h.1, ?_⟩
  rcases h.2 with h1 | ⟨g, cap, cur, h1, h2, h3, h4⟩
  · exact .inl h1
  · exact .inr ⟨g, cap, cur, h1, h2, heap_below hb h3, h4⟩
theorem own_set {W : World} {base : Nat} {e : TypeId} {size n : Nat} {v : Value} {xs : List Value} (h : W.ownsRow base e size v n xs) {p : Addr} (hp : v.ownBlock ≠ some p.block) (u : Value) : (W.setCell p u).ownsRow base e size v n xs := by
  refine ⟨h.1, ?_⟩
  rcases h.2 with h1 | ⟨g, cap, cur, h1, h2, h3, h4⟩
  · exact .inl h1
  · refine .inr ⟨g, cap, cur, h1, h2, heap_set_other h3 (fun e => hp ?_) _, h4⟩
    subst h1
    simp [Value.ownBlock, e]
theorem own_lt {W : World} {base : Nat} {e : TypeId} {size n : Nat} {v : Value} {xs : List Value} (h : W.ownsRow base e size v n xs) {k : Nat} (hk : v.ownBlock = some k) : k < W.heap.size := by
  rcases h.2 with ⟨rfl, _⟩ | ⟨g, cap, cur, rfl, _, hg, _⟩
  · simp [Value.ownBlock] at hk
  · simp [Value.ownBlock] at hk; subst hk; exact lt_of_block hg
def ptrBlock : Value → Nat
  | .pointer (some a) => a.block
  | _ => 0
theorem parts_ten (a : Nat) (ha : a < 2 ^ 256) (w : World) :
    Calls Tryz.prog 110 #[.agg #[.int .u64 (dg (a) 0), .int .u64 (dg (a) 1), .int .u64 (dg (a) 2), .int .u64 (dg (a) 3)], .agg #[.int .u64 10, .int .u64 0, .int .u64 0, .int .u64 0]] w fun e w' => e = .returned (.tuple #[.agg #[.int .u64 (dg (a / 10) 0), .int .u64 (dg (a / 10) 1), .int .u64 (dg (a / 10) 2), .int .u64 (dg (a / 10) 3)], .agg #[.int .u64 (dg (a % 10) 0), .int .u64 (dg (a % 10) 1), .int .u64 (dg (a % 10) 2), .int .u64 (dg (a % 10) 3)]]) ∧ Below w.heap.size w w' := by
  obtain ⟨d0, d1, d2, d3⟩ := dg_small (m := 10) (by decide)
  have h := parts_any a 10 ha (by decide) (by decide) w
  rw [d0, d1, d2, d3] at h
  exact h
theorem byte_digit {m : Nat} : IntKind.u8.wrap (48 + IntKind.u8.wrap (dg (m % 10) 0)) = 48 + ((m % 10 : Nat) : Int) := by
  have h := (dg_small (m := m % 10) (by omega)).1
  rw [h]
  simp [IntKind.wrap, IntKind.bits, IntKind.signed]
  omega
theorem row_len {l : List Nat} {m n : Nat} (h : l ++ dec10 m = dec10 n) (hn : n < 2 ^ 256) : l.length ≤ 1000 := by
  have h1 := congrArg List.length h
  have h2 := dec10_len256 hn
  rw [List.length_append] at h1
  omega
theorem byte_ten {m : Nat} : (48 + dg (m % 10) 0) % 256 = 48 + ((m % 10 : Nat) : Int) := by
  have h := (dg_small (m := m % 10) (by omega)).1
  rw [h]
  omega
theorem own_step {W : World} {base : Nat} {e : TypeId} {v : Value} {l : List Nat} {c : Int} {d : Nat} (hc : c = 48 + (d : Int)) (h : W.ownsRow base e 1 v (l.length + 1) (bytesV (l.map fun d : Nat => 48 + (d : Int)) ++ [.int .u8 c])) :
    W.ownsRow base e 1 v (l ++ [d]).length (bytesV ((l ++ [d]).map fun d : Nat => 48 + (d : Int))) := by
  subst hc
  simpa [bytesV] using h
theorem own_four {W : World} {base : Nat} {e : TypeId} {size n : Nat} {v : Value} {xs : List Value} (h : W.ownsRow base e size v n xs) {b : Nat} (hp : v.ownBlock ≠ some b) (u0 u1 u2 u3 : Value) :
    ((((W.setCell ⟨b, 0, none⟩ u0).setCell ⟨b, 1, none⟩ u1).setCell ⟨b, 2, none⟩ u2).setCell ⟨b, 3, none⟩ u3).ownsRow base e size v n xs :=
  own_set (own_set (own_set (own_set h hp _) hp _) hp _) hp _
theorem own_turned {W : World} {base : Nat} {n : Nat} {v : Value} {xs : List Int} (h : W.ownsRow base 5 1 v n (bytesV xs)) (hn : 1 ≤ n) :
    ∃ g cap, v = .slice (some ⟨g, 0, none⟩) n cap ∧ base ≤ g ∧ TurnedAt g 5 (fun k => xs.getD k 0) n 0 W := by
  obtain ⟨h0, h1⟩ := h
  rcases h1 with ⟨_, h1⟩ | ⟨g, cap, cur, rfl, hg, hb, hc, _, hs, ht⟩
  · omega
  · refine ⟨g, cap, rfl, hg, cur, hb, fun k hk => ?_⟩
    rw [if_neg (by omega)]
    have h2 : (cur.toList.take (n * 1))[k]? = (bytesV xs)[k]? := by rw [ht]
    rw [List.getElem?_take, if_pos (by omega), Array.getElem?_toList] at h2
    rw [h2]
    have h3 : k < xs.length := by simp [bytesV] at h0; omega
    simp [bytesV, List.getElem?_eq_getElem h3]
theorem rev_str {W : World} {g n i cap : Nat} {t : TypeId} {xs : List Int} (h : TurnedAt g t (fun k => xs.getD k 0) n i W) (hi : n ≤ 2 * i + 1) (hl : xs.length = n) :
    (convert 130 9 (.slice (some ⟨g, 0, none⟩) n cap)).run Tryz.prog W = .ok (.string (strOfNums xs.reverse)) W := by
  refine run_convert_bytes_arg W 130 5 (by kernel_rfl) (by kernel_rfl) g 0 n cap xs.reverse (by simpa using hl) (fun k hk => ?_) _ (by kernel_rfl)
  rw [Nat.zero_add, turned_all h hi hk]
  subst hl
  rw [List.getD_eq_getElem?_getD, List.getD_eq_getElem?_getD, List.getElem?_reverse hk]
theorem text_bad (w : World) :
    Calls Tryz.prog 88 #[.agg #[.bool (true), .int .u64 (dg (0) 0), .int .u64 (dg (0) 1), .int .u64 (dg (0) 2), .int .u64 (dg (0) 3)]] w fun e w' => e = .returned (.tuple #[.string ⟨#[]⟩, .int .i64 2]) ∧ Below w.heap.size w w' := by
  go_enter Tryz.func88, Tryz.ntmps88
  go_wp2_with fail
  refine (check_bad _).mono ?_
  rintro e w1 ⟨rfl, hb1⟩
  have hw1 : Below w.heap.size w w1 := by
    focus (repeat (first | (with_reducible exact Below.refl _ _) | (with_reducible assumption) | ((with_reducible refine Below.setCell ?_ ?_ _); rotate_left; (focus (first | omega | (simp; done) | (simp; omega)))) | ((with_reducible refine Below.alloc ?_ ?_ _); rotate_left; (focus (first | omega | (simp; done) | (simp; omega)))) | (with_reducible refine Below.drew ?_) | (refine below_on ?_ (by assumption))))
  clear hb1
  go_wp2
  refine bodyPost_ret (by simp [results, Tryz.results88, go_sem]) rfl ⟨rfl, hw1⟩
set_option maxHeartbeats 1000000 in
theorem text_ok (z : Int) (hz : ab z < 2 ^ 256) (w : World) :
    Calls Tryz.prog 88 #[.agg #[.bool (ng (z)), .int .u64 (dg (ab (z)) 0), .int .u64 (dg (ab (z)) 1), .int .u64 (dg (ab (z)) 2), .int .u64 (dg (ab (z)) 3)]] w fun e w' => e = .returned (.tuple #[.string (textZ z), .int .i64 0]) ∧ Below w.heap.size w w' := by
  have hmf : ∀ (fn : Fn) (first cap : Array Value) (w : World), (Instr.makeFunc fn first cap).run Tryz.prog w = .ok (.func fn first cap) w := fun _ _ _ _ => rfl
  have HZ := Hd.mk hz
  clear hz
  go_enter Tryz.func88, Tryz.ntmps88
  go_wp2_with fail
  refine (check_ok z HZ.out _).mono ?_
  rintro e w1 ⟨rfl, hb1⟩
  have z0 : w1.heap[w.heap.size]? = some _ := heap_below hb1 (heap_new w _)
  have c0 := cell_at z0
  have f0 := frozen_at z0
  have hw1 : Below w.heap.size w w1 := by
    focus (repeat (first | (with_reducible exact Below.refl _ _) | (with_reducible assumption) | ((with_reducible refine Below.setCell ?_ ?_ _); rotate_left; (focus (first | omega | (simp; done) | (simp; omega)))) | ((with_reducible refine Below.alloc ?_ ?_ _); rotate_left; (focus (first | omega | (simp; done) | (simp; omega)))) | (with_reducible refine Below.drew ?_) | (refine below_on ?_ (by assumption))))
  have hsz := lt_of_block z0
  clear hb1
  go_wp2
  go_loopw [7] (fun v7 wr => ∃ b, v7 = .pointer (some ⟨b, 0, none⟩) ∧ TextInv (ab z) w1.heap.size b w1 wr) (fun v7 wr => magOf (ptrBlock v7) wr)
  case atStart =>
    refine ⟨w1.heap.size + 1, rfl, ab z, [], .slice none 0 0, HZ.out, rfl, heap_at (by simp) _, heap_old (heap_new _ _) _, ?_, by simp [Value.ownBlock], by omega, ?_⟩
    · exact ⟨rfl, .inl ⟨rfl, rfl⟩⟩
    focus (repeat (first | (with_reducible exact Below.refl _ _) | (with_reducible assumption) | ((with_reducible refine Below.setCell ?_ ?_ _); rotate_left; (focus (first | omega | (simp; done) | (simp; omega)))) | ((with_reducible refine Below.alloc ?_ ?_ _); rotate_left; (focus (first | omega | (simp; done) | (simp; omega)))) | (with_reducible refine Below.drew ?_) | (refine below_on ?_ (by assumption))))
  case round =>
    obtain ⟨b, rfl, m, l, v, hm, hl, y7, yB, hown, hne, hlt, hB⟩ := hrel
    have HM := Hd.mk hm
    have HL := Hd.mk hl
    have HO := Hd.mk hown
    have HN := Hd.mk hne
    have d7 := cell_at y7
    have f7 := frozen_at y7
    have dB := cell_at yB
    clear hm hl hown hne
    go_wp2_with fail
    refine (parts_ten _ HM.out _).mono ?_
    rintro e w2 ⟨rfl, hb2⟩
    have HMM := Hd.mk (magOf_eq HM.out y7)
    have v7 := heap_below hb2 y7
    have vB := heap_below hb2 yB
    have HO2 := Hd.mk (own_below HO.out hb2)
    have hw2 : Below w1.heap.size w1 w2 := below_on hB hb2
    have hs2 := lt_of_block v7
    have hs3 := hw2.size
    have HLT := Hd.mk (fun k (hk : v.ownBlock = some k) => own_lt HO2.out hk)
    clear y7 yB d7 f7 dB hB hb2 HO
    go_upto_region 8 with (fail)
    refine abs_wp (fun W => W.heap[b]? = some (.cells #[.int .u64 (dg (m) 0), .int .u64 (dg (m) 1), .int .u64 (dg (m) 2), .int .u64 (dg (m) 3)] 168 (0, 0)) ∧ W.heap[w1.heap.size]? = some (.cells #[v] 130 (0, 0)) ∧ W.heap[w2.heap.size]? = some (.cells #[.int .u64 (dg (m / 10) 0), .int .u64 (dg (m / 10) 1), .int .u64 (dg (m / 10) 2), .int .u64 (dg (m / 10) 3)] 168 (0, 0)) ∧ W.heap[w2.heap.size + 1]? = some (.cells #[.int .u64 (dg (m % 10) 0), .int .u64 (dg (m % 10) 1), .int .u64 (dg (m % 10) 2), .int .u64 (dg (m % 10) 3)] 168 (0, 0)) ∧
      W.ownsRow (w1.heap.size + 1) 5 1 v l.length (bytesV (l.map fun d : Nat => 48 + (d : Int))) ∧ Below w1.heap.size w1 W) ⟨heap_old (heap_old v7 _) _, heap_old (heap_old vB _) _, heap_old (heap_new _ _) _, heap_at (by simp) _, (HO2.out.alloc _).alloc _, by focus (repeat (first | (with_reducible exact Below.refl _ _) | (with_reducible assumption) | ((with_reducible refine Below.setCell ?_ ?_ _); rotate_left; (focus (first | omega | (simp; done) | (simp; omega)))) | ((with_reducible refine Below.alloc ?_ ?_ _); rotate_left; (focus (first | omega | (simp; done) | (simp; omega)))) | (with_reducible refine Below.drew ?_) | (refine below_on ?_ (by assumption))))⟩ fun W ⟨y7, yB, y8, y9, hown, hB⟩ => ?_
    clear v7 vB HO2 hw2
    have d9 := cell_at y9
    have HO := Hd.mk hown
    clear hown
    have hs4 := lt_of_block y9
    have HK := Hd.mk (row_len HL.out HZ.out)
    go_wp2_with fail
    refine (put_any _ w1.heap.size (w1.heap.size + 1) v l.length _ _ yB (by omega) (by omega) HO.out HK.out).mono ?_
    rintro e w3 ⟨rfl, v', yB', hown', hold, hbw, hat⟩
    have HO3 := Hd.mk (own_step byte_ten hown')
    have x7 := hold b _ (by omega) (fun e => HN.out e.symm) y7
    have x8 := hold w2.heap.size _ (by omega) (fun e => absurd (HLT.out _ e.symm) (by omega)) y8
    have HN3 : Hd (v'.ownBlock ≠ some b) := ⟨fun e => by
      rcases hat with h1 | ⟨q, h1, h2⟩
      · exact HN.out (h1 ▸ e)
      · rw [h1] at e
        injection e with e
        omega⟩
    have hB3 : Below w1.heap.size w1 w3 := hB.trans hbw
    have d7 := cell_at x7
    have f7 := frozen_at x7
    have d8 := cell_at x8
    clear hown' hold hbw hat y7 yB y8 y9 hB d9 HO
    go_upto_region 10 with (fail)
    obtain ⟨l1, l2, l3⟩ := laid_four b w3 (.int .u64 (dg (m / 10) 0)) (.int .u64 (dg (m / 10) 1)) (.int .u64 (dg (m / 10) 2)) (.int .u64 (dg (m / 10) 3))
    refine abs_wp (fun W => W.heap[b]? = some (.cells #[.int .u64 (dg (m / 10) 0), .int .u64 (dg (m / 10) 1), .int .u64 (dg (m / 10) 2), .int .u64 (dg (m / 10) 3)] 168 (0, 0)) ∧ W.heap[w1.heap.size]? = some (.cells #[v'] 130 (0, 0)) ∧
      W.ownsRow (w1.heap.size + 1) 5 1 v' (l ++ [m % 10]).length (bytesV ((l ++ [m % 10]).map fun d : Nat => 48 + (d : Int))) ∧ Below w1.heap.size w1 W) ⟨l1 x7 rfl, l2 _ _ (by omega) yB', own_four HO3.out HN3.out _ _ _ _, hB3.trans (l3 _ (by omega))⟩ fun W ⟨y7, yB, hown, hB⟩ => ?_
    clear l1 l2 l3 x7 x8 yB' d7 f7 d8 hB3 HO3
    have HO := Hd.mk hown
    have d7 := cell_at y7
    have hq : m / 10 < 2 ^ 256 := Nat.lt_of_le_of_lt (Nat.div_le_self _ _) HM.out
    have HQ := Hd.mk hq
    have hz := mag_zero hq
    have hs5 := lt_of_block y7
    clear hown hq
    by_cases h0 : m / 10 = 0
    · rw [decide_eq_true h0] at hz
      have HL2 : Hd (l ++ [m % 10] = dec10 (ab z)) := ⟨by
        have h1 : m < 10 := by omega
        rw [← HL.out, dec10_small h1, Nat.mod_eq_of_lt h1]⟩
      clear h0
      have x0 := heap_below hB z0
      have e0 := cell_at x0
      clear z0 c0 f0
      cases hs : ng z
      · rw [hs] at e0
        have HR : Hd (revB z = (l ++ [m % 10]).map fun d : Nat => 48 + (d : Int)) := ⟨by
          unfold revB; rw [hs, HL2.out]; simp⟩
        clear hs
        have HN1 : Hd (1 ≤ (l ++ [m % 10]).length) := ⟨by simp⟩
        have HN2 : Hd ((l ++ [m % 10]).length ≤ 1000) := ⟨by have h1 := dec10_len256 HZ.out; rw [← HL2.out] at h1; omega⟩
        have HN4 : Hd (((l ++ [m % 10]).map fun d : Nat => 48 + (d : Int)).length = (l ++ [m % 10]).length) := ⟨by simp⟩
        generalize (l ++ [m % 10]).length = n at HO HN1 HN2 HN4
        generalize ((l ++ [m % 10]).map fun d : Nat => 48 + (d : Int)) = xs at HO HR HN4
        go_upto_region 15 with (fail)
        obtain ⟨g, cap, hv, hg, hT⟩ := own_turned HO.out HN1.out
        subst hv
        have HT := Hd.mk hT
        have dB := cell_at yB
        have hgW : g < W.heap.size := by
          obtain ⟨cur, k1, _⟩ := hT
          exact lt_of_block k1
        clear hT HO
        go_wp2_with fail
        refine (reverse_any g _ cap 5 _ _ HT.out HN1.out HN2.out).mono ?_
        rintro e w4 ⟨rfl, ⟨i, hT4, hi⟩, hold4, hb4⟩
        have yB4 := hold4 _ _ (by omega) yB
        have dB4 := cell_at yB4
        have hcv := rev_str (cap := cap) hT4 hi HN4.out
        have hB4 : Below w1.heap.size w1 w4 := hB.trans (hb4.mono (by omega))
        have HF : Hd (Below w.heap.size w w4) := ⟨hw1.trans (hB4.mono (by omega))⟩
        clear dB hold4 hb4 hT4 hB4
        go_wp2
        refine bodyPost_ret (by simp [results, Tryz.results88, go_sem]; rfl) rfl ⟨?_, HF.out⟩
        unfold textZ
        rw [HR.out]
      · rw [hs] at e0
        have HR : Hd (revB z = ((l ++ [m % 10]).map fun d : Nat => 48 + (d : Int)) ++ [45]) := ⟨by
          unfold revB; rw [hs, HL2.out]; simp⟩
        clear hs
        have HN0 : Hd ((l ++ [m % 10]).length ≤ 78) := ⟨by rw [HL2.out]; exact dec10_len256 HZ.out⟩
        have HN4 : Hd ((((l ++ [m % 10]).map fun d : Nat => 48 + (d : Int)) ++ [45]).length = (l ++ [m % 10]).length + 1) := ⟨by simp⟩
        generalize (l ++ [m % 10]).length = n at HO HN0 HN4
        generalize ((l ++ [m % 10]).map fun d : Nat => 48 + (d : Int)) = xs at HO HR HN4
        have hsW := hB.size
        go_wp2_with fail
        refine (put_any 45 w1.heap.size (w1.heap.size + 1) v' n _ _ yB (by omega) (by omega) HO.out (by have := HN0.out; omega)).mono ?_
        rintro e w5 ⟨rfl, v5, yB5, hown5, _, hbw5, _⟩
        have HO5 : Hd (w5.ownsRow (w1.heap.size + 1) 5 1 v5 (n + 1) (bytesV (xs ++ [45]))) := ⟨by simpa [bytesV] using hown5⟩
        have hB5 : Below w1.heap.size w1 w5 := hB.trans hbw5
        have HN1 : Hd (1 ≤ n + 1) := ⟨by omega⟩
        have HN2 : Hd (n + 1 ≤ 1000) := ⟨by have := HN0.out; omega⟩
        clear x0 e0 HO hown5 hbw5 yB hB y7 d7 hs5 hsW
        have HO := HO5
        have yB := yB5
        have hB := hB5
        clear HO5 yB5 hB5
        go_upto_region 15 with (fail)
        obtain ⟨g, cap, hv, hg, hT⟩ := own_turned HO.out HN1.out
        subst hv
        have HT := Hd.mk hT
        have dB := cell_at yB
        have hgW : g < w5.heap.size := by
          obtain ⟨cur, k1, _⟩ := hT
          exact lt_of_block k1
        clear hT HO
        go_wp2_with fail
        refine (reverse_any g _ cap 5 _ _ HT.out HN1.out HN2.out).mono ?_
        rintro e w4 ⟨rfl, ⟨i, hT4, hi⟩, hold4, hb4⟩
        have yB4 := hold4 _ _ (by omega) yB
        have dB4 := cell_at yB4
        have hcv := rev_str (cap := cap) hT4 hi HN4.out
        have hB4 : Below w1.heap.size w1 w4 := hB.trans (hb4.mono (by omega))
        have HF : Hd (Below w.heap.size w w4) := ⟨hw1.trans (hB4.mono (by omega))⟩
        clear dB hold4 hb4 hT4 hB4
        go_wp2
        refine bodyPost_ret (by simp [results, Tryz.results88, go_sem]; rfl) rfl ⟨?_, HF.out⟩
        unfold textZ
        rw [HR.out]
        simp
    · rw [decide_eq_false h0] at hz
      have HL2 : Hd ((l ++ [m % 10]) ++ dec10 (m / 10) = dec10 (ab z)) := ⟨by
        have h1 : ¬ m < 10 := by omega
        rw [← HL.out, dec10_big h1, List.append_assoc]; rfl⟩
      have HP : Hd (m / 10 < m) := ⟨by omega⟩
      clear h0
      go_wp2
      refine ⟨⟨W.heap.size, rfl, m / 10, l ++ [m % 10], v', HQ.out, HL2.out, heap_new _ _, heap_old yB _, HO.out.alloc _, fun e => absurd (own_lt HO.out e) (by omega), by omega, by focus (repeat (first | (with_reducible exact Below.refl _ _) | (with_reducible assumption) | ((with_reducible refine Below.setCell ?_ ?_ _); rotate_left; (focus (first | omega | (simp; done) | (simp; omega)))) | ((with_reducible refine Below.alloc ?_ ?_ _); rotate_left; (focus (first | omega | (simp; done) | (simp; omega)))) | (with_reducible refine Below.drew ?_) | (refine below_on ?_ (by assumption))))⟩, ?_⟩
      have h8 := magOf_eq HQ.out (heap_new W (.cells #[.int .u64 (dg (m / 10) 0), .int .u64 (dg (m / 10) 1), .int .u64 (dg (m / 10) 2), .int .u64 (dg (m / 10) 3)] 168 (0, 0)))
      exact Nat.lt_of_le_of_lt (Nat.le_of_eq h8) (Nat.lt_of_lt_of_eq HP.out HMM.out.symm)
end Go.Proofs.YtfchmikbebdflaaGreatDoor
