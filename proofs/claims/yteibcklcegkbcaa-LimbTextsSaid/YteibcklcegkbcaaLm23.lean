/-
  Walks: slices.Reverse over bytes. Conditions stand in each theorem.
-/
import Derived.Test.YteibcklcegkbcaaLm21
import Derived.WalkKit
import Derived.Laws.AppendOwn
import Derived.Maps.AppendAt
import Derived.Laws.BytesArg
namespace Go.Proofs.Yteibcklcegkbcaa
open Go.RowKit Go.BigFrame

theorem infoByte : (Try.prog.info? 5).map (fun i => (i.zero, i.size, i.bytes)) = some (some (.int .u8 0), 1, 1) := by kernel_rfl
theorem below_grown {W W' : World} {row : Option Nat} (h : W.grownBy W' row) {n : Nat} (hr : ∀ k, row = some k → n ≤ k) (hn : n ≤ W.heap.size) : Below n W W' :=
  ⟨h.os, h.tape, h.output, h.size, fun k hk => h.block k (by omega) (fun e => by have := hr k e.symm; omega)⟩
theorem own_ge {W : World} {base : Nat} {e : TypeId} {size n : Nat} {v : Value} {xs : List Value} (h : W.ownsRow base e size v n xs) {k : Nat} (hk : v.ownBlock = some k) : base ≤ k := by
  rcases h.2 with ⟨rfl, _⟩ | ⟨g, cap, cur, rfl, hg, _⟩
  · simp [Value.ownBlock] at hk
  · simp [Value.ownBlock] at hk; omega
theorem own_laid {W : World} {base : Nat} {e : TypeId} {size n : Nat} {v : Value} {xs : List Value} (h : W.ownsRow base e size v n xs) {B : Nat} (hB : B < base) (u : Value) : (W.setCell ⟨B, 0, none⟩ u).ownsRow base e size v n xs := by
  refine ⟨h.1, ?_⟩
  rcases h.2 with h1 | ⟨g, cap, cur, h1, h2, h3, h4⟩
  · exact .inl h1
  · exact .inr ⟨g, cap, cur, h1, h2, heap_set_other h3 (by simp; omega) _, h4⟩
/-- What a byte that is put leaves. -/
def PutPost (B base n : Nat) (v : Value) (xs : List Value) (c : Int) (W w' : World) : Prop :=
  ∃ v', w'.heap[B]? = some (.cells #[v'] 92 (0, 0)) ∧ w'.ownsRow base 5 1 v' (n + 1) (xs ++ [.int .u8 c]) ∧ (∀ k o, k ≠ B → some k ≠ v.ownBlock → W.heap[k]? = some o → w'.heap[k]? = some o) ∧ Below B W w' ∧ (v'.ownBlock = v.ownBlock ∨ ∃ q, v'.ownBlock = some q ∧ W.heap.size ≤ q)
set_option maxHeartbeats 1000000 in
theorem put_any (c : Int) (B base : Nat) (v : Value) (n : Nat) (xs : List Value) (W : World) (h : W.heap[B]? = some (.cells #[v] 92 (0, 0))) (hB : B < base) (hbase : base ≤ W.heap.size)
    (hown : W.ownsRow base 5 1 v n xs) (hn : n ≤ 1000) :
    Calls Try.prog 56 #[.int .u8 c, .pointer (some ⟨B, 0, none⟩)] W fun e w' => e = .returned (.tuple #[]) ∧ PutPost B base n v xs c W w' := by
  obtain ⟨i0, hi, hz0, hz1, hz2⟩ := info_parts infoByte
  have hu : Try.prog.underlying 92 = some (.slice 5) := by kernel_rfl
  have hc := cell_at h 0
  have hf := frozen_at h
  have HH := Hd.mk h
  simp only [List.getElem?_toArray, List.getElem?_cons_zero] at hc
  go_enter Try.func56, Try.ntmps56
  go_wp2_with (at_builtin; refine wpList_append_own_at _ rfl (.tmp 3) (.tmp 5) 92 rfl base 5 i0 (.int .u8 0) 1 1 hu hi hz0 hz1 hz2 rfl (by decide) v n xs rfl (hown.alloc _) ⟨W.heap.size, 0, none⟩ 1 1 [.int .u8 c] rfl rfl (cell_one_new _ _ _) ?c2 ?b1 ?b2 ?b3 ?go)
  case c2 => intro u hu; simp at hu; subst hu; rfl
  case b1 => unfold maxLen; omega
  case b2 => omega
  case b3 => simp; omega
  case go =>
    intro v' w1 hown' hgrow _ hat
    have hr : ∀ k, v.ownBlock = some k → base ≤ k := fun k hk => own_ge hown hk
    have hold : ∀ k o, some k ≠ v.ownBlock → W.heap[k]? = some o → w1.heap[k]? = some o := fun k o hk ho =>
      (hgrow.block k (by have := lt_of_block ho; simp; omega) hk).trans (heap_old ho _)
    have y0 := hold B _ (fun e => by have := hr B e.symm; omega) h
    have hat' : v'.ownBlock = v.ownBlock ∨ ∃ q, v'.ownBlock = some q ∧ W.heap.size ≤ q := by
      rcases hat with h1 | h1
      · exact .inl h1
      · exact .inr ⟨_, h1, by simp⟩
    have HAT := Hd.mk hat'
    clear hat hat'
    have hb : Below B W w1 := (Below.alloc (Below.refl B W) (by omega) _).trans (below_grown hgrow (fun k hk => by have := hr k hk; omega) (by simp; omega))
    have hc1 : w1.cell? ⟨B, 0, none⟩ = some v := cell_at y0 0
    have hf1 := frozen_at y0
    obtain ⟨g, cap, hv'⟩ : ∃ g cap, v' = .slice (some ⟨g, 0, none⟩) (n + 1) cap := by
      rcases hown'.2 with ⟨_, h0⟩ | ⟨g, cap, cur, h1, _⟩
      · omega
      · exact ⟨g, cap, h1⟩
    subst hv'
    have HO := Hd.mk hown'
    have HL := Hd.mk hold
    have HB := Hd.mk hb
    have HY := Hd.mk y0
    have HI := Hd.mk hB
    clear hf hc h hgrow hown' hold hb y0 HH hown hr hi hz0 hz1 hz2 hu hB hbase
    go_wp2
    go_end0
    have y0 := HY.out
    have hown' := HO.out
    have hold := HL.out
    have hb := HB.out
    have hB := HI.out
    obtain ⟨l1, l2, l3⟩ := laid_one B w1 (.slice (some ⟨g, 0, none⟩) (n + 1) cap)
    refine ⟨rfl, _, l1 y0 rfl, own_laid hown' (by omega) _, fun k o hne hk ho => l2 k o hne (hold k o hk ho), hb.trans (l3 B (Nat.le_refl _)), HAT.out⟩
open Go.RowKit Go.BigFrame

/-- What is left of a row of n bytes, of which i at either end are turned about. -/
def TurnedAt (g : Nat) (t : TypeId) (f : Nat → Int) (n i : Nat) (W : World) : Prop :=
  ∃ cur : Array Value, W.heap[g]? = some (.cells cur t (0, 0)) ∧ ∀ k, k < n → cur[k]? = some (.int .u8 (if k < i ∨ n - 1 - i < k then f (n - 1 - k) else f k))
theorem turned_step {g : Nat} {t : TypeId} {f : Nat → Int} {n i j : Nat} {W : World} (h : TurnedAt g t f n i W) (hij : i + j + 1 = n) (hlt : i < j) :
    TurnedAt g t f n (i + 1) ((W.setCell ⟨g, i, none⟩ (.int .u8 (f j))).setCell ⟨g, j, none⟩ (.int .u8 (f i))) := by
  obtain ⟨cur, h1, h2⟩ := h
  refine ⟨_, heap_set (heap_set h1 _ _) _ _, fun k hk => ?_⟩
  have hk1 := h2 k hk
  have hs : k < cur.size := (Array.getElem?_eq_some_iff.1 hk1).1
  rw [Array.getElem?_setIfInBounds, Array.size_setIfInBounds, Array.getElem?_setIfInBounds]
  by_cases e1 : j = k
  · subst e1
    rw [if_pos rfl, if_pos hs, if_pos (.inr (by omega)), show n - 1 - j = i by omega]
  · rw [if_neg e1]
    by_cases e2 : i = k
    · subst e2
      rw [if_pos rfl, if_pos hs, if_pos (.inl (by omega)), show n - 1 - i = j by omega]
    · rw [if_neg e2, hk1]
      by_cases e3 : k < i ∨ n - 1 - i < k
      · rw [if_pos e3, if_pos (by omega)]
      · rw [if_neg e3, if_neg (by omega)]
set_option maxHeartbeats 1000000 in
theorem reverse_any (g n cap : Nat) (t : TypeId) (f : Nat → Int) (W : World) (h : TurnedAt g t f n 0 W) (hn0 : 1 ≤ n) (hn : n ≤ 1000) :
    Calls Try.prog 57 #[.slice (some ⟨g, 0, none⟩) n cap] W fun e w' =>
      e = .returned (.tuple #[]) ∧ (∃ i, TurnedAt g t f n i w' ∧ n ≤ 2 * i + 1) ∧ (∀ k o, k ≠ g → W.heap[k]? = some o → w'.heap[k]? = some o) ∧ Below g W w' := by
  have HH := Hd.mk h
  have hn1 : IntKind.i64.wrap ((n : Int) - 1) = ((n - 1 : Nat) : Int) := by
    simp [IntKind.wrap, IntKind.bits, IntKind.signed]
    omega
  clear h
  go_enter Try.func57, Try.ntmps57
  go_wp2
  go_loopw [2, 3] (fun vi vj wr => ∃ i j : Nat, i + j + 1 = n ∧ i ≤ j + 1 ∧ vi = .int .i64 i ∧ vj = .int .i64 j ∧ TurnedAt g t f n i wr ∧ (∀ k o, k ≠ g → W.heap[k]? = some o → wr.heap[k]? = some o) ∧ Below g W wr) (fun _ vj _ => (intOf vj).toNat)
  case atStart => exact ⟨0, n - 1, by omega, by omega, rfl, rfl, HH.out, fun _ _ _ h => h, Below.refl _ _⟩
  case round =>
    obtain ⟨i, j, hij, hle, rfl, rfl, hT, hO, hB⟩ := hrel
    have HT := Hd.mk hT
    have HO := Hd.mk hO
    have HB := Hd.mk hB
    by_cases hlt : i < j
    · have hb : decide ((i : Int) < j) = true := by simpa using hlt
      obtain ⟨cur, h1, h2⟩ := hT
      have hi : cur[i]? = some (.int .u8 (f i)) := by rw [h2 i (by omega), if_neg (by omega)]
      have hj : cur[j]? = some (.int .u8 (f j)) := by rw [h2 j (by omega), if_neg (by omega)]
      have hin : (i : Int) < n := by omega
      have hjn : (j : Int) < n := by omega
      have HL := Hd.mk hlt
      clear hO hB h2
      go_upto_region 3 with (fail)
      refine region_mix 12 (by kernel_rfl) (by kernel_rfl) (fun _ _ _ _ h => h) fun X _ mk hmk hcl => ?_
      have q0 : ∀ x, (mk x).cell? ⟨g, i, none⟩ = some (.int .u8 (f i)) := fun x => (cell_at (heap_below (hmk x) h1) i).trans hi
      have q1 : ∀ x, (mk x).cell? ⟨g, j, none⟩ = some (.int .u8 (f j)) := fun x => (cell_at (heap_below (hmk x) h1) j).trans hj
      simp only [List.take_succ_cons, List.take_zero, List.drop_succ_cons, List.drop_zero]
      repeat (go_big_quiet_step (skip))
      refine wpQuiet_nil ?_
      rintro _ ⟨x, rfl⟩
      have hW1 := hmk x
      clear hcl hmk q0 q1
      generalize mk x = W1 at hW1
      have y1 := heap_below hW1 h1
      have q0 : W1.cell? ⟨g, i, none⟩ = some (.int .u8 (f i)) := (cell_at y1 i).trans hi
      have q1 : W1.cell? ⟨g, j, none⟩ = some (.int .u8 (f j)) := (cell_at y1 j).trans hj
      have f1 := frozen_at y1
      have ne1 : j ≠ i := by omega
      go_wp2
      have hg := lt_of_block h1
      have hT1 : TurnedAt g t f n i W1 := by
        obtain ⟨c2, k1, k2⟩ := HT.out
        exact ⟨c2, heap_below hW1 k1, k2⟩
      refine ⟨⟨i + 1, j - 1, by omega, by omega, by go_num, by rw [show ((j - 1 : Nat) : Int) = (j : Int) - 1 by omega], turned_step hT1 hij HL.out, fun k o hk ho => ?_, ?_⟩, ?_⟩
      · exact heap_set_other (heap_set_other (heap_below hW1 (HO.out k o hk ho)) hk _) hk _
      · exact Below.setCell (Below.setCell (HB.out.trans (hW1.mono (by omega))) (Nat.le_refl _) _) (Nat.le_refl _) _
      · simp [intOf]; omega
    · have hge : j ≤ i := by omega
      have HL := Hd.mk hge
      clear hT hO hB hlt
      go_wp2
      go_end0
      have := HL.out
      exact ⟨rfl, ⟨i, HT.out, by omega⟩, HO.out, HB.out⟩
/-- At the end all is turned. -/
theorem turned_all {g : Nat} {t : TypeId} {f : Nat → Int} {n i : Nat} {W : World} (h : TurnedAt g t f n i W) (hi : n ≤ 2 * i + 1) {k : Nat} (hk : k < n) : W.cell? ⟨g, k, none⟩ = some (.int .u8 (f (n - 1 - k))) := by
  obtain ⟨cur, h1, h2⟩ := h
  rw [cell_at h1, h2 k hk]
  by_cases e : k < i ∨ n - 1 - i < k
  · rw [if_pos e]
  · rw [if_neg e, show n - 1 - k = k by omega]
end Go.Proofs.Yteibcklcegkbcaa
