/-
  Walks: slices.Reverse over bytes. Conditions stand in each theorem.
-/
import Derived.Test.YteibcklcegkbcaaLm22
namespace Go.Proofs.Yteibcklcegkbcaa
open Go.RowKit Go.BigFrame

/-- What is left of a row of n bytes, of which i at either end are turned about. -/
def TurnedAt (g : Nat) (t : TypeId) (f : Nat → Int) (n i : Nat) (W : World) : Prop :=
  ∃ cur : Array Value, W.heap[g]? = some (.cells cur t (0, 0)) ∧ ∀ k, k < n → cur[k]? = some (.int .u8 (if k < i ∨ n - 1 - i < k then f (n - 1 - k) else f k))
theorem turned_step {g : Nat} {t : TypeId} {f : Nat → Int} {n i j : Nat} {W : World} (h : TurnedAt g t f n i W) (hij : i + j + 1 = n) (hlt : i < j) :
    TurnedAt g t f n (i + 1) ((W.setCell ⟨g, i, none⟩ (.int .u8 (f j))).setCell ⟨g, j, none⟩ (.int .u8 (f i))) := by
  obtain ⟨cur, h1, h2⟩ := h
  refine ⟨_, heap_set (heap_set h1 _ _) _ _, fun k hk => ?_⟩
  have hk1 := h2 k hk
  have hs : k < cur.size := (Array.getElem?_eq_some_iff.1 hk1).1
  rw [Array.getElem?_setIfInBounds, Array.size_setIfInBounds, Array.getElem?_setIfInBounds]
  by_cases e1 : j = k
  · subst e1
    rw [if_pos rfl, if_pos hs, if_pos (.inr (by omega)), show n - 1 - j = i by omega]
  · rw [if_neg e1]
    by_cases e2 : i = k
    · subst e2
      rw [if_pos rfl, if_pos hs, if_pos (.inl (by omega)), show n - 1 - i = j by omega]
    · rw [if_neg e2, hk1]
      by_cases e3 : k < i ∨ n - 1 - i < k
      · rw [if_pos e3, if_pos (by omega)]
      · rw [if_neg e3, if_neg (by omega)]
set_option maxHeartbeats 1000000 in
theorem reverse_any (g n cap : Nat) (t : TypeId) (f : Nat → Int) (W : World) (h : TurnedAt g t f n 0 W) (hn0 : 1 ≤ n) (hn : n ≤ 1000) :
    Calls Try.prog 57 #[.slice (some ⟨g, 0, none⟩) n cap] W fun e w' =>
      e = .returned (.tuple #[]) ∧ (∃ i, TurnedAt g t f n i w' ∧ n ≤ 2 * i + 1) ∧ (∀ k o, k ≠ g → W.heap[k]? = some o → w'.heap[k]? = some o) ∧ Below g W w' := by
  have HH := Hd.mk h
  have hn1 : IntKind.i64.wrap ((n : Int) - 1) = ((n - 1 : Nat) : Int) := by
    simp [IntKind.wrap, IntKind.bits, IntKind.signed]
    omega
  clear h
  go_enter Try.func57, Try.ntmps57
  go_wp2
  go_loopw [2, 3] (fun vi vj wr => ∃ i j : Nat, i + j + 1 = n ∧ i ≤ j + 1 ∧ vi = .int .i64 i ∧ vj = .int .i64 j ∧ TurnedAt g t f n i wr ∧ (∀ k o, k ≠ g → W.heap[k]? = some o → wr.heap[k]? = some o) ∧ Below g W wr) (fun _ vj _ => (intOf vj).toNat)
  case atStart => exact ⟨0, n - 1, by omega, by omega, rfl, rfl, HH.out, fun _ _ _ h => h, Below.refl _ _⟩
  case round =>
    obtain ⟨i, j, hij, hle, rfl, rfl, hT, hO, hB⟩ := hrel
    have HT := Hd.mk hT
    have HO := Hd.mk hO
    have HB := Hd.mk hB
    by_cases hlt : i < j
    · have hb : decide ((i : Int) < j) = true := by simpa using hlt
      obtain ⟨cur, h1, h2⟩ := hT
      have hi : cur[i]? = some (.int .u8 (f i)) := by rw [h2 i (by omega), if_neg (by omega)]
      have hj : cur[j]? = some (.int .u8 (f j)) := by rw [h2 j (by omega), if_neg (by omega)]
      have hin : (i : Int) < n := by omega
      have hjn : (j : Int) < n := by omega
      have HL := Hd.mk hlt
      clear hO hB h2
      go_upto_region 3 with (fail)
      refine region_mix 12 (by kernel_rfl) (by kernel_rfl) (fun _ _ _ _ h => h) fun X _ mk hmk hcl => ?_
      have q0 : ∀ x, (mk x).cell? ⟨g, i, none⟩ = some (.int .u8 (f i)) := fun x => (cell_at (heap_below (hmk x) h1) i).trans hi
      have q1 : ∀ x, (mk x).cell? ⟨g, j, none⟩ = some (.int .u8 (f j)) := fun x => (cell_at (heap_below (hmk x) h1) j).trans hj
      simp only [List.take_succ_cons, List.take_zero, List.drop_succ_cons, List.drop_zero]
      repeat (go_big_quiet_step (skip))
      refine wpQuiet_nil ?_
      rintro _ ⟨x, rfl⟩
      have hW1 := hmk x
      clear hcl hmk q0 q1
      generalize mk x = W1 at hW1
      have y1 := heap_below hW1 h1
      have q0 : W1.cell? ⟨g, i, none⟩ = some (.int .u8 (f i)) := (cell_at y1 i).trans hi
      have q1 : W1.cell? ⟨g, j, none⟩ = some (.int .u8 (f j)) := (cell_at y1 j).trans hj
      have f1 := frozen_at y1
      have ne1 : j ≠ i := by omega
      go_wp2
      have hg := lt_of_block h1
      have hT1 : TurnedAt g t f n i W1 := by
        obtain ⟨c2, k1, k2⟩ := HT.out
        exact ⟨c2, heap_below hW1 k1, k2⟩
      refine ⟨⟨i + 1, j - 1, by omega, by omega, by go_num, by rw [show ((j - 1 : Nat) : Int) = (j : Int) - 1 by omega], turned_step hT1 hij HL.out, fun k o hk ho => ?_, ?_⟩, ?_⟩
      · exact heap_set_other (heap_set_other (heap_below hW1 (HO.out k o hk ho)) hk _) hk _
      · exact Below.setCell (Below.setCell (HB.out.trans (hW1.mono (by omega))) (Nat.le_refl _) _) (Nat.le_refl _) _
      · simp [intOf]; omega
    · have hge : j ≤ i := by omega
      have HL := Hd.mk hge
      clear hT hO hB hlt
      go_wp2
      go_end0
      have := HL.out
      exact ⟨rfl, ⟨i, HT.out, by omega⟩, HO.out, HB.out⟩
/-- At the end all is turned. -/
theorem turned_all {g : Nat} {t : TypeId} {f : Nat → Int} {n i : Nat} {W : World} (h : TurnedAt g t f n i W) (hi : n ≤ 2 * i + 1) {k : Nat} (hk : k < n) : W.cell? ⟨g, k, none⟩ = some (.int .u8 (f (n - 1 - k))) := by
  obtain ⟨cur, h1, h2⟩ := h
  rw [cell_at h1, h2 k hk]
  by_cases e : k < i ∨ n - 1 - i < k
  · rw [if_pos e]
  · rw [if_neg e, show n - 1 - k = k by omega]
end Go.Proofs.Yteibcklcegkbcaa
