/-
  Walks: Text's closure that appends a byte; slices.Reverse over bytes. Conditions stand in each theorem.
-/
import Derived.Test.YteibcklcegkbcaaLm21
import Derived.WalkKit
import Derived.Laws.AppendOwn
import Derived.Maps.AppendAt
import Derived.Laws.BytesArg
namespace Go.Proofs.Yteibcklcegkbcaa
open Go.RowKit Go.BigFrame

theorem infoByte : (Try.prog.info? 5).map (fun i => (i.zero, i.size, i.bytes)) = some (some (.int .u8 0), 1, 1) := by kernel_rfl
theorem below_grown {W W' : World} {row : Option Nat} (h : W.grownBy W' row) {n : Nat} (hr : ∀ k, row = some k → n ≤ k) (hn : n ≤ W.heap.size) : Below n W W' :=
  ⟨h.os, h.tape, h.output, h.size, fun k hk => h.block k (by omega) (fun e => by have := hr k e.symm; omega)⟩
theorem own_ge {W : World} {base : Nat} {e : TypeId} {size n : Nat} {v : Value} {xs : List Value} (h : W.ownsRow base e size v n xs) {k : Nat} (hk : v.ownBlock = some k) : base ≤ k := by
  rcases h.2 with ⟨rfl, _⟩ | ⟨g, cap, cur, rfl, hg, _⟩
  · simp [Value.ownBlock] at hk
  · simp [Value.ownBlock] at hk; omega
theorem own_laid {W : World} {base : Nat} {e : TypeId} {size n : Nat} {v : Value} {xs : List Value} (h : W.ownsRow base e size v n xs) {B : Nat} (hB : B < base) (u : Value) : (W.setCell ⟨B, 0, none⟩ u).ownsRow base e size v n xs := by
  refine ⟨h.1, ?_⟩
  rcases h.2 with h1 | ⟨g, cap, cur, h1, h2, h3, h4⟩
  · exact .inl h1
  · exact .inr ⟨g, cap, cur, h1, h2, heap_set_other h3 (by simp; omega) _, h4⟩
/-- What a byte that is put leaves. -/
def PutPost (B base n : Nat) (v : Value) (xs : List Value) (c : Int) (W w' : World) : Prop :=
  ∃ v', w'.heap[B]? = some (.cells #[v'] 92 (0, 0)) ∧ w'.ownsRow base 5 1 v' (n + 1) (xs ++ [.int .u8 c]) ∧ (∀ k o, k ≠ B → some k ≠ v.ownBlock → W.heap[k]? = some o → w'.heap[k]? = some o) ∧ Below B W w' ∧ (v'.ownBlock = v.ownBlock ∨ ∃ q, v'.ownBlock = some q ∧ W.heap.size ≤ q)
set_option maxHeartbeats 1000000 in
theorem put_any (c : Int) (B base : Nat) (v : Value) (n : Nat) (xs : List Value) (W : World) (h : W.heap[B]? = some (.cells #[v] 92 (0, 0))) (hB : B < base) (hbase : base ≤ W.heap.size)
    (hown : W.ownsRow base 5 1 v n xs) (hn : n ≤ 1000) :
    Calls Try.prog 56 #[.int .u8 c, .pointer (some ⟨B, 0, none⟩)] W fun e w' => e = .returned (.tuple #[]) ∧ PutPost B base n v xs c W w' := by
  obtain ⟨i0, hi, hz0, hz1, hz2⟩ := info_parts infoByte
  have hu : Try.prog.underlying 92 = some (.slice 5) := by kernel_rfl
  have hc := cell_at h 0
  have hf := frozen_at h
  have HH := Hd.mk h
  simp only [List.getElem?_toArray, List.getElem?_cons_zero] at hc
  go_enter Try.func56, Try.ntmps56
  go_wp2_with (at_builtin; refine wpList_append_own_at _ rfl (.tmp 3) (.tmp 5) 92 rfl base 5 i0 (.int .u8 0) 1 1 hu hi hz0 hz1 hz2 rfl (by decide) v n xs rfl (hown.alloc _) ⟨W.heap.size, 0, none⟩ 1 1 [.int .u8 c] rfl rfl (cell_one_new _ _ _) ?c2 ?b1 ?b2 ?b3 ?go)
  case c2 => intro u hu; simp at hu; subst hu; rfl
  case b1 => unfold maxLen; omega
  case b2 => omega
  case b3 => simp; omega
  case go =>
    intro v' w1 hown' hgrow _ hat
    have hr : ∀ k, v.ownBlock = some k → base ≤ k := fun k hk => own_ge hown hk
    have hold : ∀ k o, some k ≠ v.ownBlock → W.heap[k]? = some o → w1.heap[k]? = some o := fun k o hk ho =>
      (hgrow.block k (by have := lt_of_block ho; simp; omega) hk).trans (heap_old ho _)
    have y0 := hold B _ (fun e => by have := hr B e.symm; omega) h
    have hat' : v'.ownBlock = v.ownBlock ∨ ∃ q, v'.ownBlock = some q ∧ W.heap.size ≤ q := by
      rcases hat with h1 | h1
      · exact .inl h1
      · exact .inr ⟨_, h1, by simp⟩
    have HAT := Hd.mk hat'
    clear hat hat'
    have hb : Below B W w1 := (Below.alloc (Below.refl B W) (by omega) _).trans (below_grown hgrow (fun k hk => by have := hr k hk; omega) (by simp; omega))
    have hc1 : w1.cell? ⟨B, 0, none⟩ = some v := cell_at y0 0
    have hf1 := frozen_at y0
    obtain ⟨g, cap, hv'⟩ : ∃ g cap, v' = .slice (some ⟨g, 0, none⟩) (n + 1) cap := by
      rcases hown'.2 with ⟨_, h0⟩ | ⟨g, cap, cur, h1, _⟩
      · omega
      · exact ⟨g, cap, h1⟩
    subst hv'
    have HO := Hd.mk hown'
    have HL := Hd.mk hold
    have HB := Hd.mk hb
    have HY := Hd.mk y0
    have HI := Hd.mk hB
    clear hf hc h hgrow hown' hold hb y0 HH hown hr hi hz0 hz1 hz2 hu hB hbase
    go_wp2
    go_end0
    have y0 := HY.out
    have hown' := HO.out
    have hold := HL.out
    have hb := HB.out
    have hB := HI.out
    obtain ⟨l1, l2, l3⟩ := laid_one B w1 (.slice (some ⟨g, 0, none⟩) (n + 1) cap)
    refine ⟨rfl, _, l1 y0 rfl, own_laid hown' (by omega) _, fun k o hne hk ho => l2 k o hne (hold k o hk ho), hb.trans (l3 B (Nat.le_refl _)), HAT.out⟩
end Go.Proofs.Yteibcklcegkbcaa
