/-
  The law package of tags: its small helpers; Many, Less where they are called. Conditions stand in each theorem.
-/
import Derived.Test.YtfgdichdddknlaaDoorGv1
namespace Go.Proofs.YtfgdichdddknlaaDoor
open Go.RowKit Go.BigFrame Go.Shelf

set_option maxHeartbeats 1000000 in
theorem tl_num (n : Int) (w : World) : Calls Tryd.prog 16 #[.int .i64 n] w fun e w' => e = .returned (.int .i64 n) ∧ w' = w := by
  go_enter Tryd.func16, Tryd.ntmps16
  go_wp2
  go_ret
  exact ⟨rfl, rfl⟩
set_option maxRecDepth 100000 in
set_option maxHeartbeats 1000000 in
theorem rt_same (l : List Int) (hl : l.length ≤ 1000) (A B : Option Addr) (c d : Nat) (w : World) (hN : NumsIn w A l) (hM : NumsIn w B l) :
    Calls Tryd.prog 14 #[.slice A l.length c, .slice B l.length d] w fun e w' => e = .returned (.bool true) ∧ Below w.heap.size w w' := by
  have HN := Hd.mk hN
  have HM := Hd.mk hM
  clear hN hM
  go_enter Tryd.func14, Tryd.ntmps14
  go_wp2
  go_loopw [5] (fun iv wr => ∃ i : Nat, iv = .int .i64 i ∧ i ≤ l.length ∧ Below w.heap.size w wr) (fun iv _ => l.length - (intOf iv).toNat)
  case atStart => exact ⟨0, rfl, Nat.zero_le _, Below.refl _ _⟩
  case round =>
    obtain ⟨i, rfl, hi, hB⟩ := hrel
    by_cases hlt : i < l.length
    · have hd1 : decide ((i : Int) < (l.length : Int)) = true := by simp; omega
      have hd2 : decide (i < l.length) = true := by simp; omega
      obtain ⟨x, hx⟩ : ∃ x, l[i]? = some x := ⟨_, List.getElem?_eq_getElem hlt⟩
      obtain ⟨b, off, rfl, hcc⟩ := HN.out.below hB (by omega)
      obtain ⟨b', off', rfl, hcd⟩ := HM.out.below hB (by omega)
      have q1 := hcc i x hx
      have q2 := hcd i x hx
      have HB := Hd.mk hB.drew
      clear hcc hcd hx hB
      go_wp2
      go_region
      all_goals
        go_wp2
        go_roundw
      case rel => exact ⟨i + 1, by go_num, by omega, HB.out⟩
      case measure => simp [intOf]; omega
    · obtain rfl : i = l.length := by omega
      have hd1 : decide (((l.length : Nat) : Int) < (l.length : Int)) = false := by simp
      go_wp2
      go_ret
      exact ⟨rfl, hB⟩
set_option maxHeartbeats 1000000 in
theorem tl_many (A : Option Addr) (c : Nat) (w : World) (hN : CtsIn w A [(1, 1), (3, 2)]) :
    Calls Tryd.prog 13 #[.agg #[.slice A 2 c], .int .i64 3] w fun e w' => e = .returned (.int .i64 2) ∧ Below w.heap.size w w' := by
  have HN := Hd.mk hN
  have HF := Hd.mk (fun w hN => tg_find [(1, 1), (3, 2)] 3 A c (by unfold Rise keys; simp) (by decide) w hN)
  clear hN
  go_enter Tryd.func13, Tryd.ntmps13
  go_upto_region 1 with (fail)
  refine abs_wp (fun W => W.heap[w.heap.size]? = some (.cells #[.slice A 2 c] 26 (0, 0)) ∧ Below w.heap.size w W) ⟨heap_new _ _, (Below.refl _ _).alloc (Nat.le_refl _) _⟩ fun W ⟨y0, hB⟩ => ?_
  have c0 := cell_at y0
  go_wp2_with fail
  refine (HF.out _ (HN.out.below hB)).mono ?_
  rintro e w1 ⟨i, hp, rfl, hb⟩
  have hi1 : i = 1 := by
    have h1 := hp.1
    have h2 := hp.2.1
    have h3 := hp.2.2
    match i, h1, h2, h3 with
    | 0, _, _, h3 => have := h3 0 (1, 1) rfl (by omega); simp at this
    | 1, _, _, _ => rfl
    | 2, _, h2, _ => have := h2 1 (3, 2) rfl (by omega); simp at this
    | i + 3, h1, _, _ => simp at h1
  subst hi1
  have e1 : isAt [(1, 1), (3, 2)] 3 1 = true := by decide
  rw [e1]
  have z0 := heap_below hb y0
  have hB1 := below_on hB hb
  have c0 := cell_at z0
  obtain ⟨b, off, rfl, hcc⟩ := HN.out.below hB1 (by decide)
  have q1 := (hcc 1 (3, 2) rfl).2
  simp only at q1
  clear hcc hb hB hp e1
  go_wp2
  go_ret
  exact ⟨rfl, hB1⟩
set_option maxRecDepth 100000 in
set_option maxHeartbeats 2000000 in
theorem tl_less (A : Option Addr) (c : Nat) (w : World) (hN : CtsIn w A [(1, 1)]) :
    Calls Tryd.prog 9 #[.agg #[.slice A 1 c], .int .i64 2] w (NewPost [] 5 w) := by
  have HN := Hd.mk hN
  have HF := Hd.mk (fun w hN => tg_find [(1, 1)] 2 A c (by unfold Rise keys; simp) (by decide) w hN)
  unfold NewPost
  clear hN
  go_enter_defers Tryd.func9, Tryd.ntmps9
  go_upto_region 2 with (fail)
  refine abs_wp (fun W => W.heap[w.heap.size]? = some (.cells #[.slice A 1 c] 26 (0, 0)) ∧ W.heap[w.heap.size + 1]? = some (.cells #[.slice none 0 0] 26 (0, 0)) ∧ W.heap[w.heap.size + 2]? = some (.cells #[.int .i64 0] 27 (0, 0)) ∧ Below w.heap.size w W) ⟨heap_old (heap_old (heap_new _ _) _) _, heap_old (heap_at (by simp) _) _, heap_at (by simp) _, (((Below.refl _ _).alloc (Nat.le_refl _) _).alloc (by simp) _).alloc (by simp; omega) _⟩ fun W0 ⟨yt, y0, y1, hB⟩ => ?_
  go_wp2_with fail
  refine (tg_right 2 _).mono ?_
  rintro e w4 ⟨rfl, rfl⟩
  have e1 : rightB 2 = true := by decide
  rw [e1]
  clear e1
  go_wp2_with fail
  refine (tg_must _ _).mono ?_
  rintro e w4 ⟨rfl, rfl⟩

  have ct := cell_at yt
  go_wp2_with fail
  refine (HF.out _ (HN.out.below hB)).mono ?_
  rintro e w1 ⟨i, hp, rfl, hb⟩
  have hi1 : i = 1 := by
    have h1 := hp.1
    have h3 := hp.2.2
    match i, h1, h3 with
    | 0, _, h3 => have := h3 0 (1, 1) rfl (by omega); simp at this
    | 1, _, _ => rfl
    | i + 2, h1, _ => simp at h1
  subst hi1
  have e1 : isAt [(1, 1)] 2 1 = false := by decide
  rw [e1]
  have z0 := heap_below hb y0
  have z1 := heap_below hb y1
  have HB1 := Hd.mk (below_on hB hb)
  clear hb y0 y1 hB yt ct e1 hp
  go_wp2_with (go_at_call 18; refine (tg_must_no _ _).mono ?_; rintro e w4 ⟨rfl, h4⟩; cases h4)
  refine leaves_cons (f := 17) (args := #[.pointer (some ⟨w.heap.size + 1, 0, none⟩), .pointer (some ⟨w.heap.size + 2, 0, none⟩)]) (by simp) (by simp [go_sem]) ?_
  refine (tgc_full (w.heap.size + 1) (w.heap.size + 2) _ _ 5 _ _ (by omega) z0 z1).mono ?_
  rintro e u' w9 ⟨rfl, rfl, y1, y2, hy⟩
  refine abs_leaves (fun W => W.heap[w.heap.size + 1]? = some (.cells #[.slice none 0 0] 26 (0, 0)) ∧ W.heap[w.heap.size + 2]? = some (.cells #[.int .i64 5] 27 (0, 0)) ∧ Below w.heap.size w W) ⟨y1, y2, HB1.out.trans (hy _ (by omega) (by omega))⟩ fun W ⟨y1, y2, hB⟩ => ?_
  have c1 := cell_at y1
  have c2 := cell_at y2
  simp [Leaves, settle, results, Tryd.results9, go_sem, c1, c2]
  exact ⟨fun h0 => absurd h0 (Nat.lt_irrefl 0), hB⟩
end Go.Proofs.YtfgdichdddknlaaDoor
