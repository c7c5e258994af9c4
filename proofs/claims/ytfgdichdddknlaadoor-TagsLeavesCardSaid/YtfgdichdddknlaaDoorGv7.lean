/-
  Tags: Parse where the law's package calls it. Conditions stand in each theorem.
-/
import Derived.Test.YtfgdichdddknlaaDoorGv1
import Derived.Test.YtfgdichdddknlaaDoorGv6
namespace Go.Proofs.YtfgdichdddknlaaDoor
open Go.RowKit Go.BigFrame Go.Shelf
attribute [-go_sem] Builtin.append_

theorem tp_split (w : World) (hV : VarsT w) : Calls Tryd.prog 29 #[.string ⟨#[50, 32, 49]⟩, .string ⟨#[32]⟩] w fun e w' => e = .returned (.slice (some ⟨w.heap.size, 0, none⟩) 2 2) ∧ w' = w.alloc (.cells #[.string ⟨#[50]⟩, .string ⟨#[49]⟩] 9) := by
  obtain ⟨m, hm⟩ := hV
  have h := sh_strings_Split ⟨#[50, 32, 49]⟩ ⟨#[32]⟩ m w (by decide) hm (by decide)
  rw [show Lib.countB (⟨#[50, 32, 49]⟩ : ByteArray) ⟨#[32]⟩ = 1 by kernel_rfl, show ((Lib.splitB (⟨#[32]⟩ : ByteArray) 0 1 ⟨#[50, 32, 49]⟩).map Value.string).toArray = #[.string ⟨#[50]⟩, .string ⟨#[49]⟩] by kernel_rfl] at h
  exact h
theorem tp_int (s : ByteArray) (v : Int) (hmax : s.size ≤ 9223372036854775806) (h : Lib.parseIntB 64 s.data.toList = .ok v) (w : World) : Calls Tryd.prog 30 #[.string s, .int .i64 10, .int .i64 64] w fun e w' => e = .returned (.tuple #[.int .i64 v, .nilIface]) ∧ Below w.heap.size w w' :=
  (sh_strconv_ParseInt_10_at64_ok s hmax v h w).mono fun e w' ⟨h, k⟩ => ⟨h, by
    rcases k with rfl | ⟨t, rfl⟩
    · exact Below.refl _ _
    · exact ⟨rfl, rfl, rfl, by rw [Lib.bytesWorld_size]; omega, fun j hj => Lib.bytesWorld_at_old w 5 t j hj⟩⟩
theorem tp_fmt (n : Nat) (hn : n < 100) (s : ByteArray) (h : (⟨(Lib.decDigits n).toArray⟩ : ByteArray) = s) (w : World) : Calls Tryd.prog 31 #[.int .i64 n, .int .i64 10] w fun e w' => e = .returned (.string s) ∧ w' = w := by
  rw [← h]
  exact sh_strconv_FormatInt_10_small n hn w
set_option maxRecDepth 100000 in
set_option maxHeartbeats 2000000 in
theorem tp_none (w : World) : Calls Tryd.prog 10 #[.string ⟨#[]⟩] w (NewPost [] 0 w) := by
  unfold NewPost
  go_enter_defers Tryd.func10, Tryd.ntmps10
  go_upto_region 1 with (fail)
  refine abs_wp (fun W => W.heap[w.heap.size]? = some (.cells #[.slice none 0 0] 26 (0, 0)) ∧ W.heap[w.heap.size + 1]? = some (.cells #[.int .i64 0] 27 (0, 0)) ∧ Below w.heap.size w W) ⟨heap_old (heap_new _ _) _, heap_at (by simp) _, ((Below.refl _ _).alloc (Nat.le_refl _) _).alloc (by simp) _⟩ fun W0 ⟨y0, y1, hB⟩ => ?_
  have c0 := cell_at y0
  have f0 := frozen_at y0
  have k1 := heap_set_other y1 (p := ⟨w.heap.size, 0, none⟩) (by simp) (.slice none 0 0)
  have f1 := frozen_at k1
  have c1 := cell_at k1
  have k0 := heap_set y0 0 (.slice none 0 0)
  have l0 := heap_set_other k0 (p := ⟨w.heap.size + 1, 0, none⟩) (by simp) (.int .i64 0)
  have l1 := heap_set k1 0 (.int .i64 0)
  have hBx : Below w.heap.size w ((W0.setCell ⟨w.heap.size, 0, none⟩ (.slice none 0 0)).setCell ⟨w.heap.size + 1, 0, none⟩ (.int .i64 0)) := (hB.setCell (by show _ ≤ _; simp) _).setCell (by show _ ≤ _; simp) _
  go_wp2
  refine abs_leaves (fun W => W.heap[w.heap.size]? = some (.cells #[.slice none 0 0] 26 (0, 0)) ∧ W.heap[w.heap.size + 1]? = some (.cells #[.int .i64 0] 27 (0, 0)) ∧ Below w.heap.size w W) ⟨l0, l1, hBx⟩ fun W ⟨y1, y2, hB⟩ => ?_
  have c1 := cell_at y1
  have c2 := cell_at y2
  simp [Leaves, results, Tryd.results10, go_sem, c1, c2]
  exact ⟨fun h0 => absurd h0 (Nat.lt_irrefl 0), hB⟩
set_option maxRecDepth 100000 in
set_option maxHeartbeats 2000000 in
theorem tp_back (w : World) (hV : VarsT w) : Calls Tryd.prog 10 #[.string ⟨#[50, 32, 49]⟩] w (NewPost [] 200 w) := by
  have HV := Hd.mk hV
  unfold NewPost
  clear hV
  have hq : ((⟨#[50, 32, 49]⟩ : ByteArray) == ⟨#[]⟩) = false := by decide
  go_enter_defers Tryd.func10, Tryd.ntmps10
  go_upto_region 4 with (fail)
  refine abs_wp (fun W => W.heap[w.heap.size]? = some (.cells #[.slice none 0 0] 26 (0, 0)) ∧ W.heap[w.heap.size + 1]? = some (.cells #[.int .i64 0] 27 (0, 0)) ∧ Below w.heap.size w W) ⟨heap_old (heap_new _ _) _, heap_at (by simp) _, ((Below.refl _ _).alloc (Nat.le_refl _) _).alloc (by simp) _⟩ fun W0 ⟨y0, y1, hB⟩ => ?_
  go_wp2_with fail
  refine (tp_split _ (HV.out.below hB)).mono ?_
  rintro e w1 ⟨rfl, hw1⟩
  have hb : Below W0.heap.size W0 w1 := by rw [hw1]; exact (Below.refl _ _).alloc (Nat.le_refl _) _
  have zs : w1.heap[W0.heap.size]? = some (.cells #[.string ⟨#[50]⟩, .string ⟨#[49]⟩] 9 (0, 0)) := by rw [hw1]; exact heap_new _ _
  have z0 := heap_below hb y0
  have z1 := heap_below hb y1
  have hB1 := below_on hB hb
  have hs1 := lt_of_block zs
  have hs2 := lt_of_block y1
  clear hw1 hb y0 y1 hB HV
  go_wp2
  go_loopw [4, 5, 16] (fun lv rv iv wr => (∃ k : Nat, iv = .int .i64 k ∧ ((k = 0 ∧ lv = .int .i64 0 ∧ rv = .slice none 0 0) ∨ (k = 1 ∧ lv = .int .i64 2))) ∧ Below w1.heap.size w1 wr) (fun _ _ iv _ => 2 - (intOf iv).toNat)
  case atStart => exact ⟨⟨0, rfl, .inl ⟨rfl, rfl, rfl⟩⟩, Below.refl _ _⟩
  case round =>
    obtain ⟨⟨k, rfl, hk⟩, hB2⟩ := hrel
    have xs := heap_below hB2 zs
    have cs := cell_at xs
    rcases hk with ⟨rfl, rfl, rfl⟩ | ⟨rfl, rfl⟩
    · go_wp2_with fail
      refine (tp_int ⟨#[50]⟩ 2 (by decide) (by kernel_rfl) _).mono ?_
      rintro e w2 ⟨rfl, hb⟩
      have hB3 := below_on hB2 hb
      clear hb xs cs hB2
      go_wp2_with fail
      refine (tp_fmt 2 (by decide) ⟨#[50]⟩ (by kernel_rfl) _).mono ?_
      rintro e w4 ⟨rfl, rfl⟩
      go_wp2_with fail
      refine (tg_right 2 _).mono ?_
      rintro e w4 ⟨rfl, rfl⟩
      have e1 : rightB 2 = true := by decide
      rw [e1]
      clear e1
      go_wp2_with fail
      refine (tg_must _ _).mono ?_
      rintro e w4 ⟨rfl, rfl⟩
      obtain ⟨i0, hi0, hz0, hz1, hz2⟩ := info_parts infoI64
      have hu : Tryd.prog.underlying 22 = some (.slice 2) := by kernel_rfl
      go_wp2_with (at_builtin; refine wpList_append_own_at _ rfl (.tmp 43) (.tmp 45) 22 rfl w1.heap.size 2 i0 (.int .i64 0) 1 8 hu hi0 hz0 hz1 hz2 rfl (by decide) (.slice none 0 0) 0 [] rfl ⟨rfl, .inl ⟨rfl, rfl⟩⟩ ⟨w4.heap.size, 0, none⟩ 1 1 [.int .i64 2] rfl rfl (cell_one_new _ _ _) ?c2 ?b1 ?b2 ?b3 ?go)
      case c2 => intro u hu; simp at hu; subst hu; rfl
      case b1 => unfold maxLen; omega
      case b2 => omega
      case b3 => have := hB3.size; simp; omega
      case go =>
        intro v' w6 hown' hgrow _ hat
        have hb6 : Below w1.heap.size w1 w6 := (hB3.alloc hB3.size _).trans (below_grown hgrow (fun k hk => by cases hk) (by have := hB3.size; simp; omega))
        clear hown' hgrow hat hi0 hz0 hz1 hz2 hu
        go_wp2
        go_roundw
        case rel => exact ⟨⟨1, by go_num, .inr ⟨rfl, rfl⟩⟩, hb6⟩
        case measure => simp [intOf]
    · go_wp2_with fail
      refine (tp_int ⟨#[49]⟩ 1 (by decide) (by kernel_rfl) _).mono ?_
      rintro e w2 ⟨rfl, hb⟩
      have hB3 := below_on hB2 hb
      clear hb xs cs hB2
      go_wp2_with fail
      refine (tp_fmt 1 (by decide) ⟨#[49]⟩ (by kernel_rfl) _).mono ?_
      rintro e w4 ⟨rfl, rfl⟩
      go_wp2_with fail
      refine (tg_right 1 _).mono ?_
      rintro e w4 ⟨rfl, rfl⟩
      have e1 : rightB 1 = true := by decide
      rw [e1]
      clear e1
      have x0 := heap_below hB3 z0
      have x1 := heap_below hB3 z1
      have HB1 := Hd.mk (hB1.trans (hB3.mono hB1.size))
      clear hB1 hB3
      go_wp2_with (go_at_call 18; refine (tg_must_no _ _).mono ?_; rintro e w4 ⟨rfl, h4⟩; cases h4)
      refine leaves_cons (f := 17) (args := #[.pointer (some ⟨w.heap.size, 0, none⟩), .pointer (some ⟨w.heap.size + 1, 0, none⟩)]) (by simp) (by simp [go_sem]) ?_
      refine (tgc_full w.heap.size (w.heap.size + 1) _ _ 200 _ _ (by omega) x0 x1).mono ?_
      rintro e u' w9 ⟨rfl, rfl, y1, y2, hy⟩
      refine abs_leaves (fun W => W.heap[w.heap.size]? = some (.cells #[.slice none 0 0] 26 (0, 0)) ∧ W.heap[w.heap.size + 1]? = some (.cells #[.int .i64 200] 27 (0, 0)) ∧ Below w.heap.size w W) ⟨y1, y2, HB1.out.trans (hy _ (Nat.le_refl _) (by omega))⟩ fun W ⟨y1, y2, hB⟩ => ?_
      have c1 := cell_at y1
      have c2 := cell_at y2
      simp [Leaves, settle, results, Tryd.results10, go_sem, c1, c2]
      exact ⟨fun h0 => absurd h0 (Nat.lt_irrefl 0), hB⟩
end Go.Proofs.YtfgdichdddknlaaDoor
