/-
  Walks of seg: number, node, Parse of a text that is none. Conditions stand in each theorem.
-/
import Derived.Test.YtbhfnfokihdjjaaGreatDoorTy6
namespace Go.Proofs.YtbhfnfokihdjjaaGreatDoor
open Go.RowKit Go.BigFrame
theorem parse_range {l : List UInt8} {n : Int} (h : Lib.parseIntB 64 l = .ok n) : -9223372036854775808 ≤ n ∧ n ≤ 9223372036854775807 := by
  unfold Lib.parseIntB at h
  cases l with
  | nil => cases h
  | cons c r =>
    dsimp only at h
    split at h
    · cases h
    · cases h
    · rename_i u _
      split at h
      · cases h
      · split at h
        · cases h
        · injection h with h
          rename_i h1 h2
          have e1 : (2 : Nat) ^ (64 - 1) = 9223372036854775808 := by decide
          rw [e1] at h1 h2
          by_cases hc : c.toNat = 45
          · rw [if_pos hc] at h
            have : ¬ 9223372036854775808 < u := fun hh => h2 ⟨hc, hh⟩
            omega
          · rw [if_neg hc] at h
            have : ¬ 9223372036854775808 ≤ u := fun hh => h1 ⟨hc, hh⟩
            omega
/-- Where ParseInt tells an error. -/
theorem parse_err (s : ByteArray) (hsz : s.size ≤ 100) (h : ∀ n, Lib.parseIntB 64 s.data.toList ≠ .ok n) (w : World) (hV : Vars w) :
    Calls Tryz.prog 121 #[.string s, .int .i64 10, .int .i64 64] w fun e w' => ∃ v t p, e = .returned (.tuple #[.int .i64 v, .iface t p]) ∧ Below w.heap.size w w' := by
  cases hp : Lib.parseIntB 64 s.data.toList with
  | ok n => exact absurd hp (h n)
  | range =>
    obtain ⟨_, _, _, _, ⟨t, p, h5⟩⟩ := hV
    refine (sh_strconv_ParseInt_10_at64_range s (by omega) hp (.iface t p) w (h5.cell 0) (.inr ⟨t, p, rfl⟩)).mono fun e w' hh => ?_
    obtain ⟨N, he, _, _, hb⟩ := hh
    exact ⟨_, _, _, he, hb⟩
  | _ =>
    obtain ⟨_, _, _, ⟨t, p, h4⟩, _⟩ := hV
    refine (Any.strconv_ParseInt_10_at64_syntax sh_laysC174 s (by omega) hp (.iface t p) w (h4.cell 0) (.inr ⟨t, p, rfl⟩)).mono fun e w' hh => ?_
    obtain ⟨N, he, _, _, hb⟩ := hh
    exact ⟨_, _, _, he, hb⟩
set_option maxRecDepth 20000 in
set_option maxHeartbeats 4000000 in
/-- No number. -/
theorem number_no (s : ByteArray) (hsz : s.size ≤ 100) (hno : ∀ n : Int, -9223372036854775808 ≤ n ∧ n ≤ 9223372036854775807 → s ≠ itS n) (w : World) (hV : Vars w) :
    Calls Tryz.prog 96 #[.string s] w fun e w' => e = .panicked [{ v := .iface 26 (.int .i64 140), recovered := false }] ∧ Below w.heap.size w w' := by
  have HV := Hd.mk hV
  by_cases hp : ∃ n, Lib.parseIntB 64 s.data.toList = .ok n
  · obtain ⟨n, hp⟩ := hp
    have hr := parse_range hp
    have hne : ((itS n).toList == s.toList) = false := by
      rw [beq_eq_false_iff_ne, ByteArray.toList_eq, ByteArray.toList_eq]
      exact fun h => hno n hr (bytes_ext h).symm
    have HP : Hd (∀ w, Calls Tryz.prog 121 #[.string s, .int .i64 10, .int .i64 64] w fun e w' => e = .returned (.tuple #[.int .i64 n, .nilIface]) ∧ Below w.heap.size w w') := ⟨fun w => (sh_strconv_ParseInt_10_at64_ok s (by omega) n hp w).mono fun e w' ⟨h, k⟩ => ⟨h, by
      rcases k with rfl | ⟨t, rfl⟩
      · exact Below.refl _ _
      · exact below_bw w t⟩⟩
    have HF := Hd.mk (fun w hv => fmt_itS n hr.1 hr.2 w hv)
    generalize itS n = t at *
    clear hp hr hno hV
    go_enter Tryz.func96, Tryz.ntmps96
    go_wp2_with fail
    refine (HP.out _).mono ?_
    rintro e w1 ⟨rfl, hB⟩
    go_wp2_with fail
    refine (HF.out _ (HV.out.below hB)).mono ?_
    rintro e w2 ⟨rfl, hb⟩
    have hB2 := below_on hB hb
    clear hb hB
    go_wp2_with (go_at_call 48; refine (seg_must_no _ _).mono ?_; rintro e w4 ⟨rfl, rfl⟩)
    exact ⟨rfl, rfl, hB2⟩
  · have HP := Hd.mk (fun w hv => parse_err s hsz (fun n h => hp ⟨n, h⟩) w hv)
    clear hp hno hV
    go_enter Tryz.func96, Tryz.ntmps96
    go_wp2_with fail
    refine (HP.out _ HV.out).mono ?_
    rintro e w1 ⟨v, t, p, rfl, hB⟩
    go_wp2_with (go_at_call 48; refine (seg_must_no _ _).mono ?_; rintro e w4 ⟨rfl, rfl⟩)
    exact ⟨rfl, rfl, hB⟩
set_option maxRecDepth 20000 in
set_option maxHeartbeats 4000000 in
theorem node_n1 (s sx sy : ByteArray) (hs : s.size < 4294967281) (hc : Lib.cut s.data.toList (⟨#[32]⟩ : ByteArray).data.toList = (sx.data.toList, sy.data.toList, false))  (w : World) (hV : Vars w) :
    Calls Tryz.prog 67 #[.string s] w fun e w' => e = .panicked [{ v := .iface 26 (.int .i64 140), recovered := false }] ∧ Below w.heap.size w w' := by
  have HC : Hd (∀ w, Vars w → Calls Tryz.prog 66 #[.string s, .string ⟨#[32]⟩] w fun e w' => e = .returned (.tuple #[.string sx, .string sy, .bool false]) ∧ Below w.heap.size w w') := ⟨fun w hv => by
    have h := scut_any s ⟨#[32]⟩ w hs hv
    rw [hc] at h
    exact h⟩
  have HV := Hd.mk hV
  clear hs hc hV
  go_enter Tryz.func67, Tryz.ntmps67
  go_wp2_with fail
  refine (HC.out _ (HV.out.below (by focus (repeat (first | (with_reducible exact Below.refl _ _) | (with_reducible assumption) | ((with_reducible refine Below.setCell ?_ ?_ _); rotate_left; (focus (first | omega | (simp; done) | (simp; omega)))) | ((with_reducible refine Below.alloc ?_ ?_ _); rotate_left; (focus (first | omega | (simp; done) | (simp; omega)))) | (with_reducible refine Below.drew ?_) | (refine below_on ?_ (by assumption))))))).mono ?_
  rintro e w1 ⟨rfl, hb⟩
  have hB : Below w.heap.size w w1 := below_on (by focus (repeat (first | (with_reducible exact Below.refl _ _) | (with_reducible assumption) | ((with_reducible refine Below.setCell ?_ ?_ _); rotate_left; (focus (first | omega | (simp; done) | (simp; omega)))) | ((with_reducible refine Below.alloc ?_ ?_ _); rotate_left; (focus (first | omega | (simp; done) | (simp; omega)))) | (with_reducible refine Below.drew ?_) | (refine below_on ?_ (by assumption))))) hb
  clear hb HC
  go_wp2_with (go_at_call 48; refine (seg_must_no _ _).mono ?_; rintro e w4 ⟨rfl, rfl⟩)
  exact ⟨rfl, rfl, hB⟩
set_option maxRecDepth 20000 in
set_option maxHeartbeats 4000000 in
theorem node_n2 (s sx sy : ByteArray) (hs : s.size < 4294967281) (hc : Lib.cut s.data.toList (⟨#[32]⟩ : ByteArray).data.toList = (sx.data.toList, sy.data.toList, true)) (HX : Hd (∀ w : World, Vars w → Calls Tryz.prog 96 #[.string sx] w fun e w' => e = .panicked [{ v := .iface 26 (.int .i64 140), recovered := false }] ∧ Below w.heap.size w w')) (w : World) (hV : Vars w) :
    Calls Tryz.prog 67 #[.string s] w fun e w' => e = .panicked [{ v := .iface 26 (.int .i64 140), recovered := false }] ∧ Below w.heap.size w w' := by
  have HC : Hd (∀ w, Vars w → Calls Tryz.prog 66 #[.string s, .string ⟨#[32]⟩] w fun e w' => e = .returned (.tuple #[.string sx, .string sy, .bool true]) ∧ Below w.heap.size w w') := ⟨fun w hv => by
    have h := scut_any s ⟨#[32]⟩ w hs hv
    rw [hc] at h
    exact h⟩
  have HV := Hd.mk hV
  clear hs hc hV
  go_enter Tryz.func67, Tryz.ntmps67
  go_wp2_with fail
  refine (HC.out _ (HV.out.below (by focus (repeat (first | (with_reducible exact Below.refl _ _) | (with_reducible assumption) | ((with_reducible refine Below.setCell ?_ ?_ _); rotate_left; (focus (first | omega | (simp; done) | (simp; omega)))) | ((with_reducible refine Below.alloc ?_ ?_ _); rotate_left; (focus (first | omega | (simp; done) | (simp; omega)))) | (with_reducible refine Below.drew ?_) | (refine below_on ?_ (by assumption))))))).mono ?_
  rintro e w1 ⟨rfl, hb⟩
  have hB : Below w.heap.size w w1 := below_on (by focus (repeat (first | (with_reducible exact Below.refl _ _) | (with_reducible assumption) | ((with_reducible refine Below.setCell ?_ ?_ _); rotate_left; (focus (first | omega | (simp; done) | (simp; omega)))) | ((with_reducible refine Below.alloc ?_ ?_ _); rotate_left; (focus (first | omega | (simp; done) | (simp; omega)))) | (with_reducible refine Below.drew ?_) | (refine below_on ?_ (by assumption))))) hb
  clear hb HC
  go_wp2_with (go_at_call 48; refine (seg_must_ok _ _).mono ?_; rintro e w4 ⟨rfl, rfl⟩)
  refine (HX.out _ (HV.out.below hB)).mono ?_
  rintro e w2 ⟨rfl, hb⟩
  exact ⟨rfl, rfl, below_on hB hb⟩
set_option maxRecDepth 20000 in
set_option maxHeartbeats 4000000 in
theorem node_n3 (s sx sy : ByteArray) (hs : s.size < 4294967281) (hc : Lib.cut s.data.toList (⟨#[32]⟩ : ByteArray).data.toList = (sx.data.toList, sy.data.toList, true)) (x : Int) (HX : Hd (∀ w, Vars w → Calls Tryz.prog 96 #[.string sx] w fun e w' => e = .returned (.int .i64 x) ∧ Below w.heap.size w w')) (HY : Hd (∀ w : World, Vars w → Calls Tryz.prog 96 #[.string sy] w fun e w' => e = .panicked [{ v := .iface 26 (.int .i64 140), recovered := false }] ∧ Below w.heap.size w w')) (w : World) (hV : Vars w) :
    Calls Tryz.prog 67 #[.string s] w fun e w' => e = .panicked [{ v := .iface 26 (.int .i64 140), recovered := false }] ∧ Below w.heap.size w w' := by
  have HC : Hd (∀ w, Vars w → Calls Tryz.prog 66 #[.string s, .string ⟨#[32]⟩] w fun e w' => e = .returned (.tuple #[.string sx, .string sy, .bool true]) ∧ Below w.heap.size w w') := ⟨fun w hv => by
    have h := scut_any s ⟨#[32]⟩ w hs hv
    rw [hc] at h
    exact h⟩
  have HV := Hd.mk hV
  clear hs hc hV
  go_enter Tryz.func67, Tryz.ntmps67
  go_wp2_with fail
  refine (HC.out _ (HV.out.below (by focus (repeat (first | (with_reducible exact Below.refl _ _) | (with_reducible assumption) | ((with_reducible refine Below.setCell ?_ ?_ _); rotate_left; (focus (first | omega | (simp; done) | (simp; omega)))) | ((with_reducible refine Below.alloc ?_ ?_ _); rotate_left; (focus (first | omega | (simp; done) | (simp; omega)))) | (with_reducible refine Below.drew ?_) | (refine below_on ?_ (by assumption))))))).mono ?_
  rintro e w1 ⟨rfl, hb⟩
  have hB : Below w.heap.size w w1 := below_on (by focus (repeat (first | (with_reducible exact Below.refl _ _) | (with_reducible assumption) | ((with_reducible refine Below.setCell ?_ ?_ _); rotate_left; (focus (first | omega | (simp; done) | (simp; omega)))) | ((with_reducible refine Below.alloc ?_ ?_ _); rotate_left; (focus (first | omega | (simp; done) | (simp; omega)))) | (with_reducible refine Below.drew ?_) | (refine below_on ?_ (by assumption))))) hb
  clear hb HC
  go_wp2_with (go_at_call 48; refine (seg_must_ok _ _).mono ?_; rintro e w4 ⟨rfl, rfl⟩)
  refine (HX.out _ (HV.out.below hB)).mono ?_
  rintro e w2 ⟨rfl, hb⟩
  have hB2 := below_on hB hb
  clear hb hB HX
  go_wp2_with fail
  refine (HY.out _ (HV.out.below hB2)).mono ?_
  rintro e w3 ⟨rfl, hb⟩
  exact ⟨rfl, rfl, below_on hB2 hb⟩
set_option maxRecDepth 20000 in
set_option maxHeartbeats 4000000 in
theorem segp_n1 (s sa sb : ByteArray) (hs : s.size < 4294967281) (hc : Lib.cut s.data.toList (⟨#[44]⟩ : ByteArray).data.toList = (sa.data.toList, sb.data.toList, false))  (w : World) (hV : Vars w) :
    Calls Tryz.prog 31 #[.string s] w fun e w' => e = .returned (.tuple #[.agg #[.int .i64 0, .int .i64 0, .int .i64 0, .int .i64 0], .int .i64 140]) ∧ Below w.heap.size w w' := by
  have hmf : ∀ (fn : Fn) (first cap : Array Value) (w : World), (Instr.makeFunc fn first cap).run Tryz.prog w = .ok (.func fn first cap) w := fun _ _ _ _ => rfl
  have HC : Hd (∀ w, Vars w → Calls Tryz.prog 66 #[.string s, .string ⟨#[44]⟩] w fun e w' => e = .returned (.tuple #[.string sa, .string sb, .bool false]) ∧ Below w.heap.size w w') := ⟨fun w hv => by
    have h := scut_any s ⟨#[44]⟩ w hs hv
    rw [hc] at h
    exact h⟩
  have HV := Hd.mk hV
  clear hs hc hV
  go_enter_defers Tryz.func31, Tryz.ntmps31
  go_wp2_with fail
  refine (HC.out _ (HV.out.below (by focus (repeat (first | (with_reducible exact Below.refl _ _) | (with_reducible assumption) | ((with_reducible refine Below.setCell ?_ ?_ _); rotate_left; (focus (first | omega | (simp; done) | (simp; omega)))) | ((with_reducible refine Below.alloc ?_ ?_ _); rotate_left; (focus (first | omega | (simp; done) | (simp; omega)))) | (with_reducible refine Below.drew ?_) | (refine below_on ?_ (by assumption))))))).mono ?_
  rintro e w1 ⟨rfl, hb⟩
  have z0 := heap_below hb (heap_old (heap_new w (.cells #[.int .i64 0, .int .i64 0, .int .i64 0, .int .i64 0] 25)) _)
  have z1 := heap_below hb (heap_at (n := w.heap.size + 1) (by simp) (.cells #[.int .i64 0] 26))
  have hB : Below w.heap.size w w1 := below_on (by focus (repeat (first | (with_reducible exact Below.refl _ _) | (with_reducible assumption) | ((with_reducible refine Below.setCell ?_ ?_ _); rotate_left; (focus (first | omega | (simp; done) | (simp; omega)))) | ((with_reducible refine Below.alloc ?_ ?_ _); rotate_left; (focus (first | omega | (simp; done) | (simp; omega)))) | (with_reducible refine Below.drew ?_) | (refine below_on ?_ (by assumption))))) hb
  clear hb HC
  go_wp2_with (go_at_call 48; refine (seg_must_no _ _).mono ?_; rintro e wq ⟨rfl, rfl⟩)
  refine leaves_cons (f := 46) (args := #[.pointer (some ⟨w.heap.size + 1, 0, none⟩), .func (.func 65) #[] #[.pointer (some ⟨w.heap.size, 0, none⟩)]]) (by simp) (by simp [go_sem]) ?_
  have v0 := heap_set_other z0 (p := ⟨w.heap.size + 1, 0, none⟩) (by simp) (.int .i64 140)
  have v1 : (wq.setCell ⟨w.heap.size + 1, 0, none⟩ (.int .i64 140)).heap[w.heap.size + 1]? = some (.cells #[.int .i64 140] 26 (0, 0)) := by simpa using heap_set z1 0 (.int .i64 140)
  refine (seg_caught_full _ _ 140 _ _ _ _ (Wr w.heap.size #[.int .i64 0, .int .i64 0, .int .i64 0, .int .i64 0] 25 (wq.setCell ⟨w.heap.size + 1, 0, none⟩ (.int .i64 140))) (cell_at z1 0) (frozen_at z1 0) (fun _ => rfl) (clear_segp v0 rfl)).mono ?_
  rintro e u' w7 ⟨rfl, rfl, hW⟩
  have hF : Below w.heap.size w w7 := (Below.setCell hB (by simp) _).trans (hW.below _ (Nat.le_refl _))
  refine abs_leaves (OutS w w.heap.size (w.heap.size + 1) #[.int .i64 0, .int .i64 0, .int .i64 0, .int .i64 0] 140) ⟨hW.here, hW.other _ _ (by omega) v1, hF⟩ fun W ⟨y1, y2, hB⟩ => ?_
  have c1 := cell_at y1
  have c2 := cell_at y2
  simp [Leaves, settle, results, Tryz.results31, go_sem, c1, c2]
  exact hB
set_option maxRecDepth 20000 in
set_option maxHeartbeats 4000000 in
theorem segp_n2 (s sa sb : ByteArray) (hs : s.size < 4294967281) (hc : Lib.cut s.data.toList (⟨#[44]⟩ : ByteArray).data.toList = (sa.data.toList, sb.data.toList, true)) (HA : Hd (∀ w : World, Vars w → Calls Tryz.prog 67 #[.string sa] w fun e w' => e = .panicked [{ v := .iface 26 (.int .i64 140), recovered := false }] ∧ Below w.heap.size w w')) (w : World) (hV : Vars w) :
    Calls Tryz.prog 31 #[.string s] w fun e w' => e = .returned (.tuple #[.agg #[.int .i64 0, .int .i64 0, .int .i64 0, .int .i64 0], .int .i64 140]) ∧ Below w.heap.size w w' := by
  have hmf : ∀ (fn : Fn) (first cap : Array Value) (w : World), (Instr.makeFunc fn first cap).run Tryz.prog w = .ok (.func fn first cap) w := fun _ _ _ _ => rfl
  have HC : Hd (∀ w, Vars w → Calls Tryz.prog 66 #[.string s, .string ⟨#[44]⟩] w fun e w' => e = .returned (.tuple #[.string sa, .string sb, .bool true]) ∧ Below w.heap.size w w') := ⟨fun w hv => by
    have h := scut_any s ⟨#[44]⟩ w hs hv
    rw [hc] at h
    exact h⟩
  have HV := Hd.mk hV
  clear hs hc hV
  go_enter_defers Tryz.func31, Tryz.ntmps31
  go_wp2_with fail
  refine (HC.out _ (HV.out.below (by focus (repeat (first | (with_reducible exact Below.refl _ _) | (with_reducible assumption) | ((with_reducible refine Below.setCell ?_ ?_ _); rotate_left; (focus (first | omega | (simp; done) | (simp; omega)))) | ((with_reducible refine Below.alloc ?_ ?_ _); rotate_left; (focus (first | omega | (simp; done) | (simp; omega)))) | (with_reducible refine Below.drew ?_) | (refine below_on ?_ (by assumption))))))).mono ?_
  rintro e w1 ⟨rfl, hb⟩
  have z0 := heap_below hb (heap_old (heap_new w (.cells #[.int .i64 0, .int .i64 0, .int .i64 0, .int .i64 0] 25)) _)
  have z1 := heap_below hb (heap_at (n := w.heap.size + 1) (by simp) (.cells #[.int .i64 0] 26))
  have hB : Below w.heap.size w w1 := below_on (by focus (repeat (first | (with_reducible exact Below.refl _ _) | (with_reducible assumption) | ((with_reducible refine Below.setCell ?_ ?_ _); rotate_left; (focus (first | omega | (simp; done) | (simp; omega)))) | ((with_reducible refine Below.alloc ?_ ?_ _); rotate_left; (focus (first | omega | (simp; done) | (simp; omega)))) | (with_reducible refine Below.drew ?_) | (refine below_on ?_ (by assumption))))) hb
  clear hb HC
  go_wp2_with (go_at_call 48; refine (seg_must_ok _ _).mono ?_; rintro e w4 ⟨rfl, rfl⟩)
  refine (HA.out _ (HV.out.below hB)).mono ?_
  rintro e wq ⟨rfl, hb⟩
  have y0 := heap_below hb z0
  have y1 := heap_below hb z1
  have hB2 := below_on hB hb
  clear hb z0 z1 hB HA
  go_wp2
  refine leaves_cons (f := 46) (args := #[.pointer (some ⟨w.heap.size + 1, 0, none⟩), .func (.func 65) #[] #[.pointer (some ⟨w.heap.size, 0, none⟩)]]) (by simp) (by simp [go_sem]) ?_
  have v0 := heap_set_other y0 (p := ⟨w.heap.size + 1, 0, none⟩) (by simp) (.int .i64 140)
  have v1 : (wq.setCell ⟨w.heap.size + 1, 0, none⟩ (.int .i64 140)).heap[w.heap.size + 1]? = some (.cells #[.int .i64 140] 26 (0, 0)) := by simpa using heap_set y1 0 (.int .i64 140)
  refine (seg_caught_full _ _ 140 _ _ _ _ (Wr w.heap.size #[.int .i64 0, .int .i64 0, .int .i64 0, .int .i64 0] 25 (wq.setCell ⟨w.heap.size + 1, 0, none⟩ (.int .i64 140))) (cell_at y1 0) (frozen_at y1 0) (fun _ => rfl) (clear_segp v0 rfl)).mono ?_
  rintro e u' w7 ⟨rfl, rfl, hW⟩
  have hF : Below w.heap.size w w7 := (Below.setCell hB2 (by simp) _).trans (hW.below _ (Nat.le_refl _))
  refine abs_leaves (OutS w w.heap.size (w.heap.size + 1) #[.int .i64 0, .int .i64 0, .int .i64 0, .int .i64 0] 140) ⟨hW.here, hW.other _ _ (by omega) v1, hF⟩ fun W ⟨y1, y2, hB⟩ => ?_
  have c1 := cell_at y1
  have c2 := cell_at y2
  simp [Leaves, settle, results, Tryz.results31, go_sem, c1, c2]
  exact hB
set_option maxRecDepth 20000 in
set_option maxHeartbeats 4000000 in
theorem segp_n3 (s sa sb : ByteArray) (hs : s.size < 4294967281) (hc : Lib.cut s.data.toList (⟨#[44]⟩ : ByteArray).data.toList = (sa.data.toList, sb.data.toList, true)) (ax ay : Int) (HA : Hd (∀ w, Vars w → Calls Tryz.prog 67 #[.string sa] w fun e w' => e = .returned (.agg #[.int .i64 ax, .int .i64 ay]) ∧ Below w.heap.size w w')) (HB : Hd (∀ w : World, Vars w → Calls Tryz.prog 67 #[.string sb] w fun e w' => e = .panicked [{ v := .iface 26 (.int .i64 140), recovered := false }] ∧ Below w.heap.size w w')) (w : World) (hV : Vars w) :
    Calls Tryz.prog 31 #[.string s] w fun e w' => e = .returned (.tuple #[.agg #[.int .i64 0, .int .i64 0, .int .i64 0, .int .i64 0], .int .i64 140]) ∧ Below w.heap.size w w' := by
  have hmf : ∀ (fn : Fn) (first cap : Array Value) (w : World), (Instr.makeFunc fn first cap).run Tryz.prog w = .ok (.func fn first cap) w := fun _ _ _ _ => rfl
  have HC : Hd (∀ w, Vars w → Calls Tryz.prog 66 #[.string s, .string ⟨#[44]⟩] w fun e w' => e = .returned (.tuple #[.string sa, .string sb, .bool true]) ∧ Below w.heap.size w w') := ⟨fun w hv => by
    have h := scut_any s ⟨#[44]⟩ w hs hv
    rw [hc] at h
    exact h⟩
  have HV := Hd.mk hV
  clear hs hc hV
  go_enter_defers Tryz.func31, Tryz.ntmps31
  go_wp2_with fail
  refine (HC.out _ (HV.out.below (by focus (repeat (first | (with_reducible exact Below.refl _ _) | (with_reducible assumption) | ((with_reducible refine Below.setCell ?_ ?_ _); rotate_left; (focus (first | omega | (simp; done) | (simp; omega)))) | ((with_reducible refine Below.alloc ?_ ?_ _); rotate_left; (focus (first | omega | (simp; done) | (simp; omega)))) | (with_reducible refine Below.drew ?_) | (refine below_on ?_ (by assumption))))))).mono ?_
  rintro e w1 ⟨rfl, hb⟩
  have z0 := heap_below hb (heap_old (heap_new w (.cells #[.int .i64 0, .int .i64 0, .int .i64 0, .int .i64 0] 25)) _)
  have z1 := heap_below hb (heap_at (n := w.heap.size + 1) (by simp) (.cells #[.int .i64 0] 26))
  have hB : Below w.heap.size w w1 := below_on (by focus (repeat (first | (with_reducible exact Below.refl _ _) | (with_reducible assumption) | ((with_reducible refine Below.setCell ?_ ?_ _); rotate_left; (focus (first | omega | (simp; done) | (simp; omega)))) | ((with_reducible refine Below.alloc ?_ ?_ _); rotate_left; (focus (first | omega | (simp; done) | (simp; omega)))) | (with_reducible refine Below.drew ?_) | (refine below_on ?_ (by assumption))))) hb
  clear hb HC
  go_wp2_with (go_at_call 48; refine (seg_must_ok _ _).mono ?_; rintro e w4 ⟨rfl, rfl⟩)
  refine (HA.out _ (HV.out.below hB)).mono ?_
  rintro e w2 ⟨rfl, hb⟩
  have y0 := heap_below hb z0
  have y1 := heap_below hb z1
  have hB2 := below_on hB hb
  clear hb z0 z1 hB HA
  go_wp2_with fail
  refine (HB.out _ (HV.out.below hB2)).mono ?_
  rintro e wq ⟨rfl, hb⟩
  have z0 := heap_below hb y0
  have z1 := heap_below hb y1
  have hB3 := below_on hB2 hb
  clear hb y0 y1 hB2 HB
  go_wp2
  refine leaves_cons (f := 46) (args := #[.pointer (some ⟨w.heap.size + 1, 0, none⟩), .func (.func 65) #[] #[.pointer (some ⟨w.heap.size, 0, none⟩)]]) (by simp) (by simp [go_sem]) ?_
  have v0 := heap_set_other z0 (p := ⟨w.heap.size + 1, 0, none⟩) (by simp) (.int .i64 140)
  have v1 : (wq.setCell ⟨w.heap.size + 1, 0, none⟩ (.int .i64 140)).heap[w.heap.size + 1]? = some (.cells #[.int .i64 140] 26 (0, 0)) := by simpa using heap_set z1 0 (.int .i64 140)
  refine (seg_caught_full _ _ 140 _ _ _ _ (Wr w.heap.size #[.int .i64 0, .int .i64 0, .int .i64 0, .int .i64 0] 25 (wq.setCell ⟨w.heap.size + 1, 0, none⟩ (.int .i64 140))) (cell_at z1 0) (frozen_at z1 0) (fun _ => rfl) (clear_segp v0 rfl)).mono ?_
  rintro e u' w7 ⟨rfl, rfl, hW⟩
  have hF : Below w.heap.size w w7 := (Below.setCell hB3 (by simp) _).trans (hW.below _ (Nat.le_refl _))
  refine abs_leaves (OutS w w.heap.size (w.heap.size + 1) #[.int .i64 0, .int .i64 0, .int .i64 0, .int .i64 0] 140) ⟨hW.here, hW.other _ _ (by omega) v1, hF⟩ fun W ⟨y1, y2, hB⟩ => ?_
  have c1 := cell_at y1
  have c2 := cell_at y2
  simp [Leaves, settle, results, Tryz.results31, go_sem, c1, c2]
  exact hB
end Go.Proofs.YtbhfnfokihdjjaaGreatDoor
