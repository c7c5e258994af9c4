/-
  seg.Parse, of any text: as the reference. Conditions stand in each theorem.
-/
import Derived.Test.YtfchmikbebdflaaGreatDoorTy6
namespace Go.Proofs.YtfchmikbebdflaaGreatDoor
open Go.RowKit Go.BigFrame
theorem parse_range {l : List UInt8} {n : Int} (h : Lib.parseIntB 64 l = .ok n) : -9223372036854775808 ≤ n ∧ n ≤ 9223372036854775807 := by
  unfold Lib.parseIntB at h
  cases l with
  | nil => cases h
  | cons c r =>
    dsimp only at h
    split at h
    · cases h
    · cases h
    · rename_i u _
      split at h
      · cases h
      · split at h
        · cases h
        · injection h with h
          rename_i h1 h2
          have e1 : (2 : Nat) ^ (64 - 1) = 9223372036854775808 := by decide
          rw [e1] at h1 h2
          by_cases hc : c.toNat = 45
          · rw [if_pos hc] at h
            have : ¬ 9223372036854775808 < u := fun hh => h2 ⟨hc, hh⟩
            omega
          · rw [if_neg hc] at h
            have : ¬ 9223372036854775808 ≤ u := fun hh => h1 ⟨hc, hh⟩
            omega
/-- Where ParseInt tells an error. -/
theorem parse_err (s : ByteArray) (hsz : s.size ≤ 1100000) (h : ∀ n, Lib.parseIntB 64 s.data.toList ≠ .ok n) (w : World) (hV : Vars w) :
    Calls Tryz.prog 105 #[.string s, .int .i64 10, .int .i64 64] w fun e w' => ∃ v t p, e = .returned (.tuple #[.int .i64 v, .iface t p]) ∧ Below w.heap.size w w' := by
  cases hp : Lib.parseIntB 64 s.data.toList with
  | ok n => exact absurd hp (h n)
  | range =>
    obtain ⟨_, _, _, _, ⟨t, p, h5⟩⟩ := hV
    refine (sh_strconv_ParseInt_10_at64_range s (by omega) hp (.iface t p) w (h5.cell 0) (.inr ⟨t, p, rfl⟩)).mono fun e w' hh => ?_
    obtain ⟨N, he, _, _, hb⟩ := hh
    exact ⟨_, _, _, he, hb⟩
  | _ =>
    obtain ⟨_, _, _, ⟨t, p, h4⟩, _⟩ := hV
    refine (Any.strconv_ParseInt_10_at64_syntax sh_laysC174 s (by omega) hp (.iface t p) w (h4.cell 0) (.inr ⟨t, p, rfl⟩)).mono fun e w' hh => ?_
    obtain ⟨N, he, _, _, hb⟩ := hh
    exact ⟨_, _, _, he, hb⟩
set_option maxRecDepth 20000 in
set_option maxHeartbeats 4000000 in
/-- No number. -/
theorem number_no (s : ByteArray) (hsz : s.size ≤ 1100000) (hno : ∀ n : Int, -9223372036854775808 ≤ n ∧ n ≤ 9223372036854775807 → s ≠ itS n) (w : World) (hV : Vars w) :
    Calls Tryz.prog 101 #[.string s] w fun e w' => e = .panicked [{ v := .iface 31 (.int .i64 140), recovered := false }] ∧ Below w.heap.size w w' := by
  have HV := Hd.mk hV
  by_cases hp : ∃ n, Lib.parseIntB 64 s.data.toList = .ok n
  · obtain ⟨n, hp⟩ := hp
    have hr := parse_range hp
    have hne : ((itS n).toList == s.toList) = false := by
      rw [beq_eq_false_iff_ne, ByteArray.toList_eq, ByteArray.toList_eq]
      exact fun h => hno n hr (bytes_ext h).symm
    have HP : Hd (∀ w, Calls Tryz.prog 105 #[.string s, .int .i64 10, .int .i64 64] w fun e w' => e = .returned (.tuple #[.int .i64 n, .nilIface]) ∧ Below w.heap.size w w') := ⟨fun w => (sh_strconv_ParseInt_10_at64_ok s (by omega) n hp w).mono fun e w' ⟨h, k⟩ => ⟨h, by
      rcases k with rfl | ⟨t, rfl⟩
      · exact Below.refl _ _
      · exact below_bw w t⟩⟩
    have HF := Hd.mk (fun w hv => fmt_itS n hr.1 hr.2 w hv)
    generalize itS n = t at *
    clear hp hr hno hV
    go_enter Tryz.func101, Tryz.ntmps101
    go_wp2_with fail
    refine (HP.out _).mono ?_
    rintro e w1 ⟨rfl, hB⟩
    go_wp2_with fail
    refine (HF.out _ (HV.out.below hB)).mono ?_
    rintro e w2 ⟨rfl, hb⟩
    have hB2 := below_on hB hb
    clear hb hB
    go_wp2_with (go_at_call 80; refine (seg_must_no _ _).mono ?_; rintro e w4 ⟨rfl, rfl⟩)
    exact ⟨rfl, rfl, hB2⟩
  · have HP := Hd.mk (fun w hv => parse_err s hsz (fun n h => hp ⟨n, h⟩) w hv)
    clear hp hno hV
    go_enter Tryz.func101, Tryz.ntmps101
    go_wp2_with fail
    refine (HP.out _ HV.out).mono ?_
    rintro e w1 ⟨v, t, p, rfl, hB⟩
    go_wp2_with (go_at_call 80; refine (seg_must_no _ _).mono ?_; rintro e w4 ⟨rfl, rfl⟩)
    exact ⟨rfl, rfl, hB⟩
set_option maxRecDepth 20000 in
set_option maxHeartbeats 4000000 in
theorem node_n1 (s sx sy : ByteArray) (hs : s.size < 4294967281) (hc : Lib.cut s.data.toList (⟨#[32]⟩ : ByteArray).data.toList = (sx.data.toList, sy.data.toList, false))  (w : World) (hV : Vars w) :
    Calls Tryz.prog 81 #[.string s] w fun e w' => e = .panicked [{ v := .iface 31 (.int .i64 140), recovered := false }] ∧ Below w.heap.size w w' := by
  have HC : Hd (∀ w, Vars w → Calls Tryz.prog 79 #[.string s, .string ⟨#[32]⟩] w fun e w' => e = .returned (.tuple #[.string sx, .string sy, .bool false]) ∧ Below w.heap.size w w') := ⟨fun w hv => by
    have h := scut_any s ⟨#[32]⟩ w hs hv
    rw [hc] at h
    exact h⟩
  have HV := Hd.mk hV
  clear hs hc hV
  go_enter Tryz.func81, Tryz.ntmps81
  go_wp2_with fail
  refine (HC.out _ (HV.out.below (by focus (repeat (first | (with_reducible exact Below.refl _ _) | (with_reducible assumption) | ((with_reducible refine Below.setCell ?_ ?_ _); rotate_left; (focus (first | omega | (simp; done) | (simp; omega)))) | ((with_reducible refine Below.alloc ?_ ?_ _); rotate_left; (focus (first | omega | (simp; done) | (simp; omega)))) | (with_reducible refine Below.drew ?_) | (refine below_on ?_ (by assumption))))))).mono ?_
  rintro e w1 ⟨rfl, hb⟩
  have hB : Below w.heap.size w w1 := below_on (by focus (repeat (first | (with_reducible exact Below.refl _ _) | (with_reducible assumption) | ((with_reducible refine Below.setCell ?_ ?_ _); rotate_left; (focus (first | omega | (simp; done) | (simp; omega)))) | ((with_reducible refine Below.alloc ?_ ?_ _); rotate_left; (focus (first | omega | (simp; done) | (simp; omega)))) | (with_reducible refine Below.drew ?_) | (refine below_on ?_ (by assumption))))) hb
  clear hb HC
  go_wp2_with (go_at_call 80; refine (seg_must_no _ _).mono ?_; rintro e w4 ⟨rfl, rfl⟩)
  exact ⟨rfl, rfl, hB⟩
set_option maxRecDepth 20000 in
set_option maxHeartbeats 4000000 in
theorem node_n2 (s sx sy : ByteArray) (hs : s.size < 4294967281) (hc : Lib.cut s.data.toList (⟨#[32]⟩ : ByteArray).data.toList = (sx.data.toList, sy.data.toList, true)) (HX : Hd (∀ w : World, Vars w → Calls Tryz.prog 101 #[.string sx] w fun e w' => e = .panicked [{ v := .iface 31 (.int .i64 140), recovered := false }] ∧ Below w.heap.size w w')) (w : World) (hV : Vars w) :
    Calls Tryz.prog 81 #[.string s] w fun e w' => e = .panicked [{ v := .iface 31 (.int .i64 140), recovered := false }] ∧ Below w.heap.size w w' := by
  have HC : Hd (∀ w, Vars w → Calls Tryz.prog 79 #[.string s, .string ⟨#[32]⟩] w fun e w' => e = .returned (.tuple #[.string sx, .string sy, .bool true]) ∧ Below w.heap.size w w') := ⟨fun w hv => by
    have h := scut_any s ⟨#[32]⟩ w hs hv
    rw [hc] at h
    exact h⟩
  have HV := Hd.mk hV
  clear hs hc hV
  go_enter Tryz.func81, Tryz.ntmps81
  go_wp2_with fail
  refine (HC.out _ (HV.out.below (by focus (repeat (first | (with_reducible exact Below.refl _ _) | (with_reducible assumption) | ((with_reducible refine Below.setCell ?_ ?_ _); rotate_left; (focus (first | omega | (simp; done) | (simp; omega)))) | ((with_reducible refine Below.alloc ?_ ?_ _); rotate_left; (focus (first | omega | (simp; done) | (simp; omega)))) | (with_reducible refine Below.drew ?_) | (refine below_on ?_ (by assumption))))))).mono ?_
  rintro e w1 ⟨rfl, hb⟩
  have hB : Below w.heap.size w w1 := below_on (by focus (repeat (first | (with_reducible exact Below.refl _ _) | (with_reducible assumption) | ((with_reducible refine Below.setCell ?_ ?_ _); rotate_left; (focus (first | omega | (simp; done) | (simp; omega)))) | ((with_reducible refine Below.alloc ?_ ?_ _); rotate_left; (focus (first | omega | (simp; done) | (simp; omega)))) | (with_reducible refine Below.drew ?_) | (refine below_on ?_ (by assumption))))) hb
  clear hb HC
  go_wp2_with (go_at_call 80; refine (seg_must_ok _ _).mono ?_; rintro e w4 ⟨rfl, rfl⟩)
  refine (HX.out _ (HV.out.below hB)).mono ?_
  rintro e w2 ⟨rfl, hb⟩
  exact ⟨rfl, rfl, below_on hB hb⟩
set_option maxRecDepth 20000 in
set_option maxHeartbeats 4000000 in
theorem node_n3 (s sx sy : ByteArray) (hs : s.size < 4294967281) (hc : Lib.cut s.data.toList (⟨#[32]⟩ : ByteArray).data.toList = (sx.data.toList, sy.data.toList, true)) (x : Int) (HX : Hd (∀ w, Vars w → Calls Tryz.prog 101 #[.string sx] w fun e w' => e = .returned (.int .i64 x) ∧ Below w.heap.size w w')) (HY : Hd (∀ w : World, Vars w → Calls Tryz.prog 101 #[.string sy] w fun e w' => e = .panicked [{ v := .iface 31 (.int .i64 140), recovered := false }] ∧ Below w.heap.size w w')) (w : World) (hV : Vars w) :
    Calls Tryz.prog 81 #[.string s] w fun e w' => e = .panicked [{ v := .iface 31 (.int .i64 140), recovered := false }] ∧ Below w.heap.size w w' := by
  have HC : Hd (∀ w, Vars w → Calls Tryz.prog 79 #[.string s, .string ⟨#[32]⟩] w fun e w' => e = .returned (.tuple #[.string sx, .string sy, .bool true]) ∧ Below w.heap.size w w') := ⟨fun w hv => by
    have h := scut_any s ⟨#[32]⟩ w hs hv
    rw [hc] at h
    exact h⟩
  have HV := Hd.mk hV
  clear hs hc hV
  go_enter Tryz.func81, Tryz.ntmps81
  go_wp2_with fail
  refine (HC.out _ (HV.out.below (by focus (repeat (first | (with_reducible exact Below.refl _ _) | (with_reducible assumption) | ((with_reducible refine Below.setCell ?_ ?_ _); rotate_left; (focus (first | omega | (simp; done) | (simp; omega)))) | ((with_reducible refine Below.alloc ?_ ?_ _); rotate_left; (focus (first | omega | (simp; done) | (simp; omega)))) | (with_reducible refine Below.drew ?_) | (refine below_on ?_ (by assumption))))))).mono ?_
  rintro e w1 ⟨rfl, hb⟩
  have hB : Below w.heap.size w w1 := below_on (by focus (repeat (first | (with_reducible exact Below.refl _ _) | (with_reducible assumption) | ((with_reducible refine Below.setCell ?_ ?_ _); rotate_left; (focus (first | omega | (simp; done) | (simp; omega)))) | ((with_reducible refine Below.alloc ?_ ?_ _); rotate_left; (focus (first | omega | (simp; done) | (simp; omega)))) | (with_reducible refine Below.drew ?_) | (refine below_on ?_ (by assumption))))) hb
  clear hb HC
  go_wp2_with (go_at_call 80; refine (seg_must_ok _ _).mono ?_; rintro e w4 ⟨rfl, rfl⟩)
  refine (HX.out _ (HV.out.below hB)).mono ?_
  rintro e w2 ⟨rfl, hb⟩
  have hB2 := below_on hB hb
  clear hb hB HX
  go_wp2_with fail
  refine (HY.out _ (HV.out.below hB2)).mono ?_
  rintro e w3 ⟨rfl, hb⟩
  exact ⟨rfl, rfl, below_on hB2 hb⟩
set_option maxRecDepth 20000 in
set_option maxHeartbeats 4000000 in
theorem segp_n1 (s sa sb : ByteArray) (hs : s.size < 4294967281) (hc : Lib.cut s.data.toList (⟨#[44]⟩ : ByteArray).data.toList = (sa.data.toList, sb.data.toList, false))  (w : World) (hV : Vars w) :
    Calls Tryz.prog 56 #[.string s] w fun e w' => e = .returned (.tuple #[.agg #[.int .i64 0, .int .i64 0, .int .i64 0, .int .i64 0], .int .i64 140]) ∧ Below w.heap.size w w' := by
  have hmf : ∀ (fn : Fn) (first cap : Array Value) (w : World), (Instr.makeFunc fn first cap).run Tryz.prog w = .ok (.func fn first cap) w := fun _ _ _ _ => rfl
  have HC : Hd (∀ w, Vars w → Calls Tryz.prog 79 #[.string s, .string ⟨#[44]⟩] w fun e w' => e = .returned (.tuple #[.string sa, .string sb, .bool false]) ∧ Below w.heap.size w w') := ⟨fun w hv => by
    have h := scut_any s ⟨#[44]⟩ w hs hv
    rw [hc] at h
    exact h⟩
  have HV := Hd.mk hV
  clear hs hc hV
  go_enter_defers Tryz.func56, Tryz.ntmps56
  go_wp2_with fail
  refine (HC.out _ (HV.out.below (by focus (repeat (first | (with_reducible exact Below.refl _ _) | (with_reducible assumption) | ((with_reducible refine Below.setCell ?_ ?_ _); rotate_left; (focus (first | omega | (simp; done) | (simp; omega)))) | ((with_reducible refine Below.alloc ?_ ?_ _); rotate_left; (focus (first | omega | (simp; done) | (simp; omega)))) | (with_reducible refine Below.drew ?_) | (refine below_on ?_ (by assumption))))))).mono ?_
  rintro e w1 ⟨rfl, hb⟩
  have z0 := heap_below hb (heap_old (heap_new w (.cells #[.int .i64 0, .int .i64 0, .int .i64 0, .int .i64 0] 26)) _)
  have z1 := heap_below hb (heap_at (n := w.heap.size + 1) (by simp) (.cells #[.int .i64 0] 31))
  have hB : Below w.heap.size w w1 := below_on (by focus (repeat (first | (with_reducible exact Below.refl _ _) | (with_reducible assumption) | ((with_reducible refine Below.setCell ?_ ?_ _); rotate_left; (focus (first | omega | (simp; done) | (simp; omega)))) | ((with_reducible refine Below.alloc ?_ ?_ _); rotate_left; (focus (first | omega | (simp; done) | (simp; omega)))) | (with_reducible refine Below.drew ?_) | (refine below_on ?_ (by assumption))))) hb
  clear hb HC
  go_wp2_with (go_at_call 80; refine (seg_must_no _ _).mono ?_; rintro e wq ⟨rfl, rfl⟩)
  refine leaves_cons (f := 77) (args := #[.pointer (some ⟨w.heap.size + 1, 0, none⟩), .func (.func 78) #[] #[.pointer (some ⟨w.heap.size, 0, none⟩)]]) (by simp) (by simp [go_sem]) ?_
  have v0 := heap_set_other z0 (p := ⟨w.heap.size + 1, 0, none⟩) (by simp) (.int .i64 140)
  have v1 : (wq.setCell ⟨w.heap.size + 1, 0, none⟩ (.int .i64 140)).heap[w.heap.size + 1]? = some (.cells #[.int .i64 140] 31 (0, 0)) := by simpa using heap_set z1 0 (.int .i64 140)
  refine (seg_caught_full _ _ 140 _ _ _ _ (Wr w.heap.size #[.int .i64 0, .int .i64 0, .int .i64 0, .int .i64 0] 26 (wq.setCell ⟨w.heap.size + 1, 0, none⟩ (.int .i64 140))) (cell_at z1 0) (frozen_at z1 0) (fun _ => rfl) (clear_segp v0 rfl)).mono ?_
  rintro e u' w7 ⟨rfl, rfl, hW⟩
  have hF : Below w.heap.size w w7 := (Below.setCell hB (by simp) _).trans (hW.below _ (Nat.le_refl _))
  refine abs_leaves (OutS w w.heap.size (w.heap.size + 1) #[.int .i64 0, .int .i64 0, .int .i64 0, .int .i64 0] 140) ⟨hW.here, hW.other _ _ (by omega) v1, hF⟩ fun W ⟨y1, y2, hB⟩ => ?_
  have c1 := cell_at y1
  have c2 := cell_at y2
  simp [Leaves, settle, results, Tryz.results56, go_sem, c1, c2]
  exact hB
set_option maxRecDepth 20000 in
set_option maxHeartbeats 4000000 in
theorem segp_n2 (s sa sb : ByteArray) (hs : s.size < 4294967281) (hc : Lib.cut s.data.toList (⟨#[44]⟩ : ByteArray).data.toList = (sa.data.toList, sb.data.toList, true)) (HA : Hd (∀ w : World, Vars w → Calls Tryz.prog 81 #[.string sa] w fun e w' => e = .panicked [{ v := .iface 31 (.int .i64 140), recovered := false }] ∧ Below w.heap.size w w')) (w : World) (hV : Vars w) :
    Calls Tryz.prog 56 #[.string s] w fun e w' => e = .returned (.tuple #[.agg #[.int .i64 0, .int .i64 0, .int .i64 0, .int .i64 0], .int .i64 140]) ∧ Below w.heap.size w w' := by
  have hmf : ∀ (fn : Fn) (first cap : Array Value) (w : World), (Instr.makeFunc fn first cap).run Tryz.prog w = .ok (.func fn first cap) w := fun _ _ _ _ => rfl
  have HC : Hd (∀ w, Vars w → Calls Tryz.prog 79 #[.string s, .string ⟨#[44]⟩] w fun e w' => e = .returned (.tuple #[.string sa, .string sb, .bool true]) ∧ Below w.heap.size w w') := ⟨fun w hv => by
    have h := scut_any s ⟨#[44]⟩ w hs hv
    rw [hc] at h
    exact h⟩
  have HV := Hd.mk hV
  clear hs hc hV
  go_enter_defers Tryz.func56, Tryz.ntmps56
  go_wp2_with fail
  refine (HC.out _ (HV.out.below (by focus (repeat (first | (with_reducible exact Below.refl _ _) | (with_reducible assumption) | ((with_reducible refine Below.setCell ?_ ?_ _); rotate_left; (focus (first | omega | (simp; done) | (simp; omega)))) | ((with_reducible refine Below.alloc ?_ ?_ _); rotate_left; (focus (first | omega | (simp; done) | (simp; omega)))) | (with_reducible refine Below.drew ?_) | (refine below_on ?_ (by assumption))))))).mono ?_
  rintro e w1 ⟨rfl, hb⟩
  have z0 := heap_below hb (heap_old (heap_new w (.cells #[.int .i64 0, .int .i64 0, .int .i64 0, .int .i64 0] 26)) _)
  have z1 := heap_below hb (heap_at (n := w.heap.size + 1) (by simp) (.cells #[.int .i64 0] 31))
  have hB : Below w.heap.size w w1 := below_on (by focus (repeat (first | (with_reducible exact Below.refl _ _) | (with_reducible assumption) | ((with_reducible refine Below.setCell ?_ ?_ _); rotate_left; (focus (first | omega | (simp; done) | (simp; omega)))) | ((with_reducible refine Below.alloc ?_ ?_ _); rotate_left; (focus (first | omega | (simp; done) | (simp; omega)))) | (with_reducible refine Below.drew ?_) | (refine below_on ?_ (by assumption))))) hb
  clear hb HC
  go_wp2_with (go_at_call 80; refine (seg_must_ok _ _).mono ?_; rintro e w4 ⟨rfl, rfl⟩)
  refine (HA.out _ (HV.out.below hB)).mono ?_
  rintro e wq ⟨rfl, hb⟩
  have y0 := heap_below hb z0
  have y1 := heap_below hb z1
  have hB2 := below_on hB hb
  clear hb z0 z1 hB HA
  go_wp2
  refine leaves_cons (f := 77) (args := #[.pointer (some ⟨w.heap.size + 1, 0, none⟩), .func (.func 78) #[] #[.pointer (some ⟨w.heap.size, 0, none⟩)]]) (by simp) (by simp [go_sem]) ?_
  have v0 := heap_set_other y0 (p := ⟨w.heap.size + 1, 0, none⟩) (by simp) (.int .i64 140)
  have v1 : (wq.setCell ⟨w.heap.size + 1, 0, none⟩ (.int .i64 140)).heap[w.heap.size + 1]? = some (.cells #[.int .i64 140] 31 (0, 0)) := by simpa using heap_set y1 0 (.int .i64 140)
  refine (seg_caught_full _ _ 140 _ _ _ _ (Wr w.heap.size #[.int .i64 0, .int .i64 0, .int .i64 0, .int .i64 0] 26 (wq.setCell ⟨w.heap.size + 1, 0, none⟩ (.int .i64 140))) (cell_at y1 0) (frozen_at y1 0) (fun _ => rfl) (clear_segp v0 rfl)).mono ?_
  rintro e u' w7 ⟨rfl, rfl, hW⟩
  have hF : Below w.heap.size w w7 := (Below.setCell hB2 (by simp) _).trans (hW.below _ (Nat.le_refl _))
  refine abs_leaves (OutS w w.heap.size (w.heap.size + 1) #[.int .i64 0, .int .i64 0, .int .i64 0, .int .i64 0] 140) ⟨hW.here, hW.other _ _ (by omega) v1, hF⟩ fun W ⟨y1, y2, hB⟩ => ?_
  have c1 := cell_at y1
  have c2 := cell_at y2
  simp [Leaves, settle, results, Tryz.results56, go_sem, c1, c2]
  exact hB
set_option maxRecDepth 20000 in
set_option maxHeartbeats 4000000 in
theorem segp_n3 (s sa sb : ByteArray) (hs : s.size < 4294967281) (hc : Lib.cut s.data.toList (⟨#[44]⟩ : ByteArray).data.toList = (sa.data.toList, sb.data.toList, true)) (ax ay : Int) (HA : Hd (∀ w, Vars w → Calls Tryz.prog 81 #[.string sa] w fun e w' => e = .returned (.agg #[.int .i64 ax, .int .i64 ay]) ∧ Below w.heap.size w w')) (HB : Hd (∀ w : World, Vars w → Calls Tryz.prog 81 #[.string sb] w fun e w' => e = .panicked [{ v := .iface 31 (.int .i64 140), recovered := false }] ∧ Below w.heap.size w w')) (w : World) (hV : Vars w) :
    Calls Tryz.prog 56 #[.string s] w fun e w' => e = .returned (.tuple #[.agg #[.int .i64 0, .int .i64 0, .int .i64 0, .int .i64 0], .int .i64 140]) ∧ Below w.heap.size w w' := by
  have hmf : ∀ (fn : Fn) (first cap : Array Value) (w : World), (Instr.makeFunc fn first cap).run Tryz.prog w = .ok (.func fn first cap) w := fun _ _ _ _ => rfl
  have HC : Hd (∀ w, Vars w → Calls Tryz.prog 79 #[.string s, .string ⟨#[44]⟩] w fun e w' => e = .returned (.tuple #[.string sa, .string sb, .bool true]) ∧ Below w.heap.size w w') := ⟨fun w hv => by
    have h := scut_any s ⟨#[44]⟩ w hs hv
    rw [hc] at h
    exact h⟩
  have HV := Hd.mk hV
  clear hs hc hV
  go_enter_defers Tryz.func56, Tryz.ntmps56
  go_wp2_with fail
  refine (HC.out _ (HV.out.below (by focus (repeat (first | (with_reducible exact Below.refl _ _) | (with_reducible assumption) | ((with_reducible refine Below.setCell ?_ ?_ _); rotate_left; (focus (first | omega | (simp; done) | (simp; omega)))) | ((with_reducible refine Below.alloc ?_ ?_ _); rotate_left; (focus (first | omega | (simp; done) | (simp; omega)))) | (with_reducible refine Below.drew ?_) | (refine below_on ?_ (by assumption))))))).mono ?_
  rintro e w1 ⟨rfl, hb⟩
  have z0 := heap_below hb (heap_old (heap_new w (.cells #[.int .i64 0, .int .i64 0, .int .i64 0, .int .i64 0] 26)) _)
  have z1 := heap_below hb (heap_at (n := w.heap.size + 1) (by simp) (.cells #[.int .i64 0] 31))
  have hB : Below w.heap.size w w1 := below_on (by focus (repeat (first | (with_reducible exact Below.refl _ _) | (with_reducible assumption) | ((with_reducible refine Below.setCell ?_ ?_ _); rotate_left; (focus (first | omega | (simp; done) | (simp; omega)))) | ((with_reducible refine Below.alloc ?_ ?_ _); rotate_left; (focus (first | omega | (simp; done) | (simp; omega)))) | (with_reducible refine Below.drew ?_) | (refine below_on ?_ (by assumption))))) hb
  clear hb HC
  go_wp2_with (go_at_call 80; refine (seg_must_ok _ _).mono ?_; rintro e w4 ⟨rfl, rfl⟩)
  refine (HA.out _ (HV.out.below hB)).mono ?_
  rintro e w2 ⟨rfl, hb⟩
  have y0 := heap_below hb z0
  have y1 := heap_below hb z1
  have hB2 := below_on hB hb
  clear hb z0 z1 hB HA
  go_wp2_with fail
  refine (HB.out _ (HV.out.below hB2)).mono ?_
  rintro e wq ⟨rfl, hb⟩
  have z0 := heap_below hb y0
  have z1 := heap_below hb y1
  have hB3 := below_on hB2 hb
  clear hb y0 y1 hB2 HB
  go_wp2
  refine leaves_cons (f := 77) (args := #[.pointer (some ⟨w.heap.size + 1, 0, none⟩), .func (.func 78) #[] #[.pointer (some ⟨w.heap.size, 0, none⟩)]]) (by simp) (by simp [go_sem]) ?_
  have v0 := heap_set_other z0 (p := ⟨w.heap.size + 1, 0, none⟩) (by simp) (.int .i64 140)
  have v1 : (wq.setCell ⟨w.heap.size + 1, 0, none⟩ (.int .i64 140)).heap[w.heap.size + 1]? = some (.cells #[.int .i64 140] 31 (0, 0)) := by simpa using heap_set z1 0 (.int .i64 140)
  refine (seg_caught_full _ _ 140 _ _ _ _ (Wr w.heap.size #[.int .i64 0, .int .i64 0, .int .i64 0, .int .i64 0] 26 (wq.setCell ⟨w.heap.size + 1, 0, none⟩ (.int .i64 140))) (cell_at z1 0) (frozen_at z1 0) (fun _ => rfl) (clear_segp v0 rfl)).mono ?_
  rintro e u' w7 ⟨rfl, rfl, hW⟩
  have hF : Below w.heap.size w w7 := (Below.setCell hB3 (by simp) _).trans (hW.below _ (Nat.le_refl _))
  refine abs_leaves (OutS w w.heap.size (w.heap.size + 1) #[.int .i64 0, .int .i64 0, .int .i64 0, .int .i64 0] 140) ⟨hW.here, hW.other _ _ (by omega) v1, hF⟩ fun W ⟨y1, y2, hB⟩ => ?_
  have c1 := cell_at y1
  have c2 := cell_at y2
  simp [Leaves, settle, results, Tryz.results56, go_sem, c1, c2]
  exact hB
end Go.Proofs.YtfchmikbebdflaaGreatDoor

namespace Go.Proofs.YtfchmikbebdflaaGreatDoor
open Go.RowKit Go.BigFrame
theorem index_none (c : UInt8) : ∀ l : List UInt8, c ∉ l → Lib.index l [c] = -1
  | [], _ => rfl
  | a :: l, h => by
    have h1 : a ≠ c := fun e => h (by simp [e])
    have h2 : c ∉ l := fun e => h (by simp [e])
    have h3 : ([c] : List UInt8).isPrefixOf (a :: l) = false := by
      simp [List.isPrefixOf]
      exact fun e => absurd e.symm h1
    rw [Lib.index, index_none c l h2, h3]
    rfl
theorem cut_none (c : UInt8) (l : List UInt8) (h : c ∉ l) : Lib.cut l [c] = (l, [], false) := by
  unfold Lib.cut
  rw [index_none c l h, if_neg (by omega)]
def I64 (n : Int) : Prop := -9223372036854775808 ≤ n ∧ n ≤ 9223372036854775807
/-- node of seg, of any text. -/
theorem node_any (s : ByteArray) (hsz : s.size ≤ 1100000) :
    (∃ x y : Int, I64 x ∧ I64 y ∧ s = nodeS x y ∧ Hd (∀ w, Vars w → Calls Tryz.prog 81 #[.string s] w fun e w' => e = .returned (.agg #[.int .i64 x, .int .i64 y]) ∧ Below w.heap.size w w')) ∨
    Hd (∀ w : World, Vars w → Calls Tryz.prog 81 #[.string s] w fun e w' => e = .panicked [{ v := .iface 31 (.int .i64 140), recovered := false }] ∧ Below w.heap.size w w') := by
  have num : ∀ t : ByteArray, t.size ≤ 1100000 → (∃ n : Int, I64 n ∧ t = itS n ∧ Hd (∀ w, Vars w → Calls Tryz.prog 101 #[.string t] w fun e w' => e = .returned (.int .i64 n) ∧ Below w.heap.size w w')) ∨
      Hd (∀ w : World, Vars w → Calls Tryz.prog 101 #[.string t] w fun e w' => e = .panicked [{ v := .iface 31 (.int .i64 140), recovered := false }] ∧ Below w.heap.size w w') := by
    intro t ht
    by_cases h : ∃ n : Int, I64 n ∧ t = itS n
    · obtain ⟨n, hn, he⟩ := h
      exact .inl ⟨n, hn, he, ⟨fun w hv => number_ok t n (by omega) hn.1 hn.2 (by rw [he]; exact parse_itoa n hn.1 hn.2) he.symm w hv⟩⟩
    · exact .inr ⟨fun w hv => number_no t ht (fun n hn he => h ⟨n, hn, he⟩) w hv⟩
  by_cases hm : (32 : UInt8) ∈ s.data.toList
  · obtain ⟨j, hj, hno⟩ := mem_first hm
    have hjs : j < s.size := by
      have := (List.getElem?_eq_some_iff.1 hj).1
      rw [size_list] at this
      exact this
    have hsp := cut_list s j 32 hj
    have hL : (32 : UInt8) ∉ (s.extract 0 j).data.toList := by rw [take_list]; exact hno
    have hc : Lib.cut s.data.toList (⟨#[32]⟩ : ByteArray).data.toList = ((s.extract 0 j).data.toList, (s.extract (j + 1) s.size).data.toList, true) := by
      have h1 := cut_at 32 _ (s.extract (j + 1) s.size).data.toList hL
      rw [← hsp] at h1
      exact h1
    rcases num (s.extract 0 j) (by rw [ByteArray.size_extract]; omega) with ⟨x, hx, ex, HX⟩ | HX
    · rcases num (s.extract (j + 1) s.size) (by rw [ByteArray.size_extract]; omega) with ⟨y, hy, ey, HY⟩ | HY
      · exact .inl ⟨x, y, hx, hy, node_join hsp ex ey, ⟨fun w hv => seg_node_ok s _ _ x y (by omega) hc HX HY w hv⟩⟩
      · exact .inr ⟨fun w hv => node_n3 s _ _ (by omega) hc x HX HY w hv⟩
    · exact .inr ⟨fun w hv => node_n2 s _ _ (by omega) hc HX w hv⟩
  · have hc : Lib.cut s.data.toList (⟨#[32]⟩ : ByteArray).data.toList = (s.data.toList, (⟨#[]⟩ : ByteArray).data.toList, false) := cut_none 32 _ hm
    exact .inr ⟨fun w hv => node_n1 s s ⟨#[]⟩ (by omega) hc w hv⟩
/-- Parse of seg, of any text: what the reference tells. -/
theorem segp_any (s : ByteArray) (hsz : s.size ≤ 1100000) (c0 c1 c2 c3 e : Int) (h : e = 0 ∧ segB c0 c1 c2 c3 = true ∧ s = segS c0 c1 c2 c3 ∨ e = 140 ∧ c0 = 0 ∧ c1 = 0 ∧ c2 = 0 ∧ c3 = 0 ∧ ∀ a b c d : Int, segB a b c d = true → s ≠ segS a b c d) (w : World) (hV : Vars w) :
    Calls Tryz.prog 56 #[.string s] w fun x w' => x = .returned (.tuple #[.agg #[.int .i64 c0, .int .i64 c1, .int .i64 c2, .int .i64 c3], .int .i64 e]) ∧ Below w.heap.size w w' := by
  rcases h with ⟨rfl, hg, rfl⟩ | ⟨rfl, rfl, rfl, rfl, rfl, hno⟩
  · exact parse_text c0 c1 c2 c3 hg w hV
  · by_cases hm : (44 : UInt8) ∈ s.data.toList
    · obtain ⟨j, hj, hnj⟩ := mem_first hm
      have hjs : j < s.size := by
        have := (List.getElem?_eq_some_iff.1 hj).1
        rw [size_list] at this
        exact this
      have hsp := cut_list s j 44 hj
      have hL : (44 : UInt8) ∉ (s.extract 0 j).data.toList := by rw [take_list]; exact hnj
      have hc : Lib.cut s.data.toList (⟨#[44]⟩ : ByteArray).data.toList = ((s.extract 0 j).data.toList, (s.extract (j + 1) s.size).data.toList, true) := by
        have h1 := cut_at 44 _ (s.extract (j + 1) s.size).data.toList hL
        rw [← hsp] at h1
        exact h1
      rcases node_any (s.extract 0 j) (by rw [ByteArray.size_extract]; omega) with ⟨ax, ay, _, _, ea, HA⟩ | HA
      · rcases node_any (s.extract (j + 1) s.size) (by rw [ByteArray.size_extract]; omega) with ⟨bx, by_, _, _, eb, HB⟩ | HB
        · have hs : s = segS ax ay bx by_ := by
            apply bytes_ext
            rw [hsp, seg_list, ← ea, ← eb]
          have hg : segB ax ay bx by_ = false := by
            cases hq : segB ax ay bx by_ with
            | false => rfl
            | true => exact absurd hs (hno ax ay bx by_ hq)
          exact segp_none s _ _ ax ay bx by_ (by omega) hc hg HA HB w hV
        · exact segp_n3 s _ _ (by omega) hc ax ay HA HB w hV
      · exact segp_n2 s _ _ (by omega) hc HA w hV
    · have hc : Lib.cut s.data.toList (⟨#[44]⟩ : ByteArray).data.toList = (s.data.toList, (⟨#[]⟩ : ByteArray).data.toList, false) := cut_none 44 _ hm
      exact segp_n1 s s ⟨#[]⟩ (by omega) hc w hV
end Go.Proofs.YtfchmikbebdflaaGreatDoor
