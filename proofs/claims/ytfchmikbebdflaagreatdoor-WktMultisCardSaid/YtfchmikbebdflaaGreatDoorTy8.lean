/-
  seg.Parse, of any text: as the reference. Conditions stand in each theorem.
-/
import Derived.Test.YtfchmikbebdflaaGreatDoorWd3
import Derived.Test.YtfchmikbebdflaaGreatDoorBk
import Derived.Test.YtfchmikbebdflaaGreatDoorTs3
namespace Go.Proofs.YtfchmikbebdflaaGreatDoor
open Go.RowKit Go.BigFrame

set_option maxRecDepth 20000 in
set_option maxHeartbeats 1000000 in
theorem seg_node_ok (s sx sy : ByteArray) (x y : Int) (hs : s.size < 4294967281) (hc : Lib.cut s.data.toList (⟨#[32]⟩ : ByteArray).data.toList = (sx.data.toList, sy.data.toList, true))
    (HX : Hd (∀ w, Vars w → Calls Tryz.prog 101 #[.string sx] w fun e w' => e = .returned (.int .i64 x) ∧ Below w.heap.size w w'))
    (HY : Hd (∀ w, Vars w → Calls Tryz.prog 101 #[.string sy] w fun e w' => e = .returned (.int .i64 y) ∧ Below w.heap.size w w')) (w : World) (hV : Vars w) :
    Calls Tryz.prog 81 #[.string s] w fun e w' => e = .returned (.agg #[.int .i64 x, .int .i64 y]) ∧ Below w.heap.size w w' := by
  have HC : Hd (∀ w, Vars w → Calls Tryz.prog 79 #[.string s, .string ⟨#[32]⟩] w fun e w' => e = .returned (.tuple #[.string sx, .string sy, .bool true]) ∧ Below w.heap.size w w') := ⟨fun w hv => by
    have h := scut_any s ⟨#[32]⟩ w hs hv
    rw [hc] at h
    exact h⟩
  have HV := Hd.mk hV
  clear hs hc hV
  go_enter Tryz.func81, Tryz.ntmps81
  go_wp2_with fail
  refine (HC.out _ (HV.out.below (by focus (repeat (first | (with_reducible exact Below.refl _ _) | (with_reducible assumption) | ((with_reducible refine Below.setCell ?_ ?_ _); rotate_left; (focus (first | omega | (simp; done) | (simp; omega)))) | ((with_reducible refine Below.alloc ?_ ?_ _); rotate_left; (focus (first | omega | (simp; done) | (simp; omega)))) | (with_reducible refine Below.drew ?_) | (refine below_on ?_ (by assumption))))))).mono ?_
  rintro e w1 ⟨rfl, hb⟩
  have z0 := heap_below hb (heap_new w (.cells #[.int .i64 0, .int .i64 0] 24))
  have hB : Below w.heap.size w w1 := below_on (by focus (repeat (first | (with_reducible exact Below.refl _ _) | (with_reducible assumption) | ((with_reducible refine Below.setCell ?_ ?_ _); rotate_left; (focus (first | omega | (simp; done) | (simp; omega)))) | ((with_reducible refine Below.alloc ?_ ?_ _); rotate_left; (focus (first | omega | (simp; done) | (simp; omega)))) | (with_reducible refine Below.drew ?_) | (refine below_on ?_ (by assumption))))) hb
  clear hb HC
  go_wp2_with (go_at_call 80; refine (seg_must_ok _ _).mono ?_; rintro e w4 ⟨rfl, rfl⟩)
  refine (HX.out _ (HV.out.below hB)).mono ?_
  rintro e w2 ⟨rfl, hb⟩
  have z1 := heap_below hb z0
  have hB2 := below_on hB hb
  clear hb z0 hB HX
  go_wp2_with fail
  refine (HY.out _ (HV.out.below hB2)).mono ?_
  rintro e w3 ⟨rfl, hb⟩
  have z2 := heap_below hb z1
  have hB3 := below_on hB2 hb
  clear hb z1 hB2 HY
  go_wp2_with (refine wpList_store_block rfl 24 (.tmp 2) (.tmp 18) rfl w.heap.size #[.int .i64 x, .int .i64 y] rfl rfl z2 rfl (by kernel_rfl) rfl ?_; rintro W2 ⟨k1, k2, k3⟩; have hF := hB3.trans (k3 _ (Nat.le_refl _)); clear z2 hB3 k2 k3)
  have c1 := cell_at k1
  exact bodyPost_ret (by simp [results, Tryz.results81, go_sem, Act.put, c1] <;> rfl) rfl ⟨rfl, hF⟩
/-- What a segment and an errno named as results hold. -/
def OutS (w : World) (b d : Nat) (cs : Array Value) (n : Int) (W : World) : Prop :=
  W.heap[b]? = some (.cells cs 26 (0, 0)) ∧ W.heap[d]? = some (.cells #[.int .i64 n] 31 (0, 0)) ∧ Below w.heap.size w W
theorem clear_segp {W : World} {b : Nat} {c : Array Value} (h : W.heap[b]? = some (.cells c 26 (0, 0))) (hs : c.size = 4) :
    Calls Tryz.prog 78 #[.pointer (some ⟨b, 0, none⟩)] W fun e w' => e = .returned (.tuple #[]) ∧ Wr b #[.int .i64 0, .int .i64 0, .int .i64 0, .int .i64 0] 26 W w' := by
  go_enter Tryz.func78, Tryz.ntmps78
  go_wp2_with (refine wpList_store_block rfl 26 (.tmp 0) (.tmp 1) rfl b #[.int .i64 0, .int .i64 0, .int .i64 0, .int .i64 0] rfl rfl h hs (by kernel_rfl) rfl ?_; rintro W2 hW)
  go_end0
  exact ⟨rfl, hW⟩
set_option maxRecDepth 20000 in
set_option maxHeartbeats 2000000 in
theorem segp_none (s sa sb : ByteArray) (ax ay bx by_ : Int) (hs : s.size < 4294967281) (hc : Lib.cut s.data.toList (⟨#[44]⟩ : ByteArray).data.toList = (sa.data.toList, sb.data.toList, true)) (hseg : segB ax ay bx by_ = false)
    (HA : Hd (∀ w, Vars w → Calls Tryz.prog 81 #[.string sa] w fun e w' => e = .returned (.agg #[.int .i64 ax, .int .i64 ay]) ∧ Below w.heap.size w w'))
    (HB : Hd (∀ w, Vars w → Calls Tryz.prog 81 #[.string sb] w fun e w' => e = .returned (.agg #[.int .i64 bx, .int .i64 by_]) ∧ Below w.heap.size w w')) (w : World) (hV : Vars w) :
    Calls Tryz.prog 56 #[.string s] w fun e w' => e = .returned (.tuple #[.agg #[.int .i64 0, .int .i64 0, .int .i64 0, .int .i64 0], .int .i64 140]) ∧ Below w.heap.size w w' := by
  have hmf : ∀ (fn : Fn) (first cap : Array Value) (w : World), (Instr.makeFunc fn first cap).run Tryz.prog w = .ok (.func fn first cap) w := fun _ _ _ _ => rfl
  have HC : Hd (∀ w, Vars w → Calls Tryz.prog 79 #[.string s, .string ⟨#[44]⟩] w fun e w' => e = .returned (.tuple #[.string sa, .string sb, .bool true]) ∧ Below w.heap.size w w') := ⟨fun w hv => by
    have h := scut_any s ⟨#[44]⟩ w hs hv
    rw [hc] at h
    exact h⟩
  have HK : Hd (∀ w, Calls Tryz.prog 34 #[.agg #[.int .i64 ax, .int .i64 ay, .int .i64 bx, .int .i64 by_]] w fun e w' => e = .returned (.int .i64 2) ∧ Below w.heap.size w w') := ⟨fun w => by
    have h := seg_check ax ay bx by_ w
    rw [hseg] at h
    exact h⟩
  have HV := Hd.mk hV
  clear hs hc hV hseg
  go_enter_defers Tryz.func56, Tryz.ntmps56
  go_wp2_with fail
  refine (HC.out _ (HV.out.below (by focus (repeat (first | (with_reducible exact Below.refl _ _) | (with_reducible assumption) | ((with_reducible refine Below.setCell ?_ ?_ _); rotate_left; (focus (first | omega | (simp; done) | (simp; omega)))) | ((with_reducible refine Below.alloc ?_ ?_ _); rotate_left; (focus (first | omega | (simp; done) | (simp; omega)))) | (with_reducible refine Below.drew ?_) | (refine below_on ?_ (by assumption))))))).mono ?_
  rintro e w1 ⟨rfl, hb⟩
  have z0 := heap_below hb (heap_old (heap_new w (.cells #[.int .i64 0, .int .i64 0, .int .i64 0, .int .i64 0] 26)) _)
  have z1 := heap_below hb (heap_at (n := w.heap.size + 1) (by simp) (.cells #[.int .i64 0] 31))
  have hB : Below w.heap.size w w1 := below_on (by focus (repeat (first | (with_reducible exact Below.refl _ _) | (with_reducible assumption) | ((with_reducible refine Below.setCell ?_ ?_ _); rotate_left; (focus (first | omega | (simp; done) | (simp; omega)))) | ((with_reducible refine Below.alloc ?_ ?_ _); rotate_left; (focus (first | omega | (simp; done) | (simp; omega)))) | (with_reducible refine Below.drew ?_) | (refine below_on ?_ (by assumption))))) hb
  clear hb HC
  go_wp2_with (go_at_call 80; refine (seg_must_ok _ _).mono ?_; rintro e w4 ⟨rfl, rfl⟩)
  refine (HA.out _ (HV.out.below hB)).mono ?_
  rintro e w2 ⟨rfl, hb⟩
  have y0 := heap_below hb z0
  have y1 := heap_below hb z1
  have hB2 := below_on hB hb
  clear hb z0 z1 hB HA
  go_wp2_with fail
  refine (HB.out _ (HV.out.below hB2)).mono ?_
  rintro e w3 ⟨rfl, hb⟩
  have z0 := heap_below hb y0
  have z1 := heap_below hb y1
  have hB3 := below_on hB2 hb
  clear hb y0 y1 hB2 HB
  have c0 := cell_at z0
  have f0 := frozen_at z0
  go_upto_region 5 with (fail)
  refine abs_wp (fun W => W.heap[w.heap.size]? = some (.cells #[.int .i64 ax, .int .i64 ay, .int .i64 bx, .int .i64 by_] 26 (0, 0)) ∧ W.heap[w.heap.size + 1]? = some (.cells #[.int .i64 0] 31 (0, 0)) ∧ Below w.heap.size w W) ⟨by simpa using heap_set (heap_set (heap_set (heap_set z0 0 _) 1 _) 2 _) 3 _, heap_set_other (heap_set_other (heap_set_other (heap_set_other z1 (by simp) _) (by simp) _) (by simp) _) (by simp) _, by focus (repeat (first | (with_reducible exact Below.refl _ _) | (with_reducible assumption) | ((with_reducible refine Below.setCell ?_ ?_ _); rotate_left; (focus (first | omega | (simp; done) | (simp; omega)))) | ((with_reducible refine Below.alloc ?_ ?_ _); rotate_left; (focus (first | omega | (simp; done) | (simp; omega)))) | (with_reducible refine Below.drew ?_) | (refine below_on ?_ (by assumption))))⟩ fun W ⟨y0, y1, hB4⟩ => ?_
  clear z0 z1 hB3 c0 f0
  have c0 := cell_at y0
  go_wp2_with fail
  refine (HK.out _).mono ?_
  rintro e w5 ⟨rfl, hb⟩
  have z0 := heap_below hb y0
  have z1 := heap_below hb y1
  have hB5 := below_on hB4 hb
  clear hb y0 y1 hB4 HK c0
  go_wp2_with (go_at_call 80; refine (seg_must_no _ _).mono ?_; rintro e w6 ⟨rfl, rfl⟩)
  refine leaves_cons (f := 77) (args := #[.pointer (some ⟨w.heap.size + 1, 0, none⟩), .func (.func 78) #[] #[.pointer (some ⟨w.heap.size, 0, none⟩)]]) (by simp) (by simp [go_sem]) ?_
  have v0 := heap_set_other z0 (p := ⟨w.heap.size + 1, 0, none⟩) (by simp) (.int .i64 140)
  have v1 : (w6.setCell ⟨w.heap.size + 1, 0, none⟩ (.int .i64 140)).heap[w.heap.size + 1]? = some (.cells #[.int .i64 140] 31 (0, 0)) := by simpa using heap_set z1 0 (.int .i64 140)
  refine (seg_caught_full _ _ 140 _ _ _ _ (Wr w.heap.size #[.int .i64 0, .int .i64 0, .int .i64 0, .int .i64 0] 26 (w6.setCell ⟨w.heap.size + 1, 0, none⟩ (.int .i64 140))) (cell_at z1 0) (frozen_at z1 0) (fun _ => rfl) (clear_segp v0 rfl)).mono ?_
  rintro e u' w7 ⟨rfl, rfl, hW⟩
  have hF : Below w.heap.size w w7 := (Below.setCell hB5 (by simp) _).trans (hW.below _ (Nat.le_refl _))
  refine abs_leaves (OutS w w.heap.size (w.heap.size + 1) #[.int .i64 0, .int .i64 0, .int .i64 0, .int .i64 0] 140) ⟨hW.here, hW.other _ _ (by omega) v1, hF⟩ fun W ⟨y1, y2, hB⟩ => ?_
  have c1 := cell_at y1
  have c2 := cell_at y2
  simp [Leaves, settle, results, Tryz.results56, go_sem, c1, c2]
  exact hB
end Go.Proofs.YtfchmikbebdflaaGreatDoor

namespace Go.Proofs.YtfchmikbebdflaaGreatDoor

theorem digit_byte (d : Nat) (h : d < 10) : (UInt8.ofNat (48 + d)).toNat = 48 + d := by
  rw [UInt8.toNat_ofNat']
  omega
theorem parse_dec (M : Nat) (hM : M ≤ 18446744073709551615) : ∀ (u : Nat) (r : List UInt8), u ≤ M → Lib.parseUintM M 0 (Lib.decDigits u ++ r) = Lib.parseUintM M u r := by
  intro u
  induction u using Nat.strongRecOn with
  | _ u ih =>
    intro r hu
    by_cases h : u < 10
    · rw [Lib.decDigits, dif_pos h]
      simp only [List.cons_append, List.nil_append]
      rw [Lib.parseUintM, digit_byte u h, if_pos (by omega), if_neg (by omega), if_neg (by omega)]
      congr 1
      omega
    · rw [Lib.decDigits, dif_neg h, List.append_assoc, ih (u / 10) (by omega) _ (by omega)]
      simp only [List.cons_append, List.nil_append]
      rw [Lib.parseUintM, digit_byte (u % 10) (by omega), if_pos (by omega), if_neg (by omega), if_neg (by omega)]
      congr 1
      omega
theorem dec_ne (u : Nat) : Lib.decDigits u ≠ [] := by
  rw [Lib.decDigits]
  split
  · simp
  · simp
theorem dec_byte (u : Nat) : ∀ c ∈ Lib.decDigits u, 48 ≤ c.toNat ∧ c.toNat ≤ 57 := by
  induction u using Nat.strongRecOn with
  | _ u ih =>
    intro c hc
    by_cases h : u < 10
    · rw [Lib.decDigits, dif_pos h] at hc
      rw [List.mem_singleton] at hc
      rw [hc, digit_byte u h]
      omega
    · rw [Lib.decDigits, dif_neg h, List.mem_append, List.mem_singleton] at hc
      rcases hc with hc | rfl
      · exact ih (u / 10) (by omega) c hc
      · rw [digit_byte (u % 10) (by omega)]
        omega
theorem parse_dec_all (u : Nat) (hu : u ≤ 18446744073709551615) : Lib.parseUintB 64 (Lib.decDigits u) = .ok u := by
  unfold Lib.parseUintB
  rw [if_neg (dec_ne u)]
  have h := parse_dec (2 ^ 64 - 1) (by decide) u [] (by omega)
  rw [List.append_nil] at h
  rw [h, Lib.parseUintM]
/-- Parsing is the other way of printing. -/
theorem parse_itoa (n : Int) (h0 : -9223372036854775808 ≤ n) (h1 : n ≤ 9223372036854775807) : Lib.parseIntB 64 (Lib.itoa n) = .ok n := by
  unfold Lib.itoa
  by_cases hn : n < 0
  · rw [if_pos hn]
    unfold Lib.parseIntB
    simp only [show (45 : UInt8).toNat = 45 by decide]
    simp only [or_true, if_true, parse_dec_all n.natAbs (by omega), true_and, not_true, false_and, if_false]
    rw [if_neg (by omega)]
    congr 1
    omega
  · rw [if_neg hn]
    have hb := dec_byte n.toNat
    have hp := parse_dec_all n.toNat (by omega)
    cases hd : Lib.decDigits n.toNat with
    | nil => exact absurd hd (dec_ne _)
    | cons c r =>
      rw [hd] at hb hp
      have hc := hb c (by simp)
      unfold Lib.parseIntB
      have e1 : ¬ c.toNat = 43 := by omega
      have e2 : ¬ c.toNat = 45 := by omega
      simp only [e1, e2, or_self, if_false, hp, not_false_eq_true, true_and, false_and]
      rw [if_neg (by omega)]
      congr 1
      omega
theorem index_at (c : UInt8) : ∀ (l r : List UInt8), c ∉ l → Lib.index (l ++ c :: r) [c] = l.length
  | [], r, _ => by
    rw [List.nil_append, Lib.index]
    simp [List.isPrefixOf]
  | a :: l, r, h => by
    have h1 : a ≠ c := fun e => h (by simp [e])
    have h2 : c ∉ l := fun e => h (by simp [e])
    have ih := index_at c l r h2
    rw [List.cons_append, Lib.index, ih]
    have h3 : ([c] : List UInt8).isPrefixOf (a :: (l ++ c :: r)) = false := by
      simp [List.isPrefixOf]
      exact fun e => absurd e.symm h1
    rw [h3]
    have h4 : (((l.length : Nat) : Int) == -1) = false := by rw [beq_eq_false_iff_ne]; omega
    simp [h4]
/-- A text is cut at the first byte of a kind. -/
theorem cut_at (c : UInt8) (l r : List UInt8) (h : c ∉ l) : Lib.cut (l ++ c :: r) [c] = (l, r, true) := by
  unfold Lib.cut
  rw [index_at c l r h, if_pos (by omega)]
  simp
theorem itoa_byte (n : Int) : ∀ c ∈ Lib.itoa n, c.toNat = 45 ∨ 48 ≤ c.toNat ∧ c.toNat ≤ 57 := by
  intro c hc
  unfold Lib.itoa at hc
  split at hc
  · rw [List.mem_cons] at hc
    rcases hc with rfl | hc
    · exact .inl rfl
    · exact .inr (dec_byte _ c hc)
  · exact .inr (dec_byte _ c hc)
theorem itoa_no (n : Int) (c : UInt8) (h : c.toNat < 45) : c ∉ Lib.itoa n := fun hc => by
  have := itoa_byte n c hc
  omega
theorem itS_list (n : Int) : (itS n).data.toList = Lib.itoa n := rfl
theorem node_list (x y : Int) : (nodeS x y).data.toList = Lib.itoa x ++ 32 :: Lib.itoa y := by
  unfold nodeS
  simp [itS_list]
theorem seg_list (ax ay bx by_ : Int) : (segS ax ay bx by_).data.toList = (nodeS ax ay).data.toList ++ 44 :: (nodeS bx by_).data.toList := by
  unfold segS
  simp
theorem node_cut (x y : Int) : Lib.cut (nodeS x y).data.toList (⟨#[32]⟩ : ByteArray).data.toList = ((itS x).data.toList, (itS y).data.toList, true) := by
  rw [node_list, itS_list, itS_list]
  exact cut_at 32 _ _ (itoa_no x 32 (by decide))
theorem seg_cut (ax ay bx by_ : Int) : Lib.cut (segS ax ay bx by_).data.toList (⟨#[44]⟩ : ByteArray).data.toList = ((nodeS ax ay).data.toList, (nodeS bx by_).data.toList, true) := by
  rw [seg_list]
  refine cut_at 44 _ _ ?_
  rw [node_list]
  intro h
  rw [List.mem_append, List.mem_cons] at h
  rcases h with h | h | h
  · exact itoa_no ax 44 (by decide) h
  · exact absurd h (by decide)
  · exact itoa_no ay 44 (by decide) h
end Go.Proofs.YtfchmikbebdflaaGreatDoor

namespace Go.Proofs.YtfchmikbebdflaaGreatDoor
open Go.RowKit Go.BigFrame
set_option maxRecDepth 20000 in
set_option maxHeartbeats 2000000 in
theorem segp_ok (s sa sb : ByteArray) (ax ay bx by_ : Int) (hs : s.size < 4294967281) (hc : Lib.cut s.data.toList (⟨#[44]⟩ : ByteArray).data.toList = (sa.data.toList, sb.data.toList, true)) (hseg : segB ax ay bx by_ = true)
    (HA : Hd (∀ w, Vars w → Calls Tryz.prog 81 #[.string sa] w fun e w' => e = .returned (.agg #[.int .i64 ax, .int .i64 ay]) ∧ Below w.heap.size w w'))
    (HB : Hd (∀ w, Vars w → Calls Tryz.prog 81 #[.string sb] w fun e w' => e = .returned (.agg #[.int .i64 bx, .int .i64 by_]) ∧ Below w.heap.size w w')) (w : World) (hV : Vars w) :
    Calls Tryz.prog 56 #[.string s] w fun e w' => e = .returned (.tuple #[.agg #[.int .i64 ax, .int .i64 ay, .int .i64 bx, .int .i64 by_], .int .i64 0]) ∧ Below w.heap.size w w' := by
  have hmf : ∀ (fn : Fn) (first cap : Array Value) (w : World), (Instr.makeFunc fn first cap).run Tryz.prog w = .ok (.func fn first cap) w := fun _ _ _ _ => rfl
  have HC : Hd (∀ w, Vars w → Calls Tryz.prog 79 #[.string s, .string ⟨#[44]⟩] w fun e w' => e = .returned (.tuple #[.string sa, .string sb, .bool true]) ∧ Below w.heap.size w w') := ⟨fun w hv => by
    have h := scut_any s ⟨#[44]⟩ w hs hv
    rw [hc] at h
    exact h⟩
  have HK : Hd (∀ w, Calls Tryz.prog 34 #[.agg #[.int .i64 ax, .int .i64 ay, .int .i64 bx, .int .i64 by_]] w fun e w' => e = .returned (.int .i64 0) ∧ Below w.heap.size w w') := ⟨fun w => by
    have h := seg_check ax ay bx by_ w
    rw [hseg] at h
    exact h⟩
  have HV := Hd.mk hV
  clear hs hc hV hseg
  go_enter_defers Tryz.func56, Tryz.ntmps56
  go_wp2_with fail
  refine (HC.out _ (HV.out.below (by focus (repeat (first | (with_reducible exact Below.refl _ _) | (with_reducible assumption) | ((with_reducible refine Below.setCell ?_ ?_ _); rotate_left; (focus (first | omega | (simp; done) | (simp; omega)))) | ((with_reducible refine Below.alloc ?_ ?_ _); rotate_left; (focus (first | omega | (simp; done) | (simp; omega)))) | (with_reducible refine Below.drew ?_) | (refine below_on ?_ (by assumption))))))).mono ?_
  rintro e w1 ⟨rfl, hb⟩
  have z0 := heap_below hb (heap_old (heap_new w (.cells #[.int .i64 0, .int .i64 0, .int .i64 0, .int .i64 0] 26)) _)
  have z1 := heap_below hb (heap_at (n := w.heap.size + 1) (by simp) (.cells #[.int .i64 0] 31))
  have hB : Below w.heap.size w w1 := below_on (by focus (repeat (first | (with_reducible exact Below.refl _ _) | (with_reducible assumption) | ((with_reducible refine Below.setCell ?_ ?_ _); rotate_left; (focus (first | omega | (simp; done) | (simp; omega)))) | ((with_reducible refine Below.alloc ?_ ?_ _); rotate_left; (focus (first | omega | (simp; done) | (simp; omega)))) | (with_reducible refine Below.drew ?_) | (refine below_on ?_ (by assumption))))) hb
  clear hb HC
  go_wp2_with (go_at_call 80; refine (seg_must_ok _ _).mono ?_; rintro e w4 ⟨rfl, rfl⟩)
  refine (HA.out _ (HV.out.below hB)).mono ?_
  rintro e w2 ⟨rfl, hb⟩
  have y0 := heap_below hb z0
  have y1 := heap_below hb z1
  have hB2 := below_on hB hb
  clear hb z0 z1 hB HA
  go_wp2_with fail
  refine (HB.out _ (HV.out.below hB2)).mono ?_
  rintro e w3 ⟨rfl, hb⟩
  have z0 := heap_below hb y0
  have z1 := heap_below hb y1
  have hB3 := below_on hB2 hb
  clear hb y0 y1 hB2 HB
  have c0 := cell_at z0
  have f0 := frozen_at z0
  go_upto_region 5 with (fail)
  refine abs_wp (fun W => W.heap[w.heap.size]? = some (.cells #[.int .i64 ax, .int .i64 ay, .int .i64 bx, .int .i64 by_] 26 (0, 0)) ∧ W.heap[w.heap.size + 1]? = some (.cells #[.int .i64 0] 31 (0, 0)) ∧ Below w.heap.size w W) ⟨by simpa using heap_set (heap_set (heap_set (heap_set z0 0 _) 1 _) 2 _) 3 _, heap_set_other (heap_set_other (heap_set_other (heap_set_other z1 (by simp) _) (by simp) _) (by simp) _) (by simp) _, by focus (repeat (first | (with_reducible exact Below.refl _ _) | (with_reducible assumption) | ((with_reducible refine Below.setCell ?_ ?_ _); rotate_left; (focus (first | omega | (simp; done) | (simp; omega)))) | ((with_reducible refine Below.alloc ?_ ?_ _); rotate_left; (focus (first | omega | (simp; done) | (simp; omega)))) | (with_reducible refine Below.drew ?_) | (refine below_on ?_ (by assumption))))⟩ fun W ⟨y0, y1, hB4⟩ => ?_
  clear z0 z1 hB3 c0 f0
  have c0 := cell_at y0
  go_wp2_with fail
  refine (HK.out _).mono ?_
  rintro e w5 ⟨rfl, hb⟩
  have z0 := heap_below hb y0
  have z1 := heap_below hb y1
  have hB5 := below_on hB4 hb
  clear hb y0 y1 hB4 HK c0
  have c0 := cell_at z0
  have f0 := frozen_at z0
  have c1 := cell_at z1
  have f1 := frozen_at z1
  go_wp2_with (go_at_call 80; refine (seg_must_ok _ _).mono ?_; rintro e w6 ⟨rfl, rfl⟩)
  refine leaves_cons (f := 77) (args := #[.pointer (some ⟨w.heap.size + 1, 0, none⟩), .func (.func 78) #[] #[.pointer (some ⟨w.heap.size, 0, none⟩)]]) (by simp) (by simp [go_sem]) ?_
  refine (seg_caught_idle _ _ _).mono ?_
  rintro e u' w7 ⟨rfl, rfl, rfl⟩
  refine abs_leaves (OutS w w.heap.size (w.heap.size + 1) #[.int .i64 ax, .int .i64 ay, .int .i64 bx, .int .i64 by_] 0) ⟨?_, ?_, by focus (repeat (first | (with_reducible exact Below.refl _ _) | (with_reducible assumption) | ((with_reducible refine Below.setCell ?_ ?_ _); rotate_left; (focus (first | omega | (simp; done) | (simp; omega)))) | ((with_reducible refine Below.alloc ?_ ?_ _); rotate_left; (focus (first | omega | (simp; done) | (simp; omega)))) | (with_reducible refine Below.drew ?_) | (refine below_on ?_ (by assumption))))⟩ fun W ⟨y1, y2, hB⟩ => ?_
  · refine heap_set_other ?_ (by simp) _
    simpa using heap_set (heap_set (heap_set (heap_set z0 0 (.int .i64 ax)) 1 (.int .i64 ay)) 2 (.int .i64 bx)) 3 (.int .i64 by_)
  · simpa using heap_set (heap_set_other (heap_set_other (heap_set_other (heap_set_other z1 (p := ⟨w.heap.size, 0, none⟩) (by simp) (.int .i64 ax)) (p := ⟨w.heap.size, 1, none⟩) (by simp) (.int .i64 ay)) (p := ⟨w.heap.size, 2, none⟩) (by simp) (.int .i64 bx)) (p := ⟨w.heap.size, 3, none⟩) (by simp) (.int .i64 by_)) 0 (.int .i64 0)
  have c1 := cell_at y1
  have c2 := cell_at y2
  simp [Leaves, settle, results, Tryz.results56, go_sem, c1, c2]
  exact hB
/-- Parse of Text is the segment. -/
theorem parse_text (ax ay bx by_ : Int) (hs : segB ax ay bx by_ = true) (w : World) (hV : Vars w) :
    Calls Tryz.prog 56 #[.string (segS ax ay bx by_)] w fun e w' => e = .returned (.tuple #[.agg #[.int .i64 ax, .int .i64 ay, .int .i64 bx, .int .i64 by_], .int .i64 0]) ∧ Below w.heap.size w w' := by
  have hs2 := hs
  unfold segB at hs2
  simp only [Bool.and_eq_true] at hs2
  obtain ⟨ha, hb, _⟩ := hs2
  have ra := node_range ha
  have rb := node_range hb
  have num : ∀ n : Int, -67108864 ≤ n ∧ n ≤ 67108864 → Hd (∀ w, Vars w → Calls Tryz.prog 101 #[.string (itS n)] w fun e w' => e = .returned (.int .i64 n) ∧ Below w.heap.size w w') := fun n hn => ⟨fun w hv => number_ok (itS n) n (Nat.le_trans (itS_size n (by omega) (by omega)) (by decide)) (by omega) (by omega) (parse_itoa n (by omega) (by omega)) rfl w hv⟩
  have nod : ∀ x y : Int, (-67108864 ≤ x ∧ x ≤ 67108864) → (-67108864 ≤ y ∧ y ≤ 67108864) → Hd (∀ w, Vars w → Calls Tryz.prog 81 #[.string (nodeS x y)] w fun e w' => e = .returned (.agg #[.int .i64 x, .int .i64 y]) ∧ Below w.heap.size w w') := fun x y hx hy => ⟨fun w hv => seg_node_ok (nodeS x y) (itS x) (itS y) x y (Nat.lt_of_le_of_lt (nodeS_size x y (by omega) (by omega)) (by decide)) (node_cut x y) (num x hx) (num y hy) w hv⟩
  refine segp_ok (segS ax ay bx by_) (nodeS ax ay) (nodeS bx by_) ax ay bx by_ ?_ (seg_cut ax ay bx by_) hs (nod ax ay ra.1 ra.2) (nod bx by_ rb.1 rb.2) w hV
  have h1 := nodeS_size ax ay (by omega) (by omega)
  have h2 := nodeS_size bx by_ (by omega) (by omega)
  unfold segS
  rw [ByteArray.size_append, ByteArray.size_append, show (⟨#[44]⟩ : ByteArray).size = 1 from rfl]
  omega
end Go.Proofs.YtfchmikbebdflaaGreatDoor

namespace Go.Proofs.YtfchmikbebdflaaGreatDoor

/-- Is a byte a digit? -/
def digU (c : UInt8) : Bool := decide (48 ≤ c.toNat) && decide (c.toNat ≤ 57)
/-- The number of digits. -/
def valU (l : List UInt8) : Nat := l.foldl (fun m c => 10 * m + (c.toNat - 48)) 0
theorem valU_snoc (l : List UInt8) (c : UInt8) : valU (l ++ [c]) = 10 * valU l + (c.toNat - 48) := by
  unfold valU
  rw [List.foldl_append]
  rfl
theorem digU_range {c : UInt8} (h : digU c = true) : 48 ≤ c.toNat ∧ c.toNat ≤ 57 := by
  unfold digU at h
  simpa using h
theorem rev_ind {P : List UInt8 → Prop} (h0 : P []) (h1 : ∀ l c, P l → P (l ++ [c])) (l : List UInt8) : P l := by
  have h : ∀ l : List UInt8, P l.reverse := by
    intro l
    induction l with
    | nil => exact h0
    | cons c l ih =>
      rw [List.reverse_cons]
      exact h1 _ _ ih
  have := h l.reverse
  rwa [List.reverse_reverse] at this
theorem valU_lt (l : List UInt8) : l.all digU = true → valU l < 10 ^ l.length := by
  refine rev_ind (P := fun l => l.all digU = true → valU l < 10 ^ l.length) ?_ ?_ l
  · intro _
    decide
  · intro l c ih h
    rw [List.all_append, Bool.and_eq_true] at h
    have h1 := ih h.1
    have h2 : digU c = true := by simpa using h.2
    have h3 := digU_range h2
    rw [valU_snoc, List.length_append, List.length_singleton, Nat.pow_succ]
    omega
theorem byte_of (c : UInt8) (h : digU c = true) : UInt8.ofNat (48 + (c.toNat - 48)) = c := by
  have h1 := digU_range h
  apply UInt8.toNat_inj.1
  rw [UInt8.toNat_ofNat']
  omega
/-- Digits that do not begin with a nought too many are their number's text. -/
theorem dec_valU (l : List UInt8) : l.all digU = true → l ≠ [] → (l.head? ≠ some 48 ∨ l.length = 1) → Lib.decDigits (valU l) = l ∧ (l.head? ≠ some 48 → 0 < valU l) := by
  refine rev_ind (P := fun l => l.all digU = true → l ≠ [] → (l.head? ≠ some 48 ∨ l.length = 1) → Lib.decDigits (valU l) = l ∧ (l.head? ≠ some 48 → 0 < valU l)) ?_ ?_ l
  · intro _ h
    exact absurd rfl h
  · intro l c ih h hne h0
    rw [List.all_append, Bool.and_eq_true] at h
    have h2 : digU c = true := by simpa using h.2
    have h3 := digU_range h2
    rw [valU_snoc]
    by_cases hl : l = []
    · subst hl
      have e : 10 * valU [] + (c.toNat - 48) = c.toNat - 48 := by
        show 10 * 0 + (c.toNat - 48) = _
        omega
      rw [e, Lib.decDigits, dif_pos (by omega), byte_of c h2]
      refine ⟨rfl, fun hh => ?_⟩
      have h4 : c ≠ 48 := fun e => hh (by rw [e]; rfl)
      have h5 : c.toNat ≠ 48 := fun e => h4 (UInt8.toNat_inj.1 (by rw [e]; rfl))
      omega
    · have hh : (l ++ [c]).head? = l.head? := by
        cases l with
        | nil => exact absurd rfl hl
        | cons a l => rfl
      have h48 : l.head? ≠ some 48 := by
        rcases h0 with h0 | h0
        · rw [hh] at h0
          exact h0
        · rw [List.length_append, List.length_singleton] at h0
          have : l.length = 0 := by omega
          exact absurd (List.eq_nil_of_length_eq_zero this) hl
      obtain ⟨i1, i2⟩ := ih h.1 hl (.inl h48)
      have i3 := i2 h48
      refine ⟨?_, fun _ => by omega⟩
      rw [Lib.decDigits, dif_neg (by omega), show (10 * valU l + (c.toNat - 48)) / 10 = valU l by omega, show (10 * valU l + (c.toNat - 48)) % 10 = c.toNat - 48 by omega, i1, byte_of c h2]
theorem dec_all (u : Nat) : (Lib.decDigits u).all digU = true := by
  rw [List.all_eq_true]
  intro c hc
  have := dec_byte u c hc
  unfold digU
  simpa using this
theorem valU_dec (u : Nat) : valU (Lib.decDigits u) = u := by
  induction u using Nat.strongRecOn with
  | _ u ih =>
    by_cases h : u < 10
    · rw [Lib.decDigits, dif_pos h]
      show 10 * 0 + ((UInt8.ofNat (48 + u)).toNat - 48) = u
      rw [digit_byte u h]
      omega
    · rw [Lib.decDigits, dif_neg h, valU_snoc, ih (u / 10) (by omega), digit_byte (u % 10) (by omega)]
      omega
theorem dec_head (u : Nat) : (Lib.decDigits u).head? ≠ some 48 ∨ (Lib.decDigits u).length = 1 := by
  induction u using Nat.strongRecOn with
  | _ u ih =>
    by_cases h : u < 10
    · rw [Lib.decDigits, dif_pos h]
      exact .inr rfl
    · left
      by_cases h2 : u / 10 < 10
      · rw [Lib.decDigits, dif_neg h, Lib.decDigits, dif_pos h2]
        show some (UInt8.ofNat (48 + u / 10)) ≠ some 48
        intro e
        have e2 := congrArg UInt8.toNat (Option.some.inj e)
        rw [digit_byte (u / 10) h2] at e2
        have : (48 : UInt8).toNat = 48 := by decide
        omega
      · have := ih (u / 10) (by omega)
        rw [Lib.decDigits, dif_neg h]
        have hne := dec_ne (u / 10)
        cases hd : Lib.decDigits (u / 10) with
        | nil => exact absurd hd hne
        | cons a l =>
          rw [hd] at this
          rcases this with h3 | h3
          · exact h3
          · exfalso
            have h4 := valU_lt (a :: l) (by rw [← hd]; exact dec_all _)
            rw [← hd, valU_dec, hd, h3] at h4
            omega
theorem dec_len {u k : Nat} (hk : 0 < k) (h : u < 10 ^ k) : (Lib.decDigits u).length ≤ k := by
  induction k generalizing u with
  | zero => omega
  | succ k ih =>
    by_cases h2 : u < 10
    · rw [Lib.decDigits, dif_pos h2]
      simp
    · rw [Lib.decDigits, dif_neg h2, List.length_append, List.length_singleton]
      have hk2 : 0 < k := by
        rcases Nat.eq_zero_or_pos k with rfl | h3
        · simp at h
          omega
        · exact h3
      have h5 : u / 10 < 10 ^ k := by
        rw [Nat.pow_succ] at h
        omega
      have := ih hk2 h5
      omega
/-- A byte of a text. -/
def bt (s : ByteArray) (k : Nat) : Int := ((s.data.toList.getD k 0).toNat : Int)
theorem get_bt (s : ByteArray) (k : Nat) (h : k < s.size) : ((s[k]'h).toNat : Int) = bt s k := by
  unfold bt
  have h1 : k < s.data.toList.length := by simpa using h
  rw [List.getD_eq_getElem?_getD, List.getElem?_eq_getElem h1]
  rfl
theorem bt_range (s : ByteArray) (k : Nat) : 0 ≤ bt s k ∧ bt s k < 256 := by
  unfold bt
  have := UInt8.toNat_lt (s.data.toList.getD k 0)
  omega
theorem size_list (s : ByteArray) : s.data.toList.length = s.size := by simp
end Go.Proofs.YtfchmikbebdflaaGreatDoor

namespace Go.Proofs.YtfchmikbebdflaaGreatDoor
open Go.RowKit Go.BigFrame
/-- Which digits are a number, and which one. -/
def goodU (neg : Bool) (d : List UInt8) : Bool := !d.isEmpty && (decide (d.length ≤ 9) && ((d.head? != some 48 || (d.length == 1 && !neg)) && d.all digU))
def valS (neg : Bool) (d : List UInt8) : Int := if goodU neg d then (if neg then -(valU d : Int) else (valU d : Int)) else 0
theorem bt_head (D : ByteArray) (h : 0 < D.size) : (D.data.toList.head? != some 48) = !(bt D 0 == 48) := by
  have h1 : 0 < D.data.toList.length := by simpa using h
  unfold bt
  cases hl : D.data.toList with
  | nil => rw [hl] at h1; cases h1
  | cons a l =>
    show (some a != some 48) = !(((a.toNat : Nat) : Int) == 48)
    have e : (a = 48) ↔ (((a.toNat : Nat) : Int) = 48) := by
      constructor
      · rintro rfl
        decide
      · intro h2
        apply UInt8.toNat_inj.1
        have : (48 : UInt8).toNat = 48 := by decide
        omega
    by_cases hh : a = 48
    · subst hh
      decide
    · have h3 : ¬ (((a.toNat : Nat) : Int) = 48) := fun h4 => hh (e.2 h4)
      have h5 : (some a != some 48) = true := by simpa using hh
      have h6 : (((a.toNat : Nat) : Int) == 48) = false := by simpa using h3
      rw [h5, h6]
      rfl
theorem bt_dig (D : ByteArray) (k : Nat) (h : k < D.size) : ∃ c, D.data.toList[k]? = some c ∧ bt D k = ((c.toNat : Nat) : Int) := by
  have h1 : k < D.data.toList.length := by simpa using h
  refine ⟨D.data.toList[k], List.getElem?_eq_getElem h1, ?_⟩
  unfold bt
  rw [List.getD_eq_getElem?_getD, List.getElem?_eq_getElem h1]
  rfl
theorem empty_bytes (D : ByteArray) : D.toList.isEmpty = decide (D.size = 0) := by
  rw [ByteArray.toList_eq]
  have : D.data.toList.length = D.size := by simp
  cases h : D.data.toList with
  | nil => rw [h] at this; simp at this; simp [← this]
  | cons a l => rw [h] at this; simp at this; simp [← this]
set_option maxRecDepth 20000 in
set_option maxHeartbeats 4000000 in
theorem number_none (s : ByteArray) (h0 : s.size = 0) (_hsz : s.size ≤ 1100000) (w : World) :
    Calls Tryz.prog 85 #[.string s] w fun e w' => e = .returned (.tuple #[.int .i64 (valS false s.data.toList), .bool (goodU false s.data.toList)]) ∧ w' = w := by
  have HG : Hd (goodU false s.data.toList = false) := ⟨by
    have : s.data.toList = [] := List.eq_nil_of_length_eq_zero (by simpa using h0)
    rw [this]; rfl⟩
  have HVS : Hd (valS false s.data.toList = 0) := ⟨by unfold valS; rw [HG.out]; rfl⟩
  have hemp : s.toList.isEmpty = true := by rw [empty_bytes]; simpa using h0
  go_enter Tryz.func85, Tryz.ntmps85
  go_wp2
  refine bodyPost_ret (by first | (simp [results, Tryz.results85, go_sem]; done) | (simp [results, Tryz.results85, go_sem]; rfl)) rfl ?_
  exact ⟨by first | (rw [HVS.out, HG.out]; done) | (rw [HVS.out, HG.out]; simp only [*]), rfl⟩
set_option maxRecDepth 20000 in
set_option maxHeartbeats 4000000 in
theorem number_plain (s : ByteArray) (h0 : 0 < s.size) (h45 : bt s 0 ≠ 45) (hsz : s.size ≤ 1100000) (w : World) :
    Calls Tryz.prog 85 #[.string s] w fun e w' => e = .returned (.tuple #[.int .i64 (valS false s.data.toList), .bool (goodU false s.data.toList)]) ∧ w' = w := by
  have hl0 : decide ((s.size : Int) > 0) = true := by simp; omega
  have hb0 := get_bt s 0 h0
  have hne : (bt s 0 == 45) = false := by simpa using h45
  have hDs : s.size ≤ 1100000 := hsz
  clear h45
  have HLEN : Hd (s.data.toList.length = s.size) := ⟨by simp⟩
  by_cases hz : s.size = 0
  · have HG : Hd (goodU false s.data.toList = false) := ⟨by
      have : s.data.toList = [] := List.eq_nil_of_length_eq_zero (by simpa using hz)
      rw [this]; rfl⟩
    have HVS : Hd (valS false s.data.toList = 0) := ⟨by unfold valS; rw [HG.out]; rfl⟩
    have hemp : s.toList.isEmpty = true := by rw [empty_bytes]; simpa using hz
    go_enter Tryz.func85, Tryz.ntmps85
    go_wp2
    refine bodyPost_ret (by first | (simp [results, Tryz.results85, go_sem]; done) | (simp [results, Tryz.results85, go_sem]; rfl)) rfl ?_
    exact ⟨by first | (rw [HVS.out, HG.out]; done) | (rw [HVS.out, HG.out]; simp only [*]), rfl⟩
  have hemp : s.toList.isEmpty = false := by rw [empty_bytes]; simpa using hz
  by_cases h9 : s.size > 9
  · have HG : Hd (goodU false s.data.toList = false) := ⟨by
      unfold goodU
      rw [HLEN.out, decide_eq_false (by omega : ¬ s.size ≤ 9)]
      simp⟩
    have HVS : Hd (valS false s.data.toList = 0) := ⟨by unfold valS; rw [HG.out]; rfl⟩
    have hd9 : decide ((s.size : Int) > 9) = true := by simp; omega
    go_enter Tryz.func85, Tryz.ntmps85
    go_wp2
    refine bodyPost_ret (by first | (simp [results, Tryz.results85, go_sem]; done) | (simp [results, Tryz.results85, go_sem]; rfl)) rfl ?_
    exact ⟨by first | (rw [HVS.out, HG.out]; done) | (rw [HVS.out, HG.out]; simp only [*]), rfl⟩
  have hd9 : decide ((s.size : Int) > 9) = false := by simp; omega
  have hp : 0 < s.size := by omega
  have hbD := get_bt s 0 hp
  have HHD := Hd.mk (bt_head s hp)
  by_cases h48 : bt s 0 = 48
  · rw [h48] at hbD hb0
    clear hne
    by_cases hg1 : s.size > 1
    · have hd11 : decide ((s.size : Int) > 1) = true := by simp; omega
      have HG : Hd (goodU false s.data.toList = false) := ⟨by
        unfold goodU
        rw [HHD.out, h48, HLEN.out, show (s.size == 1) = false by simp; omega]
        simp⟩
      have HVS : Hd (valS false s.data.toList = 0) := ⟨by unfold valS; rw [HG.out]; rfl⟩
      go_enter Tryz.func85, Tryz.ntmps85
      go_wp2
      all_goals
        refine bodyPost_ret (by first | (simp [results, Tryz.results85, go_sem]; done) | (simp [results, Tryz.results85, go_sem]; rfl)) rfl ?_
        exact ⟨by first | (rw [HVS.out, HG.out]; done) | (rw [HVS.out, HG.out]; simp only [*]), rfl⟩
    have hd11 : decide ((s.size : Int) > 1) = false := by simp; omega
    have HOK : Hd ((s.data.toList.head? != some 48 || (s.data.toList.length == 1 && !false)) = true) := ⟨by rw [HLEN.out, show (s.size == 1) = true by simp; omega]; simp⟩
    have hok : (s.data.toList.head? != some 48 || (s.data.toList.length == 1 && !false)) = true := HOK.out
    have HGA : Hd (goodU false s.data.toList = s.data.toList.all digU) := ⟨by
      unfold goodU
      rw [hok, HLEN.out, decide_eq_true (by omega : s.size ≤ 9)]
      have : s.data.toList.isEmpty = false := by
        cases hl : s.data.toList with
        | nil =>
          have := HLEN.out
          rw [hl] at this
          simp at this
          omega
        | cons a l => rfl
      rw [this]
      rfl⟩
    clear hok HOK HHD
    go_enter Tryz.func85, Tryz.ntmps85
    go_upto_region 8 with (fail)
    go_wp2
    clear hbD
    go_loopw [6, 7] (fun nv iv wr => ∃ k : Nat, k ≤ s.size ∧ iv = .int .i64 k ∧ nv = .int .i64 (valU (s.data.toList.take k)) ∧ Hd ((s.data.toList.take k).all digU = true) ∧ wr = w) (fun _ iv _ => s.size - (intOf iv).toNat)
    case atStart => exact ⟨0, Nat.zero_le _, rfl, rfl, ⟨rfl⟩, rfl⟩
    case round =>
      obtain ⟨k, hk, rfl, rfl, HK, rfl⟩ := hrel
      by_cases hlt : k < s.size
      · have hd1 : decide ((k : Int) < (s.size : Int)) = true := by simp; omega
        obtain ⟨c, hc, hbc⟩ := bt_dig s k hlt
        have hgk := (get_bt s k hlt).trans hbc
        have HC := Hd.mk hc
        clear hc hbc
        by_cases h1 : c.toNat < 48
        · have hd2 : decide (((c.toNat : Nat) : Int) < 48) = true := by simp; omega
          have HG : Hd (goodU false s.data.toList = false) := ⟨by
            rw [HGA.out, List.all_eq_false]
            refine ⟨c, List.mem_of_getElem? HC.out, ?_⟩
            unfold digU
            simp
            omega⟩
          have HVS : Hd (valS false s.data.toList = 0) := ⟨by unfold valS; rw [HG.out]; rfl⟩
          clear h1
          go_wp2
          refine bodyPost_ret (by first | (simp [results, Tryz.results85, go_sem]; done) | (simp [results, Tryz.results85, go_sem]; rfl)) rfl ?_
          exact ⟨by first | (rw [HVS.out, HG.out]; done) | (rw [HVS.out, HG.out]; simp only [*]), rfl⟩
        · have hd2 : decide (((c.toNat : Nat) : Int) < 48) = false := by simp; omega
          by_cases h2 : c.toNat > 57
          · have hd3 : decide (((c.toNat : Nat) : Int) > 57) = true := by simp; omega
            have HG : Hd (goodU false s.data.toList = false) := ⟨by
              rw [HGA.out, List.all_eq_false]
              refine ⟨c, List.mem_of_getElem? HC.out, ?_⟩
              unfold digU
              simp
              omega⟩
            have HVS : Hd (valS false s.data.toList = 0) := ⟨by unfold valS; rw [HG.out]; rfl⟩
            clear h1 h2
            go_wp2
            refine bodyPost_ret (by first | (simp [results, Tryz.results85, go_sem]; done) | (simp [results, Tryz.results85, go_sem]; rfl)) rfl ?_
            exact ⟨by first | (rw [HVS.out, HG.out]; done) | (rw [HVS.out, HG.out]; simp only [*]), rfl⟩
          · have hd3 : decide (((c.toNat : Nat) : Int) > 57) = false := by simp; omega
            have hdc : digU c = true := by unfold digU; simp; omega
            have htk : s.data.toList.take (k + 1) = s.data.toList.take k ++ [c] := by
              rw [List.take_add_one, HC.out]
              rfl
            have HK2 : Hd ((s.data.toList.take (k + 1)).all digU = true) := ⟨by
              rw [htk, List.all_append, HK.out]
              simpa using hdc⟩
            have hv := valU_snoc (s.data.toList.take k) c
            rw [← htk] at hv
            have hv9 := valU_lt _ HK.out
            have hv8 : (10 : Nat) ^ (s.data.toList.take k).length ≤ 10 ^ 9 := Nat.pow_le_pow_right (by decide) (by rw [List.length_take, HLEN.out]; omega)
            have hvb : valU (s.data.toList.take k) < 10 ^ 9 := Nat.lt_of_lt_of_le hv9 hv8
            have hw1 : wrap64 (10 * (valU (s.data.toList.take k) : Int)) = 10 * (valU (s.data.toList.take k) : Int) := by unfold wrap64; omega
            have hw3 : wrap64 (10 * (valU (s.data.toList.take k) : Int) + ((((c.toNat : Nat) : Int) - 48) % 256)) = (valU (s.data.toList.take (k + 1)) : Int) := by
              rw [hv]
              unfold wrap64
              omega
            have HW := Hd.mk (And.intro hw1 hw3)
            clear h1 h2 hdc htk hv hv9 hv8 hvb hw1 hw3
            go_wp2
            go_roundw
            case rel =>
              refine ⟨k + 1, by omega, by go_num, ?_, HK2, by first | rfl | trivial⟩
              simp only [HW.out.1, HW.out.2]
            case measure => simp [intOf]; omega
      · have hkk : k = s.size := by omega
        have hd1 : decide ((k : Int) < (s.size : Int)) = false := by simp; omega
        have hall : s.data.toList.take k = s.data.toList := List.take_of_length_le (by rw [HLEN.out]; omega)
        rw [hall] at HK ⊢
        have HG : Hd (goodU false s.data.toList = true) := ⟨by rw [HGA.out]; exact HK.out⟩
        have hv9 := valU_lt _ HK.out
        have hv8 : (10 : Nat) ^ (s.data.toList).length ≤ 10 ^ 9 := Nat.pow_le_pow_right (by decide) (by rw [HLEN.out]; omega)
        have hvb : valU (s.data.toList) < 10 ^ 9 := Nat.lt_of_lt_of_le hv9 hv8
        have HVS : Hd (valS false s.data.toList = (valU s.data.toList : Int)) := ⟨by unfold valS; rw [HG.out]; rfl⟩
        have hwn : wrap64 (-(valU s.data.toList : Int)) = -(valU s.data.toList : Int) := by unfold wrap64; omega
        clear hkk hall hv9 hv8 hvb
        go_wp2
        refine bodyPost_ret (by first | (simp [results, Tryz.results85, go_sem]; done) | (simp [results, Tryz.results85, go_sem]; rfl)) rfl ?_
        exact ⟨by first | (rw [HVS.out, HG.out]; done) | (rw [HVS.out, HG.out]; simp only [*]), rfl⟩
  have hx48 : (bt s 0 == 48) = false := by simpa using h48
  have HOK : Hd ((s.data.toList.head? != some 48 || (s.data.toList.length == 1 && !false)) = true) := ⟨by rw [HHD.out, hx48]; rfl⟩
  clear h48
  have hok : (s.data.toList.head? != some 48 || (s.data.toList.length == 1 && !false)) = true := HOK.out
  have HGA : Hd (goodU false s.data.toList = s.data.toList.all digU) := ⟨by
    unfold goodU
    rw [hok, HLEN.out, decide_eq_true (by omega : s.size ≤ 9)]
    have : s.data.toList.isEmpty = false := by
      cases hl : s.data.toList with
      | nil =>
        have := HLEN.out
        rw [hl] at this
        simp at this
        omega
      | cons a l => rfl
    rw [this]
    rfl⟩
  clear hok HOK HHD
  go_enter Tryz.func85, Tryz.ntmps85
  go_upto_region 8 with (fail)
  go_wp2
  clear hbD
  go_loopw [6, 7] (fun nv iv wr => ∃ k : Nat, k ≤ s.size ∧ iv = .int .i64 k ∧ nv = .int .i64 (valU (s.data.toList.take k)) ∧ Hd ((s.data.toList.take k).all digU = true) ∧ wr = w) (fun _ iv _ => s.size - (intOf iv).toNat)
  case atStart => exact ⟨0, Nat.zero_le _, rfl, rfl, ⟨rfl⟩, rfl⟩
  case round =>
    obtain ⟨k, hk, rfl, rfl, HK, rfl⟩ := hrel
    by_cases hlt : k < s.size
    · have hd1 : decide ((k : Int) < (s.size : Int)) = true := by simp; omega
      obtain ⟨c, hc, hbc⟩ := bt_dig s k hlt
      have hgk := (get_bt s k hlt).trans hbc
      have HC := Hd.mk hc
      clear hc hbc
      by_cases h1 : c.toNat < 48
      · have hd2 : decide (((c.toNat : Nat) : Int) < 48) = true := by simp; omega
        have HG : Hd (goodU false s.data.toList = false) := ⟨by
          rw [HGA.out, List.all_eq_false]
          refine ⟨c, List.mem_of_getElem? HC.out, ?_⟩
          unfold digU
          simp
          omega⟩
        have HVS : Hd (valS false s.data.toList = 0) := ⟨by unfold valS; rw [HG.out]; rfl⟩
        clear h1
        go_wp2
        refine bodyPost_ret (by first | (simp [results, Tryz.results85, go_sem]; done) | (simp [results, Tryz.results85, go_sem]; rfl)) rfl ?_
        exact ⟨by first | (rw [HVS.out, HG.out]; done) | (rw [HVS.out, HG.out]; simp only [*]), rfl⟩
      · have hd2 : decide (((c.toNat : Nat) : Int) < 48) = false := by simp; omega
        by_cases h2 : c.toNat > 57
        · have hd3 : decide (((c.toNat : Nat) : Int) > 57) = true := by simp; omega
          have HG : Hd (goodU false s.data.toList = false) := ⟨by
            rw [HGA.out, List.all_eq_false]
            refine ⟨c, List.mem_of_getElem? HC.out, ?_⟩
            unfold digU
            simp
            omega⟩
          have HVS : Hd (valS false s.data.toList = 0) := ⟨by unfold valS; rw [HG.out]; rfl⟩
          clear h1 h2
          go_wp2
          refine bodyPost_ret (by first | (simp [results, Tryz.results85, go_sem]; done) | (simp [results, Tryz.results85, go_sem]; rfl)) rfl ?_
          exact ⟨by first | (rw [HVS.out, HG.out]; done) | (rw [HVS.out, HG.out]; simp only [*]), rfl⟩
        · have hd3 : decide (((c.toNat : Nat) : Int) > 57) = false := by simp; omega
          have hdc : digU c = true := by unfold digU; simp; omega
          have htk : s.data.toList.take (k + 1) = s.data.toList.take k ++ [c] := by
            rw [List.take_add_one, HC.out]
            rfl
          have HK2 : Hd ((s.data.toList.take (k + 1)).all digU = true) := ⟨by
            rw [htk, List.all_append, HK.out]
            simpa using hdc⟩
          have hv := valU_snoc (s.data.toList.take k) c
          rw [← htk] at hv
          have hv9 := valU_lt _ HK.out
          have hv8 : (10 : Nat) ^ (s.data.toList.take k).length ≤ 10 ^ 9 := Nat.pow_le_pow_right (by decide) (by rw [List.length_take, HLEN.out]; omega)
          have hvb : valU (s.data.toList.take k) < 10 ^ 9 := Nat.lt_of_lt_of_le hv9 hv8
          have hw1 : wrap64 (10 * (valU (s.data.toList.take k) : Int)) = 10 * (valU (s.data.toList.take k) : Int) := by unfold wrap64; omega
          have hw3 : wrap64 (10 * (valU (s.data.toList.take k) : Int) + ((((c.toNat : Nat) : Int) - 48) % 256)) = (valU (s.data.toList.take (k + 1)) : Int) := by
            rw [hv]
            unfold wrap64
            omega
          have HW := Hd.mk (And.intro hw1 hw3)
          clear h1 h2 hdc htk hv hv9 hv8 hvb hw1 hw3
          go_wp2
          go_roundw
          case rel =>
            refine ⟨k + 1, by omega, by go_num, ?_, HK2, by first | rfl | trivial⟩
            simp only [HW.out.1, HW.out.2]
          case measure => simp [intOf]; omega
    · have hkk : k = s.size := by omega
      have hd1 : decide ((k : Int) < (s.size : Int)) = false := by simp; omega
      have hall : s.data.toList.take k = s.data.toList := List.take_of_length_le (by rw [HLEN.out]; omega)
      rw [hall] at HK ⊢
      have HG : Hd (goodU false s.data.toList = true) := ⟨by rw [HGA.out]; exact HK.out⟩
      have hv9 := valU_lt _ HK.out
      have hv8 : (10 : Nat) ^ (s.data.toList).length ≤ 10 ^ 9 := Nat.pow_le_pow_right (by decide) (by rw [HLEN.out]; omega)
      have hvb : valU (s.data.toList) < 10 ^ 9 := Nat.lt_of_lt_of_le hv9 hv8
      have HVS : Hd (valS false s.data.toList = (valU s.data.toList : Int)) := ⟨by unfold valS; rw [HG.out]; rfl⟩
      have hwn : wrap64 (-(valU s.data.toList : Int)) = -(valU s.data.toList : Int) := by unfold wrap64; omega
      clear hkk hall hv9 hv8 hvb
      go_wp2
      refine bodyPost_ret (by first | (simp [results, Tryz.results85, go_sem]; done) | (simp [results, Tryz.results85, go_sem]; rfl)) rfl ?_
      exact ⟨by first | (rw [HVS.out, HG.out]; done) | (rw [HVS.out, HG.out]; simp only [*]), rfl⟩
set_option maxRecDepth 20000 in
set_option maxHeartbeats 4000000 in
theorem number_neg (s : ByteArray) (D : ByteArray) (h0 : 0 < s.size) (h45 : bt s 0 = 45) (hD : s.extract 1 s.size = D) (hsz : s.size ≤ 1100000) (w : World) :
    Calls Tryz.prog 85 #[.string s] w fun e w' => e = .returned (.tuple #[.int .i64 (valS true D.data.toList), .bool (goodU true D.data.toList)]) ∧ w' = w := by
  have hl0 : decide ((s.size : Int) > 0) = true := by simp; omega
  have hb0 := get_bt s 0 h0
  rw [h45] at hb0
  have hl1 : (1 : Int) ≤ (s.size : Int) := by omega
  have hDs : D.size ≤ 1100000 := by
    rw [← hD, ByteArray.size_extract]
    omega
  clear h45
  have HLEN : Hd (D.data.toList.length = D.size) := ⟨by simp⟩
  by_cases hz : D.size = 0
  · have HG : Hd (goodU true D.data.toList = false) := ⟨by
      have : D.data.toList = [] := List.eq_nil_of_length_eq_zero (by simpa using hz)
      rw [this]; rfl⟩
    have HVS : Hd (valS true D.data.toList = 0) := ⟨by unfold valS; rw [HG.out]; rfl⟩
    have hemp : D.toList.isEmpty = true := by rw [empty_bytes]; simpa using hz
    go_enter Tryz.func85, Tryz.ntmps85
    go_wp2
    refine bodyPost_ret (by first | (simp [results, Tryz.results85, go_sem]; done) | (simp [results, Tryz.results85, go_sem]; rfl)) rfl ?_
    exact ⟨by first | (rw [HVS.out, HG.out]; done) | (rw [HVS.out, HG.out]; simp only [*]), rfl⟩
  have hemp : D.toList.isEmpty = false := by rw [empty_bytes]; simpa using hz
  by_cases h9 : D.size > 9
  · have HG : Hd (goodU true D.data.toList = false) := ⟨by
      unfold goodU
      rw [HLEN.out, decide_eq_false (by omega : ¬ D.size ≤ 9)]
      simp⟩
    have HVS : Hd (valS true D.data.toList = 0) := ⟨by unfold valS; rw [HG.out]; rfl⟩
    have hd9 : decide ((D.size : Int) > 9) = true := by simp; omega
    go_enter Tryz.func85, Tryz.ntmps85
    go_wp2
    refine bodyPost_ret (by first | (simp [results, Tryz.results85, go_sem]; done) | (simp [results, Tryz.results85, go_sem]; rfl)) rfl ?_
    exact ⟨by first | (rw [HVS.out, HG.out]; done) | (rw [HVS.out, HG.out]; simp only [*]), rfl⟩
  have hd9 : decide ((D.size : Int) > 9) = false := by simp; omega
  have hp : 0 < D.size := by omega
  have hbD := get_bt D 0 hp
  have HHD := Hd.mk (bt_head D hp)
  by_cases h48 : bt D 0 = 48
  · rw [h48] at hbD
    have HG : Hd (goodU true D.data.toList = false) := ⟨by
      unfold goodU
      rw [HHD.out, h48]
      simp⟩
    have HVS : Hd (valS true D.data.toList = 0) := ⟨by unfold valS; rw [HG.out]; rfl⟩
    go_enter Tryz.func85, Tryz.ntmps85
    go_wp2
    all_goals
      refine bodyPost_ret (by first | (simp [results, Tryz.results85, go_sem]; done) | (simp [results, Tryz.results85, go_sem]; rfl)) rfl ?_
      exact ⟨by first | (rw [HVS.out, HG.out]; done) | (rw [HVS.out, HG.out]; simp only [*]), rfl⟩
  have hx48 : (bt D 0 == 48) = false := by simpa using h48
  have HOK : Hd ((D.data.toList.head? != some 48 || (D.data.toList.length == 1 && !true)) = true) := ⟨by rw [HHD.out, hx48]; rfl⟩
  clear h48
  have hok : (D.data.toList.head? != some 48 || (D.data.toList.length == 1 && !true)) = true := HOK.out
  have HGA : Hd (goodU true D.data.toList = D.data.toList.all digU) := ⟨by
    unfold goodU
    rw [hok, HLEN.out, decide_eq_true (by omega : D.size ≤ 9)]
    have : D.data.toList.isEmpty = false := by
      cases hl : D.data.toList with
      | nil =>
        have := HLEN.out
        rw [hl] at this
        simp at this
        omega
      | cons a l => rfl
    rw [this]
    rfl⟩
  clear hok HOK HHD
  go_enter Tryz.func85, Tryz.ntmps85
  go_upto_region 8 with (fail)
  go_wp2
  clear hbD
  go_loopw [6, 7] (fun nv iv wr => ∃ k : Nat, k ≤ D.size ∧ iv = .int .i64 k ∧ nv = .int .i64 (valU (D.data.toList.take k)) ∧ Hd ((D.data.toList.take k).all digU = true) ∧ wr = w) (fun _ iv _ => D.size - (intOf iv).toNat)
  case atStart => exact ⟨0, Nat.zero_le _, rfl, rfl, ⟨rfl⟩, rfl⟩
  case round =>
    obtain ⟨k, hk, rfl, rfl, HK, rfl⟩ := hrel
    by_cases hlt : k < D.size
    · have hd1 : decide ((k : Int) < (D.size : Int)) = true := by simp; omega
      obtain ⟨c, hc, hbc⟩ := bt_dig D k hlt
      have hgk := (get_bt D k hlt).trans hbc
      have HC := Hd.mk hc
      clear hc hbc
      by_cases h1 : c.toNat < 48
      · have hd2 : decide (((c.toNat : Nat) : Int) < 48) = true := by simp; omega
        have HG : Hd (goodU true D.data.toList = false) := ⟨by
          rw [HGA.out, List.all_eq_false]
          refine ⟨c, List.mem_of_getElem? HC.out, ?_⟩
          unfold digU
          simp
          omega⟩
        have HVS : Hd (valS true D.data.toList = 0) := ⟨by unfold valS; rw [HG.out]; rfl⟩
        clear h1
        go_wp2
        refine bodyPost_ret (by first | (simp [results, Tryz.results85, go_sem]; done) | (simp [results, Tryz.results85, go_sem]; rfl)) rfl ?_
        exact ⟨by first | (rw [HVS.out, HG.out]; done) | (rw [HVS.out, HG.out]; simp only [*]), rfl⟩
      · have hd2 : decide (((c.toNat : Nat) : Int) < 48) = false := by simp; omega
        by_cases h2 : c.toNat > 57
        · have hd3 : decide (((c.toNat : Nat) : Int) > 57) = true := by simp; omega
          have HG : Hd (goodU true D.data.toList = false) := ⟨by
            rw [HGA.out, List.all_eq_false]
            refine ⟨c, List.mem_of_getElem? HC.out, ?_⟩
            unfold digU
            simp
            omega⟩
          have HVS : Hd (valS true D.data.toList = 0) := ⟨by unfold valS; rw [HG.out]; rfl⟩
          clear h1 h2
          go_wp2
          refine bodyPost_ret (by first | (simp [results, Tryz.results85, go_sem]; done) | (simp [results, Tryz.results85, go_sem]; rfl)) rfl ?_
          exact ⟨by first | (rw [HVS.out, HG.out]; done) | (rw [HVS.out, HG.out]; simp only [*]), rfl⟩
        · have hd3 : decide (((c.toNat : Nat) : Int) > 57) = false := by simp; omega
          have hdc : digU c = true := by unfold digU; simp; omega
          have htk : D.data.toList.take (k + 1) = D.data.toList.take k ++ [c] := by
            rw [List.take_add_one, HC.out]
            rfl
          have HK2 : Hd ((D.data.toList.take (k + 1)).all digU = true) := ⟨by
            rw [htk, List.all_append, HK.out]
            simpa using hdc⟩
          have hv := valU_snoc (D.data.toList.take k) c
          rw [← htk] at hv
          have hv9 := valU_lt _ HK.out
          have hv8 : (10 : Nat) ^ (D.data.toList.take k).length ≤ 10 ^ 9 := Nat.pow_le_pow_right (by decide) (by rw [List.length_take, HLEN.out]; omega)
          have hvb : valU (D.data.toList.take k) < 10 ^ 9 := Nat.lt_of_lt_of_le hv9 hv8
          have hw1 : wrap64 (10 * (valU (D.data.toList.take k) : Int)) = 10 * (valU (D.data.toList.take k) : Int) := by unfold wrap64; omega
          have hw3 : wrap64 (10 * (valU (D.data.toList.take k) : Int) + ((((c.toNat : Nat) : Int) - 48) % 256)) = (valU (D.data.toList.take (k + 1)) : Int) := by
            rw [hv]
            unfold wrap64
            omega
          have HW := Hd.mk (And.intro hw1 hw3)
          clear h1 h2 hdc htk hv hv9 hv8 hvb hw1 hw3
          go_wp2
          go_roundw
          case rel =>
            refine ⟨k + 1, by omega, by go_num, ?_, HK2, by first | rfl | trivial⟩
            simp only [HW.out.1, HW.out.2]
          case measure => simp [intOf]; omega
    · have hkk : k = D.size := by omega
      have hd1 : decide ((k : Int) < (D.size : Int)) = false := by simp; omega
      have hall : D.data.toList.take k = D.data.toList := List.take_of_length_le (by rw [HLEN.out]; omega)
      rw [hall] at HK ⊢
      have HG : Hd (goodU true D.data.toList = true) := ⟨by rw [HGA.out]; exact HK.out⟩
      have hv9 := valU_lt _ HK.out
      have hv8 : (10 : Nat) ^ (D.data.toList).length ≤ 10 ^ 9 := Nat.pow_le_pow_right (by decide) (by rw [HLEN.out]; omega)
      have hvb : valU (D.data.toList) < 10 ^ 9 := Nat.lt_of_lt_of_le hv9 hv8
      have HVS : Hd (valS true D.data.toList = -(valU D.data.toList : Int)) := ⟨by unfold valS; rw [HG.out]; rfl⟩
      have hwn : wrap64 (-(valU D.data.toList : Int)) = -(valU D.data.toList : Int) := by unfold wrap64; omega
      clear hkk hall hv9 hv8 hvb
      go_wp2
      refine bodyPost_ret (by first | (simp [results, Tryz.results85, go_sem]; done) | (simp [results, Tryz.results85, go_sem]; rfl)) rfl ?_
      exact ⟨by first | (rw [HVS.out, HG.out]; done) | (rw [HVS.out, HG.out]; simp only [*]), rfl⟩
end Go.Proofs.YtfchmikbebdflaaGreatDoor

namespace Go.Proofs.YtfchmikbebdflaaGreatDoor
open Go.RowKit Go.BigFrame

theorem itS_of {s : ByteArray} {n : Int} (h : s.data.toList = Lib.itoa n) : s = itS n := by
  apply ByteArray.ext
  apply Array.ext'
  rw [h]
  rfl
theorem itS_inj {m n : Int} (hm : -9223372036854775808 ≤ m ∧ m ≤ 9223372036854775807) (hn : -9223372036854775808 ≤ n ∧ n ≤ 9223372036854775807) (h : itS m = itS n) : m = n := by
  have h1 := parse_itoa m hm.1 hm.2
  have h2 := parse_itoa n hn.1 hn.2
  have h3 : Lib.itoa m = Lib.itoa n := by
    have := congrArg (fun b : ByteArray => b.data.toList) h
    simpa [itS_list] using this
  rw [h3, h2] at h1
  injection h1 with h4
  exact h4.symm
theorem goodU_parts {neg : Bool} {d : List UInt8} (h : goodU neg d = true) : d ≠ [] ∧ d.length ≤ 9 ∧ (d.head? ≠ some 48 ∨ d.length = 1 ∧ neg = false) ∧ d.all digU = true := by
  unfold goodU at h
  simp only [Bool.and_eq_true, Bool.or_eq_true, Bool.not_eq_true', decide_eq_true_eq, bne_iff_ne, beq_iff_eq, List.isEmpty_eq_false_iff] at h
  obtain ⟨h1, h2, h3, h4⟩ := h
  exact ⟨h1, h2, h3, h4⟩
theorem goodU_of {neg : Bool} {d : List UInt8} (h1 : d ≠ []) (h2 : d.length ≤ 9) (h3 : d.head? ≠ some 48 ∨ d.length = 1 ∧ neg = false) (h4 : d.all digU = true) : goodU neg d = true := by
  unfold goodU
  simp only [Bool.and_eq_true, Bool.or_eq_true, Bool.not_eq_true', decide_eq_true_eq, bne_iff_ne, beq_iff_eq, List.isEmpty_eq_false_iff]
  exact ⟨h1, h2, h3, h4⟩
theorem val_bound {d : List UInt8} (h : d.all digU = true) (hl : d.length ≤ 9) : valU d ≤ 999999999 := by
  have h1 := valU_lt d h
  have h2 : (10 : Nat) ^ d.length ≤ 10 ^ 9 := Nat.pow_le_pow_right (by decide) hl
  omega
theorem dec_pos_head {u : Nat} (h : 0 < u) : (Lib.decDigits u).head? ≠ some 48 := by
  rcases dec_head u with h1 | h1
  · exact h1
  · intro h2
    match hd : Lib.decDigits u, h1, h2 with
    | [c], _, h2 =>
      have h3 : c = 48 := by simpa using h2
      have h4 := valU_dec u
      rw [hd, h3] at h4
      have h5 : valU [48] = 0 := by decide
      omega
theorem first_not {u : Nat} {s : ByteArray} (h : s.data.toList = Lib.decDigits u) : 0 < s.size ∧ bt s 0 ≠ 45 := by
  have hne := dec_ne u
  have hb := dec_byte u
  have hl := size_list s
  unfold bt
  rw [h] at hl ⊢
  cases hd : Lib.decDigits u with
  | nil => exact absurd hd hne
  | cons c r =>
    rw [hd] at hl hb
    have := hb c (by simp)
    refine ⟨by rw [← hl]; simp, ?_⟩
    show ((c.toNat : Nat) : Int) ≠ 45
    omega
theorem drop_list (s : ByteArray) : (s.extract 1 s.size).data.toList = s.data.toList.drop 1 := by
  rw [ByteArray.data_extract]
  simp
  exact List.take_of_length_le (by simp)
/-- The reference number, of any text. -/
theorem rnumber_ex (s : ByteArray) (hsz : s.size ≤ 1100000) :
    ∃ (n : Int) (b : Bool), (b = true → s = itS n ∧ -999999999 ≤ n ∧ n ≤ 999999999) ∧ (∀ n' : Int, -67108864 ≤ n' ∧ n' ≤ 67108864 → s = itS n' → b = true) ∧
    ∀ w : World, Calls Tryz.prog 85 #[.string s] w fun e w' => e = .returned (.tuple #[.int .i64 n, .bool b]) ∧ w' = w := by
  by_cases h0 : s.size = 0
  · refine ⟨_, _, fun hb => ?_, fun n' _ hs => ?_, fun w => number_none s h0 hsz w⟩
    · have := (goodU_parts hb).1
      exact absurd (List.eq_nil_of_length_eq_zero (by rw [size_list]; exact h0)) this
    · exfalso
      have h1 : Lib.itoa n' = [] := by
        rw [← itS_list, ← hs]
        exact List.eq_nil_of_length_eq_zero (by rw [size_list]; exact h0)
      unfold Lib.itoa at h1
      split at h1
      · cases h1
      · exact dec_ne _ h1
  have h0' : 0 < s.size := by omega
  by_cases h45 : bt s 0 = 45
  · have hl : ∃ d, s.data.toList = 45 :: d := by
      have h1 := size_list s
      unfold bt at h45
      cases hd : s.data.toList with
      | nil => rw [hd] at h1; simp at h1; omega
      | cons c r =>
        rw [hd] at h45
        have h2 : ((c.toNat : Nat) : Int) = 45 := h45
        have h3 : c = 45 := by
          apply UInt8.toNat_inj.1
          have : (45 : UInt8).toNat = 45 := by decide
          omega
        exact ⟨r, by rw [h3]⟩
    obtain ⟨d, hd⟩ := hl
    have hD : (s.extract 1 s.size).data.toList = d := by rw [drop_list, hd]; rfl
    refine ⟨_, _, fun hb => ?_, fun n' hn hs => ?_, fun w => number_neg s _ h0' h45 rfl hsz w⟩
    · rw [hD] at hb ⊢
      obtain ⟨g1, g2, g3, g4⟩ := goodU_parts hb
      have g5 : d.head? ≠ some 48 := by
        rcases g3 with g | ⟨_, g⟩
        · exact g
        · cases g
      obtain ⟨e1, e2⟩ := dec_valU d g4 g1 (.inl g5)
      have e3 := e2 g5
      have e4 := val_bound g4 g2
      have e5 : valS true d = -(valU d : Int) := by unfold valS; rw [hb]; rfl
      rw [e5]
      refine ⟨itS_of ?_, by omega, by omega⟩
      rw [hd, Lib.itoa, if_pos (by omega), show (-(valU d : Int)).natAbs = valU d by omega, e1]
    · rw [hD]
      have h1 : (45 :: d : List UInt8) = Lib.itoa n' := by rw [← hd, hs]; rfl
      by_cases hneg : n' < 0
      · rw [Lib.itoa, if_pos hneg] at h1
        obtain rfl : d = Lib.decDigits n'.natAbs := (List.cons.inj h1).2
        exact goodU_of (dec_ne _) (dec_len (by decide) (by omega)) (.inl (dec_pos_head (by omega))) (dec_all _)
      · exfalso
        rw [Lib.itoa, if_neg hneg] at h1
        have := dec_byte n'.toNat 45 (by rw [← h1]; simp)
        have h2 : (45 : UInt8).toNat = 45 := by decide
        omega
  · refine ⟨_, _, fun hb => ?_, fun n' hn hs => ?_, fun w => number_plain s h0' h45 hsz w⟩
    · obtain ⟨g1, g2, g3, g4⟩ := goodU_parts hb
      have g6 : s.data.toList.head? ≠ some 48 ∨ s.data.toList.length = 1 := by
        rcases g3 with g | ⟨g, _⟩
        · exact .inl g
        · exact .inr g
      obtain ⟨e1, _⟩ := dec_valU _ g4 g1 g6
      have e4 := val_bound g4 g2
      have e5 : valS false s.data.toList = (valU s.data.toList : Int) := by unfold valS; rw [hb]; rfl
      rw [e5]
      refine ⟨itS_of ?_, by omega, by omega⟩
      rw [Lib.itoa, if_neg (by omega), Int.toNat_natCast, e1]
    · have h1 : s.data.toList = Lib.itoa n' := by rw [hs]; rfl
      by_cases hneg : n' < 0
      · exfalso
        rw [Lib.itoa, if_pos hneg] at h1
        apply h45
        unfold bt
        rw [h1]
        rfl
      · rw [Lib.itoa, if_neg hneg] at h1
        rw [h1]
        exact goodU_of (dec_ne _) (dec_len (by decide) (by omega)) (by
          rcases dec_head n'.toNat with h2 | h2
          · exact .inl h2
          · exact .inr ⟨h2, rfl⟩) (dec_all _)
end Go.Proofs.YtfchmikbebdflaaGreatDoor

namespace Go.Proofs.YtfchmikbebdflaaGreatDoor
open Go.RowKit Go.BigFrame
theorem cut_list (s : ByteArray) (k : Nat) (c : UInt8) (h : s.data.toList[k]? = some c) : s.data.toList = (s.extract 0 k).data.toList ++ c :: (s.extract (k + 1) s.size).data.toList := by
  obtain ⟨hk, hc⟩ := List.getElem?_eq_some_iff.1 h
  have h1 : (s.extract 0 k).data.toList = s.data.toList.take k := by
    rw [ByteArray.data_extract]
    simp
  have h2 : (s.extract (k + 1) s.size).data.toList = s.data.toList.drop (k + 1) := by
    rw [ByteArray.data_extract]
    simp
    exact List.take_of_length_le (by simp)
  rw [h1, h2, ← hc, List.getElem_cons_drop, List.take_append_drop]
theorem take_list (s : ByteArray) (k : Nat) : (s.extract 0 k).data.toList = s.data.toList.take k := by
  rw [ByteArray.data_extract]
  simp
theorem bytes_ext {s t : ByteArray} (h : s.data.toList = t.data.toList) : s = t := by
  apply ByteArray.ext
  apply Array.ext'
  exact h
theorem node_join {s L R : ByteArray} {x y : Int} (h : s.data.toList = L.data.toList ++ 32 :: R.data.toList) (hL : L = itS x) (hR : R = itS y) : s = nodeS x y := by
  apply bytes_ext
  rw [h, node_list, hL, hR, itS_list, itS_list]
theorem join_inj (c : UInt8) (l r l' r' : List UInt8) (h : l ++ c :: r = l' ++ c :: r') (h1 : c ∉ l) (h2 : c ∉ l') : l = l' ∧ r = r' := by
  have e1 := cut_at c l r h1
  have e2 := cut_at c l' r' h2
  rw [h, e2] at e1
  injection e1 with e3 e4
  injection e4 with e5 e6
  exact ⟨e3.symm, e5.symm⟩
theorem bt_not {s : ByteArray} {k : Nat} {c d : UInt8} (hc : s.data.toList[k]? = some c) (h : ((c.toNat : Nat) : Int) ≠ ((d.toNat : Nat) : Int)) (ht : d ∉ s.data.toList.take k) : d ∉ s.data.toList.take (k + 1) := by
  rw [List.take_add_one, hc]
  intro hm
  rw [List.mem_append] at hm
  rcases hm with hm | hm
  · exact ht hm
  · have : d = c := by simpa using hm
    exact h (by rw [this])
theorem ex_putw4 {T : Array Value} {ds : List Deferred} {G : (Nat → Value) → Act} {R : Prop} (h : R ∧ (Act.mk T ds = G (fun i => T.getD i undef))) : ∃ v : Nat → Value, R ∧ (Act.mk T ds = G v) := ⟨_, h⟩
theorem laid_pair (b : Nat) (W : World) (v0 v1 : Value) {c : Array Value} {t : TypeId} (h : W.heap[b]? = some (.cells c t (0, 0))) (hs : c.size = 2) :
    ((W.setCell ⟨b, 0, none⟩ v0).setCell ⟨b, 1, none⟩ v1).heap[b]? = some (.cells #[v0, v1] t (0, 0)) := by
  obtain ⟨l⟩ := c
  match l, hs with
  | [a, b], _ =>
    have := heap_set (heap_set h 0 v0) 1 v1
    simpa using this
set_option maxRecDepth 20000 in
set_option maxHeartbeats 4000000 in
/-- Without a blank. -/
theorem rnode_none (s : ByteArray) (hsz : s.size ≤ 1100000) (hno : (32 : UInt8) ∉ s.data.toList) (w : World) :
    Calls Tryz.prog 64 #[.string s] w fun e w' => e = .returned (.tuple #[.agg #[.int .i64 0, .int .i64 0], .bool false]) ∧ Below w.heap.size w w' := by
  have HN := Hd.mk hno
  clear hno
  go_enter Tryz.func64, Tryz.ntmps64
  go_upto_region 1 with (fail)
  refine abs_wp (fun W => W.heap[w.heap.size]? = some (.cells #[.int .i64 0, .int .i64 0] 24 (0, 0)) ∧ Below w.heap.size w W) ⟨heap_new _ _, by focus (repeat (first | (with_reducible exact Below.refl _ _) | (with_reducible assumption) | ((with_reducible refine Below.setCell ?_ ?_ _); rotate_left; (focus (first | omega | (simp; done) | (simp; omega)))) | ((with_reducible refine Below.alloc ?_ ?_ _); rotate_left; (focus (first | omega | (simp; done) | (simp; omega)))) | (with_reducible refine Below.drew ?_) | (refine below_on ?_ (by assumption))))⟩ fun W ⟨z0, hB⟩ => ?_
  go_wp2
  go_loopw [4] (fun iv wr => ∃ k : Nat, k ≤ s.size ∧ iv = .int .i64 k ∧ wr.heap[w.heap.size]? = some (.cells #[.int .i64 0, .int .i64 0] 24 (0, 0)) ∧ Below w.heap.size w wr) (fun iv _ => s.size - (intOf iv).toNat)
  case atStart => exact ⟨0, Nat.zero_le _, rfl, z0, hB⟩
  case round =>
    clear z0 hB
    obtain ⟨k, hk, rfl, z0, hB⟩ := hrel
    by_cases hlt : k < s.size
    · have hd1 : decide ((k : Int) < (s.size : Int)) = true := by simp; omega
      obtain ⟨c, hc, hbc⟩ := bt_dig s k hlt
      have hgk := (get_bt s k hlt).trans hbc
      have hc32 : (((c.toNat : Nat) : Int) == 32) = false := by
        rw [beq_eq_false_iff_ne]
        intro h
        apply HN.out
        have h2 : c = 32 := by
          apply UInt8.toNat_inj.1
          have : (32 : UInt8).toNat = 32 := by decide
          omega
        rw [← h2]
        exact List.mem_of_getElem? hc
      clear hc hbc
      go_wp2
      go_roundw
      case rel => exact ⟨k + 1, by omega, by go_num, z0, hB⟩
      case measure => simp [intOf]; omega
    · have hd1 : decide ((k : Int) < (s.size : Int)) = false := by simp; omega
      have c0 := cell_at z0
      have f0 := frozen_at z0
      go_wp2
      refine bodyPost_ret (by first | (simp [results, Tryz.results64, go_sem, c0]; done) | (simp [results, Tryz.results64, go_sem, c0]; rfl)) rfl ⟨rfl, by focus (repeat (first | (with_reducible exact Below.refl _ _) | (with_reducible assumption) | ((with_reducible refine Below.setCell ?_ ?_ _); rotate_left; (focus (first | omega | (simp; done) | (simp; omega)))) | ((with_reducible refine Below.alloc ?_ ?_ _); rotate_left; (focus (first | omega | (simp; done) | (simp; omega)))) | (with_reducible refine Below.drew ?_) | (refine below_on ?_ (by assumption))))⟩
set_option maxRecDepth 20000 in
set_option maxHeartbeats 8000000 in
/-- Cut at the first blank. -/
theorem rnode_cut (s : ByteArray) (hsz : s.size ≤ 1100000) (j : Nat) (hj : j < s.size) (hjc : s.data.toList[j]? = some 32) (hno : (32 : UInt8) ∉ s.data.toList.take j) (x y : Int) (a b q : Bool)
    (HX : Hd (∀ w : World, Calls Tryz.prog 85 #[.string (s.extract 0 j)] w fun e w' => e = .returned (.tuple #[.int .i64 x, .bool a]) ∧ w' = w)) (HY : Hd (∀ w : World, Calls Tryz.prog 85 #[.string (s.extract (j + 1) s.size)] w fun e w' => e = .returned (.tuple #[.int .i64 y, .bool b]) ∧ w' = w))
    (hq : nodeB x y = q) (w : World) :
    Calls Tryz.prog 64 #[.string s] w fun e w' => e = .returned (.tuple #[.agg #[.int .i64 x, .int .i64 y], .bool (a && (b && q))]) ∧ Below w.heap.size w w' := by
  have HN := Hd.mk (And.intro hno hjc)
  have HQ := Hd.mk (fun w => rnode_v x y q hq w)
  clear hno hjc hq
  go_enter Tryz.func64, Tryz.ntmps64
  go_upto_region 1 with (fail)
  refine abs_wp (fun W => W.heap[w.heap.size]? = some (.cells #[.int .i64 0, .int .i64 0] 24 (0, 0)) ∧ Below w.heap.size w W) ⟨heap_new _ _, by focus (repeat (first | (with_reducible exact Below.refl _ _) | (with_reducible assumption) | ((with_reducible refine Below.setCell ?_ ?_ _); rotate_left; (focus (first | omega | (simp; done) | (simp; omega)))) | ((with_reducible refine Below.alloc ?_ ?_ _); rotate_left; (focus (first | omega | (simp; done) | (simp; omega)))) | (with_reducible refine Below.drew ?_) | (refine below_on ?_ (by assumption))))⟩ fun W ⟨z0, hB⟩ => ?_
  go_wp2
  go_loopw [4] (fun iv wr => ∃ k : Nat, k ≤ j ∧ iv = .int .i64 k ∧ wr.heap[w.heap.size]? = some (.cells #[.int .i64 0, .int .i64 0] 24 (0, 0)) ∧ Below w.heap.size w wr) (fun iv _ => s.size - (intOf iv).toNat)
  case atStart => exact ⟨0, Nat.zero_le _, rfl, z0, hB⟩
  case round =>
    clear z0 hB
    obtain ⟨k, hk, rfl, z0, hB⟩ := hrel
    have hd1 : decide ((k : Int) < (s.size : Int)) = true := by simp; omega
    obtain ⟨c, hc, hbc⟩ := bt_dig s k (by omega)
    have hgk := (get_bt s k (by omega)).trans hbc
    by_cases hkj : k = j
    · subst hkj
      have hc2 : c = 32 := Option.some.inj (hc.symm.trans HN.out.2)
      have hc32 : (((c.toNat : Nat) : Int) == 32) = true := by rw [hc2]; rfl
      have hk0 : (0 : Int) ≤ (k : Int) := by omega
      have hk1 : (k : Int) ≤ (s.size : Int) := by omega
      have hk2 : (k : Int) + 1 ≤ (s.size : Int) := by omega
      clear hc hbc hc2
      go_wp2_with fail
      refine (HX.out _).mono ?_
      rintro r w1 ⟨rfl, rfl⟩
      go_wp2_with fail
      refine (HY.out _).mono ?_
      rintro r w2 ⟨rfl, rfl⟩
      go_upto_region 8 with (fail)
      have hsz0 := hB.size
      obtain ⟨b9, hb9⟩ : ∃ b, b = w2.heap.size := ⟨_, rfl⟩
      refine abs_wp (fun W => W.heap[w.heap.size]? = some (.cells #[.int .i64 0, .int .i64 0] 24 (0, 0)) ∧ W.heap[w2.heap.size]? = some (.cells #[.int .i64 x, .int .i64 y] 24 (0, 0)) ∧ Below w.heap.size w W) ⟨heap_old z0 _, heap_new _ _, by focus (repeat (first | (with_reducible exact Below.refl _ _) | (with_reducible assumption) | ((with_reducible refine Below.setCell ?_ ?_ _); rotate_left; (focus (first | omega | (simp; done) | (simp; omega)))) | ((with_reducible refine Below.alloc ?_ ?_ _); rotate_left; (focus (first | omega | (simp; done) | (simp; omega)))) | (with_reducible refine Below.drew ?_) | (refine below_on ?_ (by assumption))))⟩ fun W3 ⟨y0, y9, hB3⟩ => ?_
      have hne : b9 ≠ w.heap.size := by have := lt_of_block z0; omega
      rw [← hb9] at y9 ⊢
      clear z0 hB hsz0 hb9 hgk hc32 hd1
      have c9 := cell_at y9
      have c0 := cell_at y0
      have f0 := frozen_at y0
      have yD : W3.drew.heap[w.heap.size]? = some (.cells #[.int .i64 0, .int .i64 0] 24 (0, 0)) := y0
      have hBD : Below w.heap.size w W3.drew := Below.drew hB3
      cases a with
      | false =>
        go_region
        all_goals
          have k0 : (((W3.setCell ⟨w.heap.size, 0, none⟩ (.int .i64 x)).setCell ⟨w.heap.size, 1, none⟩ (.int .i64 y)).drew).heap[w.heap.size]? = some (.cells #[.int .i64 x, .int .i64 y] 24 (0, 0)) := laid_pair w.heap.size W3 (.int .i64 x) (.int .i64 y) y0 rfl
          have kB : Below w.heap.size w (((W3.setCell ⟨w.heap.size, 0, none⟩ (.int .i64 x)).setCell ⟨w.heap.size, 1, none⟩ (.int .i64 y)).drew) := by
            focus (repeat (first | (with_reducible exact Below.refl _ _) | (with_reducible assumption) | ((with_reducible refine Below.setCell ?_ ?_ _); rotate_left; (focus (first | omega | (simp; done) | (simp; omega)))) | ((with_reducible refine Below.alloc ?_ ?_ _); rotate_left; (focus (first | omega | (simp; done) | (simp; omega)))) | (with_reducible refine Below.drew ?_) | (refine below_on ?_ (by assumption))))
          clear c9 c0 f0 yD hBD y0 y9 hB3
          generalize ((W3.setCell ⟨w.heap.size, 0, none⟩ (.int .i64 x)).setCell ⟨w.heap.size, 1, none⟩ (.int .i64 y)).drew = W9 at *
          have c2 := cell_at k0
          go_wp2
          refine bodyPost_ret (by first | (simp [results, Tryz.results64, go_sem, c2]; done) | (simp [results, Tryz.results64, go_sem, c2]; rfl)) rfl ⟨by simp, kB⟩
      | true =>
        cases b with
        | false =>
          go_region
          all_goals
            have k0 : (((W3.setCell ⟨w.heap.size, 0, none⟩ (.int .i64 x)).setCell ⟨w.heap.size, 1, none⟩ (.int .i64 y)).drew).heap[w.heap.size]? = some (.cells #[.int .i64 x, .int .i64 y] 24 (0, 0)) := laid_pair w.heap.size W3 (.int .i64 x) (.int .i64 y) y0 rfl
            have kB : Below w.heap.size w (((W3.setCell ⟨w.heap.size, 0, none⟩ (.int .i64 x)).setCell ⟨w.heap.size, 1, none⟩ (.int .i64 y)).drew) := by
              focus (repeat (first | (with_reducible exact Below.refl _ _) | (with_reducible assumption) | ((with_reducible refine Below.setCell ?_ ?_ _); rotate_left; (focus (first | omega | (simp; done) | (simp; omega)))) | ((with_reducible refine Below.alloc ?_ ?_ _); rotate_left; (focus (first | omega | (simp; done) | (simp; omega)))) | (with_reducible refine Below.drew ?_) | (refine below_on ?_ (by assumption))))
            clear c9 c0 f0 yD hBD y0 y9 hB3
            generalize ((W3.setCell ⟨w.heap.size, 0, none⟩ (.int .i64 x)).setCell ⟨w.heap.size, 1, none⟩ (.int .i64 y)).drew = W9 at *
            have c2 := cell_at k0
            go_wp2
            refine bodyPost_ret (by first | (simp [results, Tryz.results64, go_sem, c2]; done) | (simp [results, Tryz.results64, go_sem, c2]; rfl)) rfl ⟨by simp, kB⟩
        | true =>
          have hD0 : Below W3.heap.size W3 W3.drew := Below.drew (Below.refl _ _)
          refine region_abs_w (fun a0 a' w' => ∃ v : Nat → Value, (w'.heap[w.heap.size]? = some (.cells #[.int .i64 x, .int .i64 y] 24 (0, 0)) ∧ Below w.heap.size w w') ∧ (a' = (Act.put (Act.put (Act.put (Act.put (Act.put (Act.put (Act.put (Act.put (Act.put (Act.put a0 (some 38) (v 38)) (some 39) (v 39)) (some 40) (v 40)) (some 41) (v 41)) (some 42) (v 42)) (some 43) (v 43)) (some 44) (v 44)) (some 45) (v 45)) (some 46) (v 46)) (some 3) (.bool q)))) (fun KR hKR => wp_region_noPanic ?_) ?_
          · go_region_with ((go_at_call 66; refine (HQ.out _).mono ?_; rintro r w5 ⟨rfl, hb⟩; have hD := below_on hD0 hb; have x0 := heap_below hD y0; have d9 := cell_at (heap_below hD y9); have d0 := cell_at x0; have e0 := frozen_at x0; have hB5 := below_on hB3 hD; clear hb hD))
            all_goals
              have kB : Below w.heap.size w ((w5.setCell ⟨w.heap.size, 0, none⟩ (.int .i64 x)).setCell ⟨w.heap.size, 1, none⟩ (.int .i64 y)) := by
                focus (repeat (first | (with_reducible exact Below.refl _ _) | (with_reducible assumption) | ((with_reducible refine Below.setCell ?_ ?_ _); rotate_left; (focus (first | omega | (simp; done) | (simp; omega)))) | ((with_reducible refine Below.alloc ?_ ?_ _); rotate_left; (focus (first | omega | (simp; done) | (simp; omega)))) | (with_reducible refine Below.drew ?_) | (refine below_on ?_ (by assumption))))
              exact NoPanic.normal ⟨rfl, hKR _ _ (ex_putw4 ⟨by with_reducible exact ⟨laid_pair w.heap.size w5 (.int .i64 x) (.int .i64 y) x0 rfl, kB⟩, by kernel_rfl⟩)⟩
          rintro a' W9 ⟨v, ⟨k0, kB⟩, rfl⟩
          simp only [Act.put, List.setIfInBounds_toArray, List.set_cons_succ, List.set_cons_zero]
          clear c9 c0 f0 yD hBD y0 y9 hB3
          have c2 := cell_at k0
          go_wp2
          refine bodyPost_ret (by first | (simp [results, Tryz.results64, go_sem, c2]; done) | (simp [results, Tryz.results64, go_sem, c2]; rfl)) rfl ⟨by simp, kB⟩
    · have hc32 : (((c.toNat : Nat) : Int) == 32) = false := by
        rw [beq_eq_false_iff_ne]
        intro h
        apply HN.out.1
        have h2 : c = 32 := by
          apply UInt8.toNat_inj.1
          have : (32 : UInt8).toNat = 32 := by decide
          omega
        rw [← h2]
        refine List.mem_of_getElem? (i := k) ?_
        rw [List.getElem?_take_of_lt (by omega)]
        exact hc
      clear hc hbc
      go_wp2
      go_roundw
      case rel => exact ⟨k + 1, by omega, by go_num, z0, hB⟩
      case measure => simp [intOf]; omega
end Go.Proofs.YtfchmikbebdflaaGreatDoor

namespace Go.Proofs.YtfchmikbebdflaaGreatDoor
open Go.RowKit Go.BigFrame
theorem mem_first {l : List UInt8} {c : UInt8} (h : c ∈ l) : ∃ j, l[j]? = some c ∧ c ∉ l.take j := by
  induction l with
  | nil => cases h
  | cons a l ih =>
    by_cases ha : a = c
    · exact ⟨0, by rw [ha]; rfl, by simp⟩
    · have hm : c ∈ l := by
        rcases List.mem_cons.1 h with h1 | h1
        · exact absurd h1.symm ha
        · exact h1
      obtain ⟨j, h1, h2⟩ := ih hm
      refine ⟨j + 1, h1, ?_⟩
      rw [List.take_succ_cons]
      intro h3
      rcases List.mem_cons.1 h3 with h4 | h4
      · exact ha h4.symm
      · exact h2 h4
theorem blank_in (x y : Int) : (32 : UInt8) ∈ (nodeS x y).data.toList := by
  rw [node_list]
  simp
/-- The reference Node, of any text. -/
theorem rnode_ex (s : ByteArray) (hsz : s.size ≤ 1100000) :
    ∃ (x y : Int) (b : Bool), (b = true → s = nodeS x y ∧ nodeB x y = true) ∧ (∀ x' y' : Int, nodeB x' y' = true → s = nodeS x' y' → b = true) ∧
    ∀ w : World, Calls Tryz.prog 64 #[.string s] w fun e w' => e = .returned (.tuple #[.agg #[.int .i64 x, .int .i64 y], .bool b]) ∧ Below w.heap.size w w' := by
  by_cases hm : (32 : UInt8) ∈ s.data.toList
  · obtain ⟨j, hj, hno⟩ := mem_first hm
    have hjs : j < s.size := by
      have := (List.getElem?_eq_some_iff.1 hj).1
      rw [size_list] at this
      exact this
    have hsp := cut_list s j 32 hj
    have hL : (32 : UInt8) ∉ (s.extract 0 j).data.toList := by rw [take_list]; exact hno
    obtain ⟨x, a, ha, ca, HX⟩ := rnumber_ex (s.extract 0 j) (by rw [ByteArray.size_extract]; omega)
    obtain ⟨y, b, hb, cb, HY⟩ := rnumber_ex (s.extract (j + 1) s.size) (by rw [ByteArray.size_extract]; omega)
    refine ⟨x, y, a && (b && nodeB x y), fun h => ?_, fun x' y' h1 h2 => ?_, fun w => rnode_cut s hsz j hjs hj hno x y a b (nodeB x y) ⟨HX⟩ ⟨HY⟩ rfl w⟩
    · simp only [Bool.and_eq_true] at h
      exact ⟨node_join hsp (ha h.1).1 (hb h.2.1).1, h.2.2⟩
    · obtain ⟨r1, r2⟩ := node_range h1
      have hl : s.data.toList = Lib.itoa x' ++ 32 :: Lib.itoa y' := by rw [h2, node_list]
      have hsp2 := hl.symm.trans hsp
      obtain ⟨e1, e2⟩ := join_inj 32 _ _ _ _ hsp2 (itoa_no x' 32 (by decide)) hL
      have f1 : s.extract 0 j = itS x' := itS_of e1.symm
      have f2 : s.extract (j + 1) s.size = itS y' := itS_of e2.symm
      have ta := ca x' r1 f1
      have tb := cb y' r2 f2
      obtain ⟨g1, g2, g3⟩ := ha ta
      obtain ⟨g4, g5, g6⟩ := hb tb
      have i1 : x = x' := itS_inj (by omega) (by omega) (g1.symm.trans f1)
      have i2 : y = y' := itS_inj (by omega) (by omega) (g4.symm.trans f2)
      rw [ta, tb, i1, i2, h1]
      rfl
  · exact ⟨0, 0, false, fun h => (by cases h), fun x' y' _ h2 => absurd (h2 ▸ blank_in x' y') hm, fun w => rnode_none s hsz hm w⟩
end Go.Proofs.YtfchmikbebdflaaGreatDoor

namespace Go.Proofs.YtfchmikbebdflaaGreatDoor
open Go.RowKit Go.BigFrame
set_option maxRecDepth 20000 in
set_option maxHeartbeats 4000000 in
/-- Without a comma. -/
theorem rparse_none (s : ByteArray) (hsz : s.size ≤ 1100000) (hno : (44 : UInt8) ∉ s.data.toList) (w : World) :
    Calls Tryz.prog 39 #[.string s] w fun e w' => e = .returned (.tuple #[.agg #[.int .i64 0, .int .i64 0, .int .i64 0, .int .i64 0], .int .i64 140]) ∧ Below w.heap.size w w' := by
  have HN := Hd.mk hno
  clear hno
  go_enter Tryz.func39, Tryz.ntmps39
  go_upto_region 1 with (fail)
  refine abs_wp (fun W => W.heap[w.heap.size]? = some (.cells #[.int .i64 0, .int .i64 0, .int .i64 0, .int .i64 0] 26 (0, 0)) ∧ Below w.heap.size w W) ⟨heap_new _ _, by focus (repeat (first | (with_reducible exact Below.refl _ _) | (with_reducible assumption) | ((with_reducible refine Below.setCell ?_ ?_ _); rotate_left; (focus (first | omega | (simp; done) | (simp; omega)))) | ((with_reducible refine Below.alloc ?_ ?_ _); rotate_left; (focus (first | omega | (simp; done) | (simp; omega)))) | (with_reducible refine Below.drew ?_) | (refine below_on ?_ (by assumption))))⟩ fun W ⟨z0, hB⟩ => ?_
  go_wp2
  go_loopw [4] (fun iv wr => ∃ k : Nat, k ≤ s.size ∧ iv = .int .i64 k ∧ wr.heap[w.heap.size]? = some (.cells #[.int .i64 0, .int .i64 0, .int .i64 0, .int .i64 0] 26 (0, 0)) ∧ Below w.heap.size w wr) (fun iv _ => s.size - (intOf iv).toNat)
  case atStart => exact ⟨0, Nat.zero_le _, rfl, z0, hB⟩
  case round =>
    clear z0 hB
    obtain ⟨k, hk, rfl, z0, hB⟩ := hrel
    by_cases hlt : k < s.size
    · have hd1 : decide ((k : Int) < (s.size : Int)) = true := by simp; omega
      obtain ⟨c, hc, hbc⟩ := bt_dig s k hlt
      have hgk := (get_bt s k hlt).trans hbc
      have hc44 : (((c.toNat : Nat) : Int) == 44) = false := by
        rw [beq_eq_false_iff_ne]
        intro h
        apply HN.out
        have h2 : c = 44 := by
          apply UInt8.toNat_inj.1
          have : (44 : UInt8).toNat = 44 := by decide
          omega
        rw [← h2]
        exact List.mem_of_getElem? hc
      clear hc hbc
      go_wp2
      go_roundw
      case rel => exact ⟨k + 1, by omega, by go_num, z0, hB⟩
      case measure => simp [intOf]; omega
    · have hd1 : decide ((k : Int) < (s.size : Int)) = false := by simp; omega
      have c0 := cell_at z0
      have f0 := frozen_at z0
      obtain ⟨l1, l2, l3⟩ := laid_four w.heap.size wr (.int .i64 0) (.int .i64 0) (.int .i64 0) (.int .i64 0)
      have c2 := cell_at (l1 z0 rfl)
      have kB := Below.trans hB (l3 w.heap.size (Nat.le_refl _))
      go_wp2
      refine bodyPost_ret (by first | (simp [results, Tryz.results39, go_sem, c2]; done) | (simp [results, Tryz.results39, go_sem, c2]; rfl)) rfl ⟨rfl, kB⟩
set_option maxRecDepth 20000 in
set_option maxHeartbeats 8000000 in
/-- Cut at the first comma. -/
theorem rparse_cut (s : ByteArray) (j : Nat) (hj : j < s.size) (hsz : s.size ≤ 1100000) (hjc : s.data.toList[j]? = some 44) (hno : (44 : UInt8) ∉ s.data.toList.take j) (ax ay bx by_ : Int) (a b q : Bool)
    (HX : Hd (∀ w : World, Calls Tryz.prog 64 #[.string (s.extract 0 j)] w fun e w' => e = .returned (.tuple #[.agg #[.int .i64 ax, .int .i64 ay], .bool a]) ∧ Below w.heap.size w w')) (HY : Hd (∀ w : World, Calls Tryz.prog 64 #[.string (s.extract (j + 1) s.size)] w fun e w' => e = .returned (.tuple #[.agg #[.int .i64 bx, .int .i64 by_], .bool b]) ∧ Below w.heap.size w w'))
    (hq : segB ax ay bx by_ = q) (w : World) :
    Calls Tryz.prog 39 #[.string s] w fun e w' => (e = .returned (if a && (b && q) then .tuple #[.agg #[.int .i64 ax, .int .i64 ay, .int .i64 bx, .int .i64 by_], .int .i64 0] else .tuple #[.agg #[.int .i64 0, .int .i64 0, .int .i64 0, .int .i64 0], .int .i64 140])) ∧ Below w.heap.size w w' := by
  have HN := Hd.mk (And.intro hno hjc)
  have HQ : Hd (∀ w, Calls Tryz.prog 65 #[.agg #[.int .i64 ax, .int .i64 ay, .int .i64 bx, .int .i64 by_]] w fun e w' => e = .returned (.bool q) ∧ Below w.heap.size w w') := ⟨fun w => by
    have h := rseg_right ax ay bx by_ w
    rw [hq] at h
    exact h⟩
  clear hno hjc hq
  go_enter Tryz.func39, Tryz.ntmps39
  go_upto_region 1 with (fail)
  refine abs_wp (fun W => W.heap[w.heap.size]? = some (.cells #[.int .i64 0, .int .i64 0, .int .i64 0, .int .i64 0] 26 (0, 0)) ∧ Below w.heap.size w W) ⟨heap_new _ _, by focus (repeat (first | (with_reducible exact Below.refl _ _) | (with_reducible assumption) | ((with_reducible refine Below.setCell ?_ ?_ _); rotate_left; (focus (first | omega | (simp; done) | (simp; omega)))) | ((with_reducible refine Below.alloc ?_ ?_ _); rotate_left; (focus (first | omega | (simp; done) | (simp; omega)))) | (with_reducible refine Below.drew ?_) | (refine below_on ?_ (by assumption))))⟩ fun W ⟨z0, hB⟩ => ?_
  go_wp2
  go_loopw [4] (fun iv wr => ∃ k : Nat, k ≤ j ∧ iv = .int .i64 k ∧ wr.heap[w.heap.size]? = some (.cells #[.int .i64 0, .int .i64 0, .int .i64 0, .int .i64 0] 26 (0, 0)) ∧ Below w.heap.size w wr) (fun iv _ => s.size - (intOf iv).toNat)
  case atStart => exact ⟨0, Nat.zero_le _, rfl, z0, hB⟩
  case round =>
    clear z0 hB
    obtain ⟨k, hk, rfl, z0, hB⟩ := hrel
    have hd1 : decide ((k : Int) < (s.size : Int)) = true := by simp; omega
    obtain ⟨c, hc, hbc⟩ := bt_dig s k (by omega)
    have hgk := (get_bt s k (by omega)).trans hbc
    by_cases hkj : k = j
    · subst hkj
      have hc2 : c = 44 := Option.some.inj (hc.symm.trans HN.out.2)
      have hc44 : (((c.toNat : Nat) : Int) == 44) = true := by rw [hc2]; rfl
      have hk0 : (0 : Int) ≤ (k : Int) := by omega
      have hk1 : (k : Int) ≤ (s.size : Int) := by omega
      have hk2 : (k : Int) + 1 ≤ (s.size : Int) := by omega
      clear hc hbc hc2
      go_wp2_with fail
      refine (HX.out _).mono ?_
      rintro r w1 ⟨rfl, hb⟩
      have z1 := heap_below hb z0
      have hB1 := below_on hB hb
      clear hb z0 hB hgk hc44 hd1
      go_upto_region 6 with (fail)
      have hs1 := hB1.size
      obtain ⟨b5, hb5⟩ : ∃ b, b = w1.heap.size := ⟨_, rfl⟩
      refine abs_wp (fun W => W.heap[w.heap.size]? = some (.cells #[.int .i64 0, .int .i64 0, .int .i64 0, .int .i64 0] 26 (0, 0)) ∧ W.heap[w1.heap.size]? = some (.cells #[.int .i64 ax, .int .i64 ay] 24 (0, 0)) ∧ Below w.heap.size w W) ⟨heap_old z1 _, heap_new _ _, by focus (repeat (first | (with_reducible exact Below.refl _ _) | (with_reducible assumption) | ((with_reducible refine Below.setCell ?_ ?_ _); rotate_left; (focus (first | omega | (simp; done) | (simp; omega)))) | ((with_reducible refine Below.alloc ?_ ?_ _); rotate_left; (focus (first | omega | (simp; done) | (simp; omega)))) | (with_reducible refine Below.drew ?_) | (refine below_on ?_ (by assumption))))⟩ fun W2 ⟨y0, y5, hB2⟩ => ?_
      rw [← hb5] at y5 ⊢
      clear z1 hB1 hs1 hb5
      go_wp2_with fail
      refine (HY.out _).mono ?_
      rintro r w3 ⟨rfl, hb⟩
      have z0 := heap_below hb y0
      have z5 := heap_below hb y5
      have hB3 := below_on hB2 hb
      clear hb y0 y5 hB2
      go_upto_region 7 with (fail)
      have hs3 := hB3.size
      obtain ⟨b7, hb7⟩ : ∃ b, b = w3.heap.size := ⟨_, rfl⟩
      refine abs_wp (fun W => W.heap[w.heap.size]? = some (.cells #[.int .i64 0, .int .i64 0, .int .i64 0, .int .i64 0] 26 (0, 0)) ∧ W.heap[b5]? = some (.cells #[.int .i64 ax, .int .i64 ay] 24 (0, 0)) ∧ W.heap[w3.heap.size]? = some (.cells #[.int .i64 bx, .int .i64 by_] 24 (0, 0)) ∧ Below w.heap.size w W) ⟨heap_old z0 _, heap_old z5 _, heap_new _ _, by focus (repeat (first | (with_reducible exact Below.refl _ _) | (with_reducible assumption) | ((with_reducible refine Below.setCell ?_ ?_ _); rotate_left; (focus (first | omega | (simp; done) | (simp; omega)))) | ((with_reducible refine Below.alloc ?_ ?_ _); rotate_left; (focus (first | omega | (simp; done) | (simp; omega)))) | (with_reducible refine Below.drew ?_) | (refine below_on ?_ (by assumption))))⟩ fun W4 ⟨y0, y5, y7, hB4⟩ => ?_
      rw [← hb7] at y7 ⊢
      clear z0 z5 hB3 hs3 hb7
      have c5 := cell_at y5
      have c7 := cell_at y7
      go_upto_region 8 with (fail)
      have hs4 := hB4.size
      obtain ⟨b9, hb9⟩ : ∃ b, b = W4.heap.size := ⟨_, rfl⟩
      refine abs_wp (fun W => W.heap[w.heap.size]? = some (.cells #[.int .i64 0, .int .i64 0, .int .i64 0, .int .i64 0] 26 (0, 0)) ∧ W.heap[W4.heap.size]? = some (.cells #[.int .i64 ax, .int .i64 ay, .int .i64 bx, .int .i64 by_] 26 (0, 0)) ∧ Below w.heap.size w W) ⟨heap_old y0 _, heap_new _ _, by focus (repeat (first | (with_reducible exact Below.refl _ _) | (with_reducible assumption) | ((with_reducible refine Below.setCell ?_ ?_ _); rotate_left; (focus (first | omega | (simp; done) | (simp; omega)))) | ((with_reducible refine Below.alloc ?_ ?_ _); rotate_left; (focus (first | omega | (simp; done) | (simp; omega)))) | (with_reducible refine Below.drew ?_) | (refine below_on ?_ (by assumption))))⟩ fun W5 ⟨x0, x9, hB5⟩ => ?_
      rw [← hb9] at x9 ⊢
      clear y0 y5 y7 hB4 hs4 hb9 c5 c7
      cases a with
      | false =>
        have c0 := cell_at x0
        have f0 := frozen_at x0
        obtain ⟨l1, l2, l3⟩ := laid_four w.heap.size W5 (.int .i64 0) (.int .i64 0) (.int .i64 0) (.int .i64 0)
        have c2 := cell_at (l1 x0 rfl)
        have kB := Below.trans hB5 (l3 w.heap.size (Nat.le_refl _))
        go_wp2
        refine bodyPost_ret (by first | (simp [results, Tryz.results39, go_sem, c2]; done) | (simp [results, Tryz.results39, go_sem, c2]; rfl)) rfl ⟨rfl, kB⟩
      | true =>
        cases b with
        | false =>
          have c0 := cell_at x0
          have f0 := frozen_at x0
          obtain ⟨l1, l2, l3⟩ := laid_four w.heap.size W5 (.int .i64 0) (.int .i64 0) (.int .i64 0) (.int .i64 0)
          have c2 := cell_at (l1 x0 rfl)
          have kB := Below.trans hB5 (l3 w.heap.size (Nat.le_refl _))
          go_wp2
          refine bodyPost_ret (by first | (simp [results, Tryz.results39, go_sem, c2]; done) | (simp [results, Tryz.results39, go_sem, c2]; rfl)) rfl ⟨rfl, kB⟩
        | true =>
          have c9 := cell_at x9
          go_wp2_with fail
          refine (HQ.out _).mono ?_
          rintro r w6 ⟨rfl, hb⟩
          have u0 := heap_below hb x0
          have u9 := heap_below hb x9
          have hB6 := below_on hB5 hb
          clear hb x0 x9 hB5 c9
          cases q with
          | false =>
            have c0 := cell_at u0
            have f0 := frozen_at u0
            obtain ⟨l1, l2, l3⟩ := laid_four w.heap.size w6 (.int .i64 0) (.int .i64 0) (.int .i64 0) (.int .i64 0)
            have c2 := cell_at (l1 u0 rfl)
            have kB := Below.trans hB6 (l3 w.heap.size (Nat.le_refl _))
            go_wp2
            refine bodyPost_ret (by first | (simp [results, Tryz.results39, go_sem, c2]; done) | (simp [results, Tryz.results39, go_sem, c2]; rfl)) rfl ⟨rfl, kB⟩
          | true =>
            have c9 := cell_at u9
            have c0 := cell_at u0
            have f0 := frozen_at u0
            obtain ⟨l1, l2, l3⟩ := laid_four w.heap.size w6 (.int .i64 ax) (.int .i64 ay) (.int .i64 bx) (.int .i64 by_)
            have c2 := cell_at (l1 u0 rfl)
            have kB := Below.trans hB6 (l3 w.heap.size (Nat.le_refl _))
            go_wp2
            refine bodyPost_ret (by first | (simp [results, Tryz.results39, go_sem, c2]; done) | (simp [results, Tryz.results39, go_sem, c2]; rfl)) rfl ⟨rfl, kB⟩
    · have hc44 : (((c.toNat : Nat) : Int) == 44) = false := by
        rw [beq_eq_false_iff_ne]
        intro h
        apply HN.out.1
        have h2 : c = 44 := by
          apply UInt8.toNat_inj.1
          have : (44 : UInt8).toNat = 44 := by decide
          omega
        rw [← h2]
        refine List.mem_of_getElem? (i := k) ?_
        rw [List.getElem?_take_of_lt (by omega)]
        exact hc
      clear hc hbc
      go_wp2
      go_roundw
      case rel => exact ⟨k + 1, by omega, by go_num, z0, hB⟩
      case measure => simp [intOf]; omega
theorem node_inj {x y x' y' : Int} (h1 : nodeB x y = true) (h2 : nodeB x' y' = true) (h : nodeS x y = nodeS x' y') : x = x' ∧ y = y' := by
  obtain ⟨r1, r2⟩ := node_range h1
  obtain ⟨r3, r4⟩ := node_range h2
  have hl : Lib.itoa x ++ 32 :: Lib.itoa y = Lib.itoa x' ++ 32 :: Lib.itoa y' := by rw [← node_list, ← node_list, h]
  obtain ⟨e1, e2⟩ := join_inj 32 _ _ _ _ hl (itoa_no x 32 (by decide)) (itoa_no x' 32 (by decide))
  exact ⟨itS_inj (by omega) (by omega) (bytes_ext e1), itS_inj (by omega) (by omega) (bytes_ext e2)⟩
theorem comma_no (x y : Int) : (44 : UInt8) ∉ (nodeS x y).data.toList := by
  rw [node_list]
  intro h
  rw [List.mem_append, List.mem_cons] at h
  rcases h with h | h | h
  · exact itoa_no x 44 (by decide) h
  · exact absurd h (by decide)
  · exact itoa_no y 44 (by decide) h
/-- The reference Parse, of any text. -/
theorem rparse_ex (s : ByteArray) (hsz : s.size ≤ 1100000) :
    ∃ c0 c1 c2 c3 e : Int, (e = 0 ∧ segB c0 c1 c2 c3 = true ∧ s = segS c0 c1 c2 c3 ∨ e = 140 ∧ c0 = 0 ∧ c1 = 0 ∧ c2 = 0 ∧ c3 = 0 ∧ ∀ a b c d : Int, segB a b c d = true → s ≠ segS a b c d) ∧
    ∀ w : World, Calls Tryz.prog 39 #[.string s] w fun x w' => x = .returned (.tuple #[.agg #[.int .i64 c0, .int .i64 c1, .int .i64 c2, .int .i64 c3], .int .i64 e]) ∧ Below w.heap.size w w' := by
  by_cases hm : (44 : UInt8) ∈ s.data.toList
  · obtain ⟨j, hj, hno⟩ := mem_first hm
    have hjs : j < s.size := by
      have := (List.getElem?_eq_some_iff.1 hj).1
      rw [size_list] at this
      exact this
    have hsp := cut_list s j 44 hj
    have hL : (44 : UInt8) ∉ (s.extract 0 j).data.toList := by rw [take_list]; exact hno
    obtain ⟨ax, ay, a, ha, ca, HX⟩ := rnode_ex (s.extract 0 j) (by rw [ByteArray.size_extract]; omega)
    obtain ⟨bx, by_, b, hb, cb, HY⟩ := rnode_ex (s.extract (j + 1) s.size) (by rw [ByteArray.size_extract]; omega)
    have hw := rparse_cut s j hjs hsz hj hno ax ay bx by_ a b (segB ax ay bx by_) ⟨HX⟩ ⟨HY⟩ rfl
    cases hab : (a && (b && segB ax ay bx by_)) with
    | true =>
      rw [hab] at hw
      simp only [Bool.and_eq_true] at hab
      refine ⟨ax, ay, bx, by_, 0, .inl ⟨rfl, hab.2.2, ?_⟩, hw⟩
      apply bytes_ext
      rw [hsp, seg_list, ← (ha hab.1).1, ← (hb hab.2.1).1]
    | false =>
      rw [hab] at hw
      refine ⟨0, 0, 0, 0, 140, .inr ⟨rfl, rfl, rfl, rfl, rfl, fun p q r t hg hs => ?_⟩, hw⟩
      have hg2 := hg
      unfold segB at hg2
      simp only [Bool.and_eq_true] at hg2
      have hl : s.data.toList = (nodeS p q).data.toList ++ 44 :: (nodeS r t).data.toList := by rw [hs, seg_list]
      obtain ⟨e1, e2⟩ := join_inj 44 _ _ _ _ (hl.symm.trans hsp) (comma_no p q) hL
      have f1 : s.extract 0 j = nodeS p q := (bytes_ext e1).symm
      have f2 : s.extract (j + 1) s.size = nodeS r t := (bytes_ext e2).symm
      have ta := ca p q hg2.1 f1
      have tb := cb r t hg2.2.1 f2
      have k1 := node_inj (ha ta).2 hg2.1 ((ha ta).1.symm.trans f1)
      have k2 := node_inj (hb tb).2 hg2.2.1 ((hb tb).1.symm.trans f2)
      rw [ta, tb, k1.1, k1.2, k2.1, k2.2, hg] at hab
      cases hab
  · refine ⟨0, 0, 0, 0, 140, .inr ⟨rfl, rfl, rfl, rfl, rfl, fun p q r t _ hs => ?_⟩, fun w => rparse_none s hsz hm w⟩
    apply hm
    rw [hs, seg_list]
    simp
end Go.Proofs.YtfchmikbebdflaaGreatDoor

namespace Go.Proofs.YtfchmikbebdflaaGreatDoor
open Go.RowKit Go.BigFrame
theorem parse_range {l : List UInt8} {n : Int} (h : Lib.parseIntB 64 l = .ok n) : -9223372036854775808 ≤ n ∧ n ≤ 9223372036854775807 := by
  unfold Lib.parseIntB at h
  cases l with
  | nil => cases h
  | cons c r =>
    dsimp only at h
    split at h
    · cases h
    · cases h
    · rename_i u _
      split at h
      · cases h
      · split at h
        · cases h
        · injection h with h
          rename_i h1 h2
          have e1 : (2 : Nat) ^ (64 - 1) = 9223372036854775808 := by decide
          rw [e1] at h1 h2
          by_cases hc : c.toNat = 45
          · rw [if_pos hc] at h
            have : ¬ 9223372036854775808 < u := fun hh => h2 ⟨hc, hh⟩
            omega
          · rw [if_neg hc] at h
            have : ¬ 9223372036854775808 ≤ u := fun hh => h1 ⟨hc, hh⟩
            omega
/-- Where ParseInt tells an error. -/
theorem parse_err (s : ByteArray) (hsz : s.size ≤ 1100000) (h : ∀ n, Lib.parseIntB 64 s.data.toList ≠ .ok n) (w : World) (hV : Vars w) :
    Calls Tryz.prog 105 #[.string s, .int .i64 10, .int .i64 64] w fun e w' => ∃ v t p, e = .returned (.tuple #[.int .i64 v, .iface t p]) ∧ Below w.heap.size w w' := by
  cases hp : Lib.parseIntB 64 s.data.toList with
  | ok n => exact absurd hp (h n)
  | range =>
    obtain ⟨_, _, _, _, ⟨t, p, h5⟩⟩ := hV
    refine (sh_strconv_ParseInt_10_at64_range s (by omega) hp (.iface t p) w (h5.cell 0) (.inr ⟨t, p, rfl⟩)).mono fun e w' hh => ?_
    obtain ⟨N, he, _, _, hb⟩ := hh
    exact ⟨_, _, _, he, hb⟩
  | _ =>
    obtain ⟨_, _, _, ⟨t, p, h4⟩, _⟩ := hV
    refine (Any.strconv_ParseInt_10_at64_syntax sh_laysC174 s (by omega) hp (.iface t p) w (h4.cell 0) (.inr ⟨t, p, rfl⟩)).mono fun e w' hh => ?_
    obtain ⟨N, he, _, _, hb⟩ := hh
    exact ⟨_, _, _, he, hb⟩
set_option maxRecDepth 20000 in
set_option maxHeartbeats 4000000 in
/-- No number. -/
theorem number_no (s : ByteArray) (hsz : s.size ≤ 1100000) (hno : ∀ n : Int, -9223372036854775808 ≤ n ∧ n ≤ 9223372036854775807 → s ≠ itS n) (w : World) (hV : Vars w) :
    Calls Tryz.prog 101 #[.string s] w fun e w' => e = .panicked [{ v := .iface 31 (.int .i64 140), recovered := false }] ∧ Below w.heap.size w w' := by
  have HV := Hd.mk hV
  by_cases hp : ∃ n, Lib.parseIntB 64 s.data.toList = .ok n
  · obtain ⟨n, hp⟩ := hp
    have hr := parse_range hp
    have hne : ((itS n).toList == s.toList) = false := by
      rw [beq_eq_false_iff_ne, ByteArray.toList_eq, ByteArray.toList_eq]
      exact fun h => hno n hr (bytes_ext h).symm
    have HP : Hd (∀ w, Calls Tryz.prog 105 #[.string s, .int .i64 10, .int .i64 64] w fun e w' => e = .returned (.tuple #[.int .i64 n, .nilIface]) ∧ Below w.heap.size w w') := ⟨fun w => (sh_strconv_ParseInt_10_at64_ok s (by omega) n hp w).mono fun e w' ⟨h, k⟩ => ⟨h, by
      rcases k with rfl | ⟨t, rfl⟩
      · exact Below.refl _ _
      · exact below_bw w t⟩⟩
    have HF := Hd.mk (fun w hv => fmt_itS n hr.1 hr.2 w hv)
    generalize itS n = t at *
    clear hp hr hno hV
    go_enter Tryz.func101, Tryz.ntmps101
    go_wp2_with fail
    refine (HP.out _).mono ?_
    rintro e w1 ⟨rfl, hB⟩
    go_wp2_with fail
    refine (HF.out _ (HV.out.below hB)).mono ?_
    rintro e w2 ⟨rfl, hb⟩
    have hB2 := below_on hB hb
    clear hb hB
    go_wp2_with (go_at_call 80; refine (seg_must_no _ _).mono ?_; rintro e w4 ⟨rfl, rfl⟩)
    exact ⟨rfl, rfl, hB2⟩
  · have HP := Hd.mk (fun w hv => parse_err s hsz (fun n h => hp ⟨n, h⟩) w hv)
    clear hp hno hV
    go_enter Tryz.func101, Tryz.ntmps101
    go_wp2_with fail
    refine (HP.out _ HV.out).mono ?_
    rintro e w1 ⟨v, t, p, rfl, hB⟩
    go_wp2_with (go_at_call 80; refine (seg_must_no _ _).mono ?_; rintro e w4 ⟨rfl, rfl⟩)
    exact ⟨rfl, rfl, hB⟩
set_option maxRecDepth 20000 in
set_option maxHeartbeats 4000000 in
theorem node_n1 (s sx sy : ByteArray) (hs : s.size < 4294967281) (hc : Lib.cut s.data.toList (⟨#[32]⟩ : ByteArray).data.toList = (sx.data.toList, sy.data.toList, false))  (w : World) (hV : Vars w) :
    Calls Tryz.prog 81 #[.string s] w fun e w' => e = .panicked [{ v := .iface 31 (.int .i64 140), recovered := false }] ∧ Below w.heap.size w w' := by
  have HC : Hd (∀ w, Vars w → Calls Tryz.prog 79 #[.string s, .string ⟨#[32]⟩] w fun e w' => e = .returned (.tuple #[.string sx, .string sy, .bool false]) ∧ Below w.heap.size w w') := ⟨fun w hv => by
    have h := scut_any s ⟨#[32]⟩ w hs hv
    rw [hc] at h
    exact h⟩
  have HV := Hd.mk hV
  clear hs hc hV
  go_enter Tryz.func81, Tryz.ntmps81
  go_wp2_with fail
  refine (HC.out _ (HV.out.below (by focus (repeat (first | (with_reducible exact Below.refl _ _) | (with_reducible assumption) | ((with_reducible refine Below.setCell ?_ ?_ _); rotate_left; (focus (first | omega | (simp; done) | (simp; omega)))) | ((with_reducible refine Below.alloc ?_ ?_ _); rotate_left; (focus (first | omega | (simp; done) | (simp; omega)))) | (with_reducible refine Below.drew ?_) | (refine below_on ?_ (by assumption))))))).mono ?_
  rintro e w1 ⟨rfl, hb⟩
  have hB : Below w.heap.size w w1 := below_on (by focus (repeat (first | (with_reducible exact Below.refl _ _) | (with_reducible assumption) | ((with_reducible refine Below.setCell ?_ ?_ _); rotate_left; (focus (first | omega | (simp; done) | (simp; omega)))) | ((with_reducible refine Below.alloc ?_ ?_ _); rotate_left; (focus (first | omega | (simp; done) | (simp; omega)))) | (with_reducible refine Below.drew ?_) | (refine below_on ?_ (by assumption))))) hb
  clear hb HC
  go_wp2_with (go_at_call 80; refine (seg_must_no _ _).mono ?_; rintro e w4 ⟨rfl, rfl⟩)
  exact ⟨rfl, rfl, hB⟩
set_option maxRecDepth 20000 in
set_option maxHeartbeats 4000000 in
theorem node_n2 (s sx sy : ByteArray) (hs : s.size < 4294967281) (hc : Lib.cut s.data.toList (⟨#[32]⟩ : ByteArray).data.toList = (sx.data.toList, sy.data.toList, true)) (HX : Hd (∀ w : World, Vars w → Calls Tryz.prog 101 #[.string sx] w fun e w' => e = .panicked [{ v := .iface 31 (.int .i64 140), recovered := false }] ∧ Below w.heap.size w w')) (w : World) (hV : Vars w) :
    Calls Tryz.prog 81 #[.string s] w fun e w' => e = .panicked [{ v := .iface 31 (.int .i64 140), recovered := false }] ∧ Below w.heap.size w w' := by
  have HC : Hd (∀ w, Vars w → Calls Tryz.prog 79 #[.string s, .string ⟨#[32]⟩] w fun e w' => e = .returned (.tuple #[.string sx, .string sy, .bool true]) ∧ Below w.heap.size w w') := ⟨fun w hv => by
    have h := scut_any s ⟨#[32]⟩ w hs hv
    rw [hc] at h
    exact h⟩
  have HV := Hd.mk hV
  clear hs hc hV
  go_enter Tryz.func81, Tryz.ntmps81
  go_wp2_with fail
  refine (HC.out _ (HV.out.below (by focus (repeat (first | (with_reducible exact Below.refl _ _) | (with_reducible assumption) | ((with_reducible refine Below.setCell ?_ ?_ _); rotate_left; (focus (first | omega | (simp; done) | (simp; omega)))) | ((with_reducible refine Below.alloc ?_ ?_ _); rotate_left; (focus (first | omega | (simp; done) | (simp; omega)))) | (with_reducible refine Below.drew ?_) | (refine below_on ?_ (by assumption))))))).mono ?_
  rintro e w1 ⟨rfl, hb⟩
  have hB : Below w.heap.size w w1 := below_on (by focus (repeat (first | (with_reducible exact Below.refl _ _) | (with_reducible assumption) | ((with_reducible refine Below.setCell ?_ ?_ _); rotate_left; (focus (first | omega | (simp; done) | (simp; omega)))) | ((with_reducible refine Below.alloc ?_ ?_ _); rotate_left; (focus (first | omega | (simp; done) | (simp; omega)))) | (with_reducible refine Below.drew ?_) | (refine below_on ?_ (by assumption))))) hb
  clear hb HC
  go_wp2_with (go_at_call 80; refine (seg_must_ok _ _).mono ?_; rintro e w4 ⟨rfl, rfl⟩)
  refine (HX.out _ (HV.out.below hB)).mono ?_
  rintro e w2 ⟨rfl, hb⟩
  exact ⟨rfl, rfl, below_on hB hb⟩
set_option maxRecDepth 20000 in
set_option maxHeartbeats 4000000 in
theorem node_n3 (s sx sy : ByteArray) (hs : s.size < 4294967281) (hc : Lib.cut s.data.toList (⟨#[32]⟩ : ByteArray).data.toList = (sx.data.toList, sy.data.toList, true)) (x : Int) (HX : Hd (∀ w, Vars w → Calls Tryz.prog 101 #[.string sx] w fun e w' => e = .returned (.int .i64 x) ∧ Below w.heap.size w w')) (HY : Hd (∀ w : World, Vars w → Calls Tryz.prog 101 #[.string sy] w fun e w' => e = .panicked [{ v := .iface 31 (.int .i64 140), recovered := false }] ∧ Below w.heap.size w w')) (w : World) (hV : Vars w) :
    Calls Tryz.prog 81 #[.string s] w fun e w' => e = .panicked [{ v := .iface 31 (.int .i64 140), recovered := false }] ∧ Below w.heap.size w w' := by
  have HC : Hd (∀ w, Vars w → Calls Tryz.prog 79 #[.string s, .string ⟨#[32]⟩] w fun e w' => e = .returned (.tuple #[.string sx, .string sy, .bool true]) ∧ Below w.heap.size w w') := ⟨fun w hv => by
    have h := scut_any s ⟨#[32]⟩ w hs hv
    rw [hc] at h
    exact h⟩
  have HV := Hd.mk hV
  clear hs hc hV
  go_enter Tryz.func81, Tryz.ntmps81
  go_wp2_with fail
  refine (HC.out _ (HV.out.below (by focus (repeat (first | (with_reducible exact Below.refl _ _) | (with_reducible assumption) | ((with_reducible refine Below.setCell ?_ ?_ _); rotate_left; (focus (first | omega | (simp; done) | (simp; omega)))) | ((with_reducible refine Below.alloc ?_ ?_ _); rotate_left; (focus (first | omega | (simp; done) | (simp; omega)))) | (with_reducible refine Below.drew ?_) | (refine below_on ?_ (by assumption))))))).mono ?_
  rintro e w1 ⟨rfl, hb⟩
  have hB : Below w.heap.size w w1 := below_on (by focus (repeat (first | (with_reducible exact Below.refl _ _) | (with_reducible assumption) | ((with_reducible refine Below.setCell ?_ ?_ _); rotate_left; (focus (first | omega | (simp; done) | (simp; omega)))) | ((with_reducible refine Below.alloc ?_ ?_ _); rotate_left; (focus (first | omega | (simp; done) | (simp; omega)))) | (with_reducible refine Below.drew ?_) | (refine below_on ?_ (by assumption))))) hb
  clear hb HC
  go_wp2_with (go_at_call 80; refine (seg_must_ok _ _).mono ?_; rintro e w4 ⟨rfl, rfl⟩)
  refine (HX.out _ (HV.out.below hB)).mono ?_
  rintro e w2 ⟨rfl, hb⟩
  have hB2 := below_on hB hb
  clear hb hB HX
  go_wp2_with fail
  refine (HY.out _ (HV.out.below hB2)).mono ?_
  rintro e w3 ⟨rfl, hb⟩
  exact ⟨rfl, rfl, below_on hB2 hb⟩
set_option maxRecDepth 20000 in
set_option maxHeartbeats 4000000 in
theorem segp_n1 (s sa sb : ByteArray) (hs : s.size < 4294967281) (hc : Lib.cut s.data.toList (⟨#[44]⟩ : ByteArray).data.toList = (sa.data.toList, sb.data.toList, false))  (w : World) (hV : Vars w) :
    Calls Tryz.prog 56 #[.string s] w fun e w' => e = .returned (.tuple #[.agg #[.int .i64 0, .int .i64 0, .int .i64 0, .int .i64 0], .int .i64 140]) ∧ Below w.heap.size w w' := by
  have hmf : ∀ (fn : Fn) (first cap : Array Value) (w : World), (Instr.makeFunc fn first cap).run Tryz.prog w = .ok (.func fn first cap) w := fun _ _ _ _ => rfl
  have HC : Hd (∀ w, Vars w → Calls Tryz.prog 79 #[.string s, .string ⟨#[44]⟩] w fun e w' => e = .returned (.tuple #[.string sa, .string sb, .bool false]) ∧ Below w.heap.size w w') := ⟨fun w hv => by
    have h := scut_any s ⟨#[44]⟩ w hs hv
    rw [hc] at h
    exact h⟩
  have HV := Hd.mk hV
  clear hs hc hV
  go_enter_defers Tryz.func56, Tryz.ntmps56
  go_wp2_with fail
  refine (HC.out _ (HV.out.below (by focus (repeat (first | (with_reducible exact Below.refl _ _) | (with_reducible assumption) | ((with_reducible refine Below.setCell ?_ ?_ _); rotate_left; (focus (first | omega | (simp; done) | (simp; omega)))) | ((with_reducible refine Below.alloc ?_ ?_ _); rotate_left; (focus (first | omega | (simp; done) | (simp; omega)))) | (with_reducible refine Below.drew ?_) | (refine below_on ?_ (by assumption))))))).mono ?_
  rintro e w1 ⟨rfl, hb⟩
  have z0 := heap_below hb (heap_old (heap_new w (.cells #[.int .i64 0, .int .i64 0, .int .i64 0, .int .i64 0] 26)) _)
  have z1 := heap_below hb (heap_at (n := w.heap.size + 1) (by simp) (.cells #[.int .i64 0] 31))
  have hB : Below w.heap.size w w1 := below_on (by focus (repeat (first | (with_reducible exact Below.refl _ _) | (with_reducible assumption) | ((with_reducible refine Below.setCell ?_ ?_ _); rotate_left; (focus (first | omega | (simp; done) | (simp; omega)))) | ((with_reducible refine Below.alloc ?_ ?_ _); rotate_left; (focus (first | omega | (simp; done) | (simp; omega)))) | (with_reducible refine Below.drew ?_) | (refine below_on ?_ (by assumption))))) hb
  clear hb HC
  go_wp2_with (go_at_call 80; refine (seg_must_no _ _).mono ?_; rintro e wq ⟨rfl, rfl⟩)
  refine leaves_cons (f := 77) (args := #[.pointer (some ⟨w.heap.size + 1, 0, none⟩), .func (.func 78) #[] #[.pointer (some ⟨w.heap.size, 0, none⟩)]]) (by simp) (by simp [go_sem]) ?_
  have v0 := heap_set_other z0 (p := ⟨w.heap.size + 1, 0, none⟩) (by simp) (.int .i64 140)
  have v1 : (wq.setCell ⟨w.heap.size + 1, 0, none⟩ (.int .i64 140)).heap[w.heap.size + 1]? = some (.cells #[.int .i64 140] 31 (0, 0)) := by simpa using heap_set z1 0 (.int .i64 140)
  refine (seg_caught_full _ _ 140 _ _ _ _ (Wr w.heap.size #[.int .i64 0, .int .i64 0, .int .i64 0, .int .i64 0] 26 (wq.setCell ⟨w.heap.size + 1, 0, none⟩ (.int .i64 140))) (cell_at z1 0) (frozen_at z1 0) (fun _ => rfl) (clear_segp v0 rfl)).mono ?_
  rintro e u' w7 ⟨rfl, rfl, hW⟩
  have hF : Below w.heap.size w w7 := (Below.setCell hB (by simp) _).trans (hW.below _ (Nat.le_refl _))
  refine abs_leaves (OutS w w.heap.size (w.heap.size + 1) #[.int .i64 0, .int .i64 0, .int .i64 0, .int .i64 0] 140) ⟨hW.here, hW.other _ _ (by omega) v1, hF⟩ fun W ⟨y1, y2, hB⟩ => ?_
  have c1 := cell_at y1
  have c2 := cell_at y2
  simp [Leaves, settle, results, Tryz.results56, go_sem, c1, c2]
  exact hB
set_option maxRecDepth 20000 in
set_option maxHeartbeats 4000000 in
theorem segp_n2 (s sa sb : ByteArray) (hs : s.size < 4294967281) (hc : Lib.cut s.data.toList (⟨#[44]⟩ : ByteArray).data.toList = (sa.data.toList, sb.data.toList, true)) (HA : Hd (∀ w : World, Vars w → Calls Tryz.prog 81 #[.string sa] w fun e w' => e = .panicked [{ v := .iface 31 (.int .i64 140), recovered := false }] ∧ Below w.heap.size w w')) (w : World) (hV : Vars w) :
    Calls Tryz.prog 56 #[.string s] w fun e w' => e = .returned (.tuple #[.agg #[.int .i64 0, .int .i64 0, .int .i64 0, .int .i64 0], .int .i64 140]) ∧ Below w.heap.size w w' := by
  have hmf : ∀ (fn : Fn) (first cap : Array Value) (w : World), (Instr.makeFunc fn first cap).run Tryz.prog w = .ok (.func fn first cap) w := fun _ _ _ _ => rfl
  have HC : Hd (∀ w, Vars w → Calls Tryz.prog 79 #[.string s, .string ⟨#[44]⟩] w fun e w' => e = .returned (.tuple #[.string sa, .string sb, .bool true]) ∧ Below w.heap.size w w') := ⟨fun w hv => by
    have h := scut_any s ⟨#[44]⟩ w hs hv
    rw [hc] at h
    exact h⟩
  have HV := Hd.mk hV
  clear hs hc hV
  go_enter_defers Tryz.func56, Tryz.ntmps56
  go_wp2_with fail
  refine (HC.out _ (HV.out.below (by focus (repeat (first | (with_reducible exact Below.refl _ _) | (with_reducible assumption) | ((with_reducible refine Below.setCell ?_ ?_ _); rotate_left; (focus (first | omega | (simp; done) | (simp; omega)))) | ((with_reducible refine Below.alloc ?_ ?_ _); rotate_left; (focus (first | omega | (simp; done) | (simp; omega)))) | (with_reducible refine Below.drew ?_) | (refine below_on ?_ (by assumption))))))).mono ?_
  rintro e w1 ⟨rfl, hb⟩
  have z0 := heap_below hb (heap_old (heap_new w (.cells #[.int .i64 0, .int .i64 0, .int .i64 0, .int .i64 0] 26)) _)
  have z1 := heap_below hb (heap_at (n := w.heap.size + 1) (by simp) (.cells #[.int .i64 0] 31))
  have hB : Below w.heap.size w w1 := below_on (by focus (repeat (first | (with_reducible exact Below.refl _ _) | (with_reducible assumption) | ((with_reducible refine Below.setCell ?_ ?_ _); rotate_left; (focus (first | omega | (simp; done) | (simp; omega)))) | ((with_reducible refine Below.alloc ?_ ?_ _); rotate_left; (focus (first | omega | (simp; done) | (simp; omega)))) | (with_reducible refine Below.drew ?_) | (refine below_on ?_ (by assumption))))) hb
  clear hb HC
  go_wp2_with (go_at_call 80; refine (seg_must_ok _ _).mono ?_; rintro e w4 ⟨rfl, rfl⟩)
  refine (HA.out _ (HV.out.below hB)).mono ?_
  rintro e wq ⟨rfl, hb⟩
  have y0 := heap_below hb z0
  have y1 := heap_below hb z1
  have hB2 := below_on hB hb
  clear hb z0 z1 hB HA
  go_wp2
  refine leaves_cons (f := 77) (args := #[.pointer (some ⟨w.heap.size + 1, 0, none⟩), .func (.func 78) #[] #[.pointer (some ⟨w.heap.size, 0, none⟩)]]) (by simp) (by simp [go_sem]) ?_
  have v0 := heap_set_other y0 (p := ⟨w.heap.size + 1, 0, none⟩) (by simp) (.int .i64 140)
  have v1 : (wq.setCell ⟨w.heap.size + 1, 0, none⟩ (.int .i64 140)).heap[w.heap.size + 1]? = some (.cells #[.int .i64 140] 31 (0, 0)) := by simpa using heap_set y1 0 (.int .i64 140)
  refine (seg_caught_full _ _ 140 _ _ _ _ (Wr w.heap.size #[.int .i64 0, .int .i64 0, .int .i64 0, .int .i64 0] 26 (wq.setCell ⟨w.heap.size + 1, 0, none⟩ (.int .i64 140))) (cell_at y1 0) (frozen_at y1 0) (fun _ => rfl) (clear_segp v0 rfl)).mono ?_
  rintro e u' w7 ⟨rfl, rfl, hW⟩
  have hF : Below w.heap.size w w7 := (Below.setCell hB2 (by simp) _).trans (hW.below _ (Nat.le_refl _))
  refine abs_leaves (OutS w w.heap.size (w.heap.size + 1) #[.int .i64 0, .int .i64 0, .int .i64 0, .int .i64 0] 140) ⟨hW.here, hW.other _ _ (by omega) v1, hF⟩ fun W ⟨y1, y2, hB⟩ => ?_
  have c1 := cell_at y1
  have c2 := cell_at y2
  simp [Leaves, settle, results, Tryz.results56, go_sem, c1, c2]
  exact hB
set_option maxRecDepth 20000 in
set_option maxHeartbeats 4000000 in
theorem segp_n3 (s sa sb : ByteArray) (hs : s.size < 4294967281) (hc : Lib.cut s.data.toList (⟨#[44]⟩ : ByteArray).data.toList = (sa.data.toList, sb.data.toList, true)) (ax ay : Int) (HA : Hd (∀ w, Vars w → Calls Tryz.prog 81 #[.string sa] w fun e w' => e = .returned (.agg #[.int .i64 ax, .int .i64 ay]) ∧ Below w.heap.size w w')) (HB : Hd (∀ w : World, Vars w → Calls Tryz.prog 81 #[.string sb] w fun e w' => e = .panicked [{ v := .iface 31 (.int .i64 140), recovered := false }] ∧ Below w.heap.size w w')) (w : World) (hV : Vars w) :
    Calls Tryz.prog 56 #[.string s] w fun e w' => e = .returned (.tuple #[.agg #[.int .i64 0, .int .i64 0, .int .i64 0, .int .i64 0], .int .i64 140]) ∧ Below w.heap.size w w' := by
  have hmf : ∀ (fn : Fn) (first cap : Array Value) (w : World), (Instr.makeFunc fn first cap).run Tryz.prog w = .ok (.func fn first cap) w := fun _ _ _ _ => rfl
  have HC : Hd (∀ w, Vars w → Calls Tryz.prog 79 #[.string s, .string ⟨#[44]⟩] w fun e w' => e = .returned (.tuple #[.string sa, .string sb, .bool true]) ∧ Below w.heap.size w w') := ⟨fun w hv => by
    have h := scut_any s ⟨#[44]⟩ w hs hv
    rw [hc] at h
    exact h⟩
  have HV := Hd.mk hV
  clear hs hc hV
  go_enter_defers Tryz.func56, Tryz.ntmps56
  go_wp2_with fail
  refine (HC.out _ (HV.out.below (by focus (repeat (first | (with_reducible exact Below.refl _ _) | (with_reducible assumption) | ((with_reducible refine Below.setCell ?_ ?_ _); rotate_left; (focus (first | omega | (simp; done) | (simp; omega)))) | ((with_reducible refine Below.alloc ?_ ?_ _); rotate_left; (focus (first | omega | (simp; done) | (simp; omega)))) | (with_reducible refine Below.drew ?_) | (refine below_on ?_ (by assumption))))))).mono ?_
  rintro e w1 ⟨rfl, hb⟩
  have z0 := heap_below hb (heap_old (heap_new w (.cells #[.int .i64 0, .int .i64 0, .int .i64 0, .int .i64 0] 26)) _)
  have z1 := heap_below hb (heap_at (n := w.heap.size + 1) (by simp) (.cells #[.int .i64 0] 31))
  have hB : Below w.heap.size w w1 := below_on (by focus (repeat (first | (with_reducible exact Below.refl _ _) | (with_reducible assumption) | ((with_reducible refine Below.setCell ?_ ?_ _); rotate_left; (focus (first | omega | (simp; done) | (simp; omega)))) | ((with_reducible refine Below.alloc ?_ ?_ _); rotate_left; (focus (first | omega | (simp; done) | (simp; omega)))) | (with_reducible refine Below.drew ?_) | (refine below_on ?_ (by assumption))))) hb
  clear hb HC
  go_wp2_with (go_at_call 80; refine (seg_must_ok _ _).mono ?_; rintro e w4 ⟨rfl, rfl⟩)
  refine (HA.out _ (HV.out.below hB)).mono ?_
  rintro e w2 ⟨rfl, hb⟩
  have y0 := heap_below hb z0
  have y1 := heap_below hb z1
  have hB2 := below_on hB hb
  clear hb z0 z1 hB HA
  go_wp2_with fail
  refine (HB.out _ (HV.out.below hB2)).mono ?_
  rintro e wq ⟨rfl, hb⟩
  have z0 := heap_below hb y0
  have z1 := heap_below hb y1
  have hB3 := below_on hB2 hb
  clear hb y0 y1 hB2 HB
  go_wp2
  refine leaves_cons (f := 77) (args := #[.pointer (some ⟨w.heap.size + 1, 0, none⟩), .func (.func 78) #[] #[.pointer (some ⟨w.heap.size, 0, none⟩)]]) (by simp) (by simp [go_sem]) ?_
  have v0 := heap_set_other z0 (p := ⟨w.heap.size + 1, 0, none⟩) (by simp) (.int .i64 140)
  have v1 : (wq.setCell ⟨w.heap.size + 1, 0, none⟩ (.int .i64 140)).heap[w.heap.size + 1]? = some (.cells #[.int .i64 140] 31 (0, 0)) := by simpa using heap_set z1 0 (.int .i64 140)
  refine (seg_caught_full _ _ 140 _ _ _ _ (Wr w.heap.size #[.int .i64 0, .int .i64 0, .int .i64 0, .int .i64 0] 26 (wq.setCell ⟨w.heap.size + 1, 0, none⟩ (.int .i64 140))) (cell_at z1 0) (frozen_at z1 0) (fun _ => rfl) (clear_segp v0 rfl)).mono ?_
  rintro e u' w7 ⟨rfl, rfl, hW⟩
  have hF : Below w.heap.size w w7 := (Below.setCell hB3 (by simp) _).trans (hW.below _ (Nat.le_refl _))
  refine abs_leaves (OutS w w.heap.size (w.heap.size + 1) #[.int .i64 0, .int .i64 0, .int .i64 0, .int .i64 0] 140) ⟨hW.here, hW.other _ _ (by omega) v1, hF⟩ fun W ⟨y1, y2, hB⟩ => ?_
  have c1 := cell_at y1
  have c2 := cell_at y2
  simp [Leaves, settle, results, Tryz.results56, go_sem, c1, c2]
  exact hB
end Go.Proofs.YtfchmikbebdflaaGreatDoor

namespace Go.Proofs.YtfchmikbebdflaaGreatDoor
open Go.RowKit Go.BigFrame
theorem index_none (c : UInt8) : ∀ l : List UInt8, c ∉ l → Lib.index l [c] = -1
  | [], _ => rfl
  | a :: l, h => by
    have h1 : a ≠ c := fun e => h (by simp [e])
    have h2 : c ∉ l := fun e => h (by simp [e])
    have h3 : ([c] : List UInt8).isPrefixOf (a :: l) = false := by
      simp [List.isPrefixOf]
      exact fun e => absurd e.symm h1
    rw [Lib.index, index_none c l h2, h3]
    rfl
theorem cut_none (c : UInt8) (l : List UInt8) (h : c ∉ l) : Lib.cut l [c] = (l, [], false) := by
  unfold Lib.cut
  rw [index_none c l h, if_neg (by omega)]
def I64 (n : Int) : Prop := -9223372036854775808 ≤ n ∧ n ≤ 9223372036854775807
/-- node of seg, of any text. -/
theorem node_any (s : ByteArray) (hsz : s.size ≤ 1100000) :
    (∃ x y : Int, I64 x ∧ I64 y ∧ s = nodeS x y ∧ Hd (∀ w, Vars w → Calls Tryz.prog 81 #[.string s] w fun e w' => e = .returned (.agg #[.int .i64 x, .int .i64 y]) ∧ Below w.heap.size w w')) ∨
    Hd (∀ w : World, Vars w → Calls Tryz.prog 81 #[.string s] w fun e w' => e = .panicked [{ v := .iface 31 (.int .i64 140), recovered := false }] ∧ Below w.heap.size w w') := by
  have num : ∀ t : ByteArray, t.size ≤ 1100000 → (∃ n : Int, I64 n ∧ t = itS n ∧ Hd (∀ w, Vars w → Calls Tryz.prog 101 #[.string t] w fun e w' => e = .returned (.int .i64 n) ∧ Below w.heap.size w w')) ∨
      Hd (∀ w : World, Vars w → Calls Tryz.prog 101 #[.string t] w fun e w' => e = .panicked [{ v := .iface 31 (.int .i64 140), recovered := false }] ∧ Below w.heap.size w w') := by
    intro t ht
    by_cases h : ∃ n : Int, I64 n ∧ t = itS n
    · obtain ⟨n, hn, he⟩ := h
      exact .inl ⟨n, hn, he, ⟨fun w hv => number_ok t n (by omega) hn.1 hn.2 (by rw [he]; exact parse_itoa n hn.1 hn.2) he.symm w hv⟩⟩
    · exact .inr ⟨fun w hv => number_no t ht (fun n hn he => h ⟨n, hn, he⟩) w hv⟩
  by_cases hm : (32 : UInt8) ∈ s.data.toList
  · obtain ⟨j, hj, hno⟩ := mem_first hm
    have hjs : j < s.size := by
      have := (List.getElem?_eq_some_iff.1 hj).1
      rw [size_list] at this
      exact this
    have hsp := cut_list s j 32 hj
    have hL : (32 : UInt8) ∉ (s.extract 0 j).data.toList := by rw [take_list]; exact hno
    have hc : Lib.cut s.data.toList (⟨#[32]⟩ : ByteArray).data.toList = ((s.extract 0 j).data.toList, (s.extract (j + 1) s.size).data.toList, true) := by
      have h1 := cut_at 32 _ (s.extract (j + 1) s.size).data.toList hL
      rw [← hsp] at h1
      exact h1
    rcases num (s.extract 0 j) (by rw [ByteArray.size_extract]; omega) with ⟨x, hx, ex, HX⟩ | HX
    · rcases num (s.extract (j + 1) s.size) (by rw [ByteArray.size_extract]; omega) with ⟨y, hy, ey, HY⟩ | HY
      · exact .inl ⟨x, y, hx, hy, node_join hsp ex ey, ⟨fun w hv => seg_node_ok s _ _ x y (by omega) hc HX HY w hv⟩⟩
      · exact .inr ⟨fun w hv => node_n3 s _ _ (by omega) hc x HX HY w hv⟩
    · exact .inr ⟨fun w hv => node_n2 s _ _ (by omega) hc HX w hv⟩
  · have hc : Lib.cut s.data.toList (⟨#[32]⟩ : ByteArray).data.toList = (s.data.toList, (⟨#[]⟩ : ByteArray).data.toList, false) := cut_none 32 _ hm
    exact .inr ⟨fun w hv => node_n1 s s ⟨#[]⟩ (by omega) hc w hv⟩
/-- Parse of seg, of any text: what the reference tells. -/
theorem segp_any (s : ByteArray) (hsz : s.size ≤ 1100000) (c0 c1 c2 c3 e : Int) (h : e = 0 ∧ segB c0 c1 c2 c3 = true ∧ s = segS c0 c1 c2 c3 ∨ e = 140 ∧ c0 = 0 ∧ c1 = 0 ∧ c2 = 0 ∧ c3 = 0 ∧ ∀ a b c d : Int, segB a b c d = true → s ≠ segS a b c d) (w : World) (hV : Vars w) :
    Calls Tryz.prog 56 #[.string s] w fun x w' => x = .returned (.tuple #[.agg #[.int .i64 c0, .int .i64 c1, .int .i64 c2, .int .i64 c3], .int .i64 e]) ∧ Below w.heap.size w w' := by
  rcases h with ⟨rfl, hg, rfl⟩ | ⟨rfl, rfl, rfl, rfl, rfl, hno⟩
  · exact parse_text c0 c1 c2 c3 hg w hV
  · by_cases hm : (44 : UInt8) ∈ s.data.toList
    · obtain ⟨j, hj, hnj⟩ := mem_first hm
      have hjs : j < s.size := by
        have := (List.getElem?_eq_some_iff.1 hj).1
        rw [size_list] at this
        exact this
      have hsp := cut_list s j 44 hj
      have hL : (44 : UInt8) ∉ (s.extract 0 j).data.toList := by rw [take_list]; exact hnj
      have hc : Lib.cut s.data.toList (⟨#[44]⟩ : ByteArray).data.toList = ((s.extract 0 j).data.toList, (s.extract (j + 1) s.size).data.toList, true) := by
        have h1 := cut_at 44 _ (s.extract (j + 1) s.size).data.toList hL
        rw [← hsp] at h1
        exact h1
      rcases node_any (s.extract 0 j) (by rw [ByteArray.size_extract]; omega) with ⟨ax, ay, _, _, ea, HA⟩ | HA
      · rcases node_any (s.extract (j + 1) s.size) (by rw [ByteArray.size_extract]; omega) with ⟨bx, by_, _, _, eb, HB⟩ | HB
        · have hs : s = segS ax ay bx by_ := by
            apply bytes_ext
            rw [hsp, seg_list, ← ea, ← eb]
          have hg : segB ax ay bx by_ = false := by
            cases hq : segB ax ay bx by_ with
            | false => rfl
            | true => exact absurd hs (hno ax ay bx by_ hq)
          exact segp_none s _ _ ax ay bx by_ (by omega) hc hg HA HB w hV
        · exact segp_n3 s _ _ (by omega) hc ax ay HA HB w hV
      · exact segp_n2 s _ _ (by omega) hc HA w hV
    · have hc : Lib.cut s.data.toList (⟨#[44]⟩ : ByteArray).data.toList = (s.data.toList, (⟨#[]⟩ : ByteArray).data.toList, false) := cut_none 44 _ hm
      exact segp_n1 s s ⟨#[]⟩ (by omega) hc w hV
end Go.Proofs.YtfchmikbebdflaaGreatDoor
