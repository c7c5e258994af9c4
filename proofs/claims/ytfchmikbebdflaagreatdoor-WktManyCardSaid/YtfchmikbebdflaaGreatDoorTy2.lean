/-
  Walk of a reference: number. Conditions stand in each theorem.
-/
import Derived.Test.YtfchmikbebdflaaGreatDoorLm13
import Derived.Test.YtfchmikbebdflaaGreatDoorBk
import Derived.Test.YtfchmikbebdflaaGreatDoorWd6
import Derived.Test.YtfchmikbebdflaaGreatDoorTs3
namespace Go.Proofs.YtfchmikbebdflaaGreatDoor
open Go.RowKit Go.BigFrame

set_option maxRecDepth 20000 in
set_option maxHeartbeats 1000000 in
theorem seg_node_ok (s sx sy : ByteArray) (x y : Int) (hs : s.size < 4294967281) (hc : Lib.cut s.data.toList (⟨#[32]⟩ : ByteArray).data.toList = (sx.data.toList, sy.data.toList, true))
    (HX : Hd (∀ w, Vars w → Calls Tryz.prog 101 #[.string sx] w fun e w' => e = .returned (.int .i64 x) ∧ Below w.heap.size w w'))
    (HY : Hd (∀ w, Vars w → Calls Tryz.prog 101 #[.string sy] w fun e w' => e = .returned (.int .i64 y) ∧ Below w.heap.size w w')) (w : World) (hV : Vars w) :
    Calls Tryz.prog 81 #[.string s] w fun e w' => e = .returned (.agg #[.int .i64 x, .int .i64 y]) ∧ Below w.heap.size w w' := by
  have HC : Hd (∀ w, Vars w → Calls Tryz.prog 79 #[.string s, .string ⟨#[32]⟩] w fun e w' => e = .returned (.tuple #[.string sx, .string sy, .bool true]) ∧ Below w.heap.size w w') := ⟨fun w hv => by
    have h := scut_any s ⟨#[32]⟩ w hs hv
    rw [hc] at h
    exact h⟩
  have HV := Hd.mk hV
  clear hs hc hV
  go_enter Tryz.func81, Tryz.ntmps81
  go_wp2_with fail
  refine (HC.out _ (HV.out.below (by focus (repeat (first | (with_reducible exact Below.refl _ _) | (with_reducible assumption) | ((with_reducible refine Below.setCell ?_ ?_ _); rotate_left; (focus (first | omega | (simp; done) | (simp; omega)))) | ((with_reducible refine Below.alloc ?_ ?_ _); rotate_left; (focus (first | omega | (simp; done) | (simp; omega)))) | (with_reducible refine Below.drew ?_) | (refine below_on ?_ (by assumption))))))).mono ?_
  rintro e w1 ⟨rfl, hb⟩
  have z0 := heap_below hb (heap_new w (.cells #[.int .i64 0, .int .i64 0] 24))
  have hB : Below w.heap.size w w1 := below_on (by focus (repeat (first | (with_reducible exact Below.refl _ _) | (with_reducible assumption) | ((with_reducible refine Below.setCell ?_ ?_ _); rotate_left; (focus (first | omega | (simp; done) | (simp; omega)))) | ((with_reducible refine Below.alloc ?_ ?_ _); rotate_left; (focus (first | omega | (simp; done) | (simp; omega)))) | (with_reducible refine Below.drew ?_) | (refine below_on ?_ (by assumption))))) hb
  clear hb HC
  go_wp2_with (go_at_call 80; refine (seg_must_ok _ _).mono ?_; rintro e w4 ⟨rfl, rfl⟩)
  refine (HX.out _ (HV.out.below hB)).mono ?_
  rintro e w2 ⟨rfl, hb⟩
  have z1 := heap_below hb z0
  have hB2 := below_on hB hb
  clear hb z0 hB HX
  go_wp2_with fail
  refine (HY.out _ (HV.out.below hB2)).mono ?_
  rintro e w3 ⟨rfl, hb⟩
  have z2 := heap_below hb z1
  have hB3 := below_on hB2 hb
  clear hb z1 hB2 HY
  go_wp2_with (refine wpList_store_block rfl 24 (.tmp 2) (.tmp 18) rfl w.heap.size #[.int .i64 x, .int .i64 y] rfl rfl z2 rfl (by kernel_rfl) rfl ?_; rintro W2 ⟨k1, k2, k3⟩; have hF := hB3.trans (k3 _ (Nat.le_refl _)); clear z2 hB3 k2 k3)
  have c1 := cell_at k1
  exact bodyPost_ret (by simp [results, Tryz.results81, go_sem, Act.put, c1] <;> rfl) rfl ⟨rfl, hF⟩
/-- What a segment and an errno named as results hold. -/
def OutS (w : World) (b d : Nat) (cs : Array Value) (n : Int) (W : World) : Prop :=
  W.heap[b]? = some (.cells cs 26 (0, 0)) ∧ W.heap[d]? = some (.cells #[.int .i64 n] 31 (0, 0)) ∧ Below w.heap.size w W
theorem clear_segp {W : World} {b : Nat} {c : Array Value} (h : W.heap[b]? = some (.cells c 26 (0, 0))) (hs : c.size = 4) :
    Calls Tryz.prog 78 #[.pointer (some ⟨b, 0, none⟩)] W fun e w' => e = .returned (.tuple #[]) ∧ Wr b #[.int .i64 0, .int .i64 0, .int .i64 0, .int .i64 0] 26 W w' := by
  go_enter Tryz.func78, Tryz.ntmps78
  go_wp2_with (refine wpList_store_block rfl 26 (.tmp 0) (.tmp 1) rfl b #[.int .i64 0, .int .i64 0, .int .i64 0, .int .i64 0] rfl rfl h hs (by kernel_rfl) rfl ?_; rintro W2 hW)
  go_end0
  exact ⟨rfl, hW⟩
set_option maxRecDepth 20000 in
set_option maxHeartbeats 2000000 in
theorem segp_none (s sa sb : ByteArray) (ax ay bx by_ : Int) (hs : s.size < 4294967281) (hc : Lib.cut s.data.toList (⟨#[44]⟩ : ByteArray).data.toList = (sa.data.toList, sb.data.toList, true)) (hseg : segB ax ay bx by_ = false)
    (HA : Hd (∀ w, Vars w → Calls Tryz.prog 81 #[.string sa] w fun e w' => e = .returned (.agg #[.int .i64 ax, .int .i64 ay]) ∧ Below w.heap.size w w'))
    (HB : Hd (∀ w, Vars w → Calls Tryz.prog 81 #[.string sb] w fun e w' => e = .returned (.agg #[.int .i64 bx, .int .i64 by_]) ∧ Below w.heap.size w w')) (w : World) (hV : Vars w) :
    Calls Tryz.prog 56 #[.string s] w fun e w' => e = .returned (.tuple #[.agg #[.int .i64 0, .int .i64 0, .int .i64 0, .int .i64 0], .int .i64 140]) ∧ Below w.heap.size w w' := by
  have hmf : ∀ (fn : Fn) (first cap : Array Value) (w : World), (Instr.makeFunc fn first cap).run Tryz.prog w = .ok (.func fn first cap) w := fun _ _ _ _ => rfl
  have HC : Hd (∀ w, Vars w → Calls Tryz.prog 79 #[.string s, .string ⟨#[44]⟩] w fun e w' => e = .returned (.tuple #[.string sa, .string sb, .bool true]) ∧ Below w.heap.size w w') := ⟨fun w hv => by
    have h := scut_any s ⟨#[44]⟩ w hs hv
    rw [hc] at h
    exact h⟩
  have HK : Hd (∀ w, Calls Tryz.prog 34 #[.agg #[.int .i64 ax, .int .i64 ay, .int .i64 bx, .int .i64 by_]] w fun e w' => e = .returned (.int .i64 2) ∧ Below w.heap.size w w') := ⟨fun w => by
    have h := seg_check ax ay bx by_ w
    rw [hseg] at h
    exact h⟩
  have HV := Hd.mk hV
  clear hs hc hV hseg
  go_enter_defers Tryz.func56, Tryz.ntmps56
  go_wp2_with fail
  refine (HC.out _ (HV.out.below (by focus (repeat (first | (with_reducible exact Below.refl _ _) | (with_reducible assumption) | ((with_reducible refine Below.setCell ?_ ?_ _); rotate_left; (focus (first | omega | (simp; done) | (simp; omega)))) | ((with_reducible refine Below.alloc ?_ ?_ _); rotate_left; (focus (first | omega | (simp; done) | (simp; omega)))) | (with_reducible refine Below.drew ?_) | (refine below_on ?_ (by assumption))))))).mono ?_
  rintro e w1 ⟨rfl, hb⟩
  have z0 := heap_below hb (heap_old (heap_new w (.cells #[.int .i64 0, .int .i64 0, .int .i64 0, .int .i64 0] 26)) _)
  have z1 := heap_below hb (heap_at (n := w.heap.size + 1) (by simp) (.cells #[.int .i64 0] 31))
  have hB : Below w.heap.size w w1 := below_on (by focus (repeat (first | (with_reducible exact Below.refl _ _) | (with_reducible assumption) | ((with_reducible refine Below.setCell ?_ ?_ _); rotate_left; (focus (first | omega | (simp; done) | (simp; omega)))) | ((with_reducible refine Below.alloc ?_ ?_ _); rotate_left; (focus (first | omega | (simp; done) | (simp; omega)))) | (with_reducible refine Below.drew ?_) | (refine below_on ?_ (by assumption))))) hb
  clear hb HC
  go_wp2_with (go_at_call 80; refine (seg_must_ok _ _).mono ?_; rintro e w4 ⟨rfl, rfl⟩)
  refine (HA.out _ (HV.out.below hB)).mono ?_
  rintro e w2 ⟨rfl, hb⟩
  have y0 := heap_below hb z0
  have y1 := heap_below hb z1
  have hB2 := below_on hB hb
  clear hb z0 z1 hB HA
  go_wp2_with fail
  refine (HB.out _ (HV.out.below hB2)).mono ?_
  rintro e w3 ⟨rfl, hb⟩
  have z0 := heap_below hb y0
  have z1 := heap_below hb y1
  have hB3 := below_on hB2 hb
  clear hb y0 y1 hB2 HB
  have c0 := cell_at z0
  have f0 := frozen_at z0
  go_upto_region 5 with (fail)
  refine abs_wp (fun W => W.heap[w.heap.size]? = some (.cells #[.int .i64 ax, .int .i64 ay, .int .i64 bx, .int .i64 by_] 26 (0, 0)) ∧ W.heap[w.heap.size + 1]? = some (.cells #[.int .i64 0] 31 (0, 0)) ∧ Below w.heap.size w W) ⟨by simpa using heap_set (heap_set (heap_set (heap_set z0 0 _) 1 _) 2 _) 3 _, heap_set_other (heap_set_other (heap_set_other (heap_set_other z1 (by simp) _) (by simp) _) (by simp) _) (by simp) _, by focus (repeat (first | (with_reducible exact Below.refl _ _) | (with_reducible assumption) | ((with_reducible refine Below.setCell ?_ ?_ _); rotate_left; (focus (first | omega | (simp; done) | (simp; omega)))) | ((with_reducible refine Below.alloc ?_ ?_ _); rotate_left; (focus (first | omega | (simp; done) | (simp; omega)))) | (with_reducible refine Below.drew ?_) | (refine below_on ?_ (by assumption))))⟩ fun W ⟨y0, y1, hB4⟩ => ?_
  clear z0 z1 hB3 c0 f0
  have c0 := cell_at y0
  go_wp2_with fail
  refine (HK.out _).mono ?_
  rintro e w5 ⟨rfl, hb⟩
  have z0 := heap_below hb y0
  have z1 := heap_below hb y1
  have hB5 := below_on hB4 hb
  clear hb y0 y1 hB4 HK c0
  go_wp2_with (go_at_call 80; refine (seg_must_no _ _).mono ?_; rintro e w6 ⟨rfl, rfl⟩)
  refine leaves_cons (f := 77) (args := #[.pointer (some ⟨w.heap.size + 1, 0, none⟩), .func (.func 78) #[] #[.pointer (some ⟨w.heap.size, 0, none⟩)]]) (by simp) (by simp [go_sem]) ?_
  have v0 := heap_set_other z0 (p := ⟨w.heap.size + 1, 0, none⟩) (by simp) (.int .i64 140)
  have v1 : (w6.setCell ⟨w.heap.size + 1, 0, none⟩ (.int .i64 140)).heap[w.heap.size + 1]? = some (.cells #[.int .i64 140] 31 (0, 0)) := by simpa using heap_set z1 0 (.int .i64 140)
  refine (seg_caught_full _ _ 140 _ _ _ _ (Wr w.heap.size #[.int .i64 0, .int .i64 0, .int .i64 0, .int .i64 0] 26 (w6.setCell ⟨w.heap.size + 1, 0, none⟩ (.int .i64 140))) (cell_at z1 0) (frozen_at z1 0) (fun _ => rfl) (clear_segp v0 rfl)).mono ?_
  rintro e u' w7 ⟨rfl, rfl, hW⟩
  have hF : Below w.heap.size w w7 := (Below.setCell hB5 (by simp) _).trans (hW.below _ (Nat.le_refl _))
  refine abs_leaves (OutS w w.heap.size (w.heap.size + 1) #[.int .i64 0, .int .i64 0, .int .i64 0, .int .i64 0] 140) ⟨hW.here, hW.other _ _ (by omega) v1, hF⟩ fun W ⟨y1, y2, hB⟩ => ?_
  have c1 := cell_at y1
  have c2 := cell_at y2
  simp [Leaves, settle, results, Tryz.results56, go_sem, c1, c2]
  exact hB
end Go.Proofs.YtfchmikbebdflaaGreatDoor

namespace Go.Proofs.YtfchmikbebdflaaGreatDoor

theorem digit_byte (d : Nat) (h : d < 10) : (UInt8.ofNat (48 + d)).toNat = 48 + d := by
  rw [UInt8.toNat_ofNat']
  omega
theorem parse_dec (M : Nat) (hM : M ≤ 18446744073709551615) : ∀ (u : Nat) (r : List UInt8), u ≤ M → Lib.parseUintM M 0 (Lib.decDigits u ++ r) = Lib.parseUintM M u r := by
  intro u
  induction u using Nat.strongRecOn with
  | _ u ih =>
    intro r hu
    by_cases h : u < 10
    · rw [Lib.decDigits, dif_pos h]
      simp only [List.cons_append, List.nil_append]
      rw [Lib.parseUintM, digit_byte u h, if_pos (by omega), if_neg (by omega), if_neg (by omega)]
      congr 1
      omega
    · rw [Lib.decDigits, dif_neg h, List.append_assoc, ih (u / 10) (by omega) _ (by omega)]
      simp only [List.cons_append, List.nil_append]
      rw [Lib.parseUintM, digit_byte (u % 10) (by omega), if_pos (by omega), if_neg (by omega), if_neg (by omega)]
      congr 1
      omega
theorem dec_ne (u : Nat) : Lib.decDigits u ≠ [] := by
  rw [Lib.decDigits]
  split
  · simp
  · simp
theorem dec_byte (u : Nat) : ∀ c ∈ Lib.decDigits u, 48 ≤ c.toNat ∧ c.toNat ≤ 57 := by
  induction u using Nat.strongRecOn with
  | _ u ih =>
    intro c hc
    by_cases h : u < 10
    · rw [Lib.decDigits, dif_pos h] at hc
      rw [List.mem_singleton] at hc
      rw [hc, digit_byte u h]
      omega
    · rw [Lib.decDigits, dif_neg h, List.mem_append, List.mem_singleton] at hc
      rcases hc with hc | rfl
      · exact ih (u / 10) (by omega) c hc
      · rw [digit_byte (u % 10) (by omega)]
        omega
theorem parse_dec_all (u : Nat) (hu : u ≤ 18446744073709551615) : Lib.parseUintB 64 (Lib.decDigits u) = .ok u := by
  unfold Lib.parseUintB
  rw [if_neg (dec_ne u)]
  have h := parse_dec (2 ^ 64 - 1) (by decide) u [] (by omega)
  rw [List.append_nil] at h
  rw [h, Lib.parseUintM]
/-- Parsing is the other way of printing. -/
theorem parse_itoa (n : Int) (h0 : -9223372036854775808 ≤ n) (h1 : n ≤ 9223372036854775807) : Lib.parseIntB 64 (Lib.itoa n) = .ok n := by
  unfold Lib.itoa
  by_cases hn : n < 0
  · rw [if_pos hn]
    unfold Lib.parseIntB
    simp only [show (45 : UInt8).toNat = 45 by decide]
    simp only [or_true, if_true, parse_dec_all n.natAbs (by omega), true_and, not_true, false_and, if_false]
    rw [if_neg (by omega)]
    congr 1
    omega
  · rw [if_neg hn]
    have hb := dec_byte n.toNat
    have hp := parse_dec_all n.toNat (by omega)
    cases hd : Lib.decDigits n.toNat with
    | nil => exact absurd hd (dec_ne _)
    | cons c r =>
      rw [hd] at hb hp
      have hc := hb c (by simp)
      unfold Lib.parseIntB
      have e1 : ¬ c.toNat = 43 := by omega
      have e2 : ¬ c.toNat = 45 := by omega
      simp only [e1, e2, or_self, if_false, hp, not_false_eq_true, true_and, false_and]
      rw [if_neg (by omega)]
      congr 1
      omega
theorem index_at (c : UInt8) : ∀ (l r : List UInt8), c ∉ l → Lib.index (l ++ c :: r) [c] = l.length
  | [], r, _ => by
    rw [List.nil_append, Lib.index]
    simp [List.isPrefixOf]
  | a :: l, r, h => by
    have h1 : a ≠ c := fun e => h (by simp [e])
    have h2 : c ∉ l := fun e => h (by simp [e])
    have ih := index_at c l r h2
    rw [List.cons_append, Lib.index, ih]
    have h3 : ([c] : List UInt8).isPrefixOf (a :: (l ++ c :: r)) = false := by
      simp [List.isPrefixOf]
      exact fun e => absurd e.symm h1
    rw [h3]
    have h4 : (((l.length : Nat) : Int) == -1) = false := by rw [beq_eq_false_iff_ne]; omega
    simp [h4]
/-- A text is cut at the first byte of a kind. -/
theorem cut_at (c : UInt8) (l r : List UInt8) (h : c ∉ l) : Lib.cut (l ++ c :: r) [c] = (l, r, true) := by
  unfold Lib.cut
  rw [index_at c l r h, if_pos (by omega)]
  simp
theorem itoa_byte (n : Int) : ∀ c ∈ Lib.itoa n, c.toNat = 45 ∨ 48 ≤ c.toNat ∧ c.toNat ≤ 57 := by
  intro c hc
  unfold Lib.itoa at hc
  split at hc
  · rw [List.mem_cons] at hc
    rcases hc with rfl | hc
    · exact .inl rfl
    · exact .inr (dec_byte _ c hc)
  · exact .inr (dec_byte _ c hc)
theorem itoa_no (n : Int) (c : UInt8) (h : c.toNat < 45) : c ∉ Lib.itoa n := fun hc => by
  have := itoa_byte n c hc
  omega
theorem itS_list (n : Int) : (itS n).data.toList = Lib.itoa n := rfl
theorem node_list (x y : Int) : (nodeS x y).data.toList = Lib.itoa x ++ 32 :: Lib.itoa y := by
  unfold nodeS
  simp [itS_list]
theorem seg_list (ax ay bx by_ : Int) : (segS ax ay bx by_).data.toList = (nodeS ax ay).data.toList ++ 44 :: (nodeS bx by_).data.toList := by
  unfold segS
  simp
theorem node_cut (x y : Int) : Lib.cut (nodeS x y).data.toList (⟨#[32]⟩ : ByteArray).data.toList = ((itS x).data.toList, (itS y).data.toList, true) := by
  rw [node_list, itS_list, itS_list]
  exact cut_at 32 _ _ (itoa_no x 32 (by decide))
theorem seg_cut (ax ay bx by_ : Int) : Lib.cut (segS ax ay bx by_).data.toList (⟨#[44]⟩ : ByteArray).data.toList = ((nodeS ax ay).data.toList, (nodeS bx by_).data.toList, true) := by
  rw [seg_list]
  refine cut_at 44 _ _ ?_
  rw [node_list]
  intro h
  rw [List.mem_append, List.mem_cons] at h
  rcases h with h | h | h
  · exact itoa_no ax 44 (by decide) h
  · exact absurd h (by decide)
  · exact itoa_no ay 44 (by decide) h
end Go.Proofs.YtfchmikbebdflaaGreatDoor

namespace Go.Proofs.YtfchmikbebdflaaGreatDoor
open Go.RowKit Go.BigFrame
set_option maxRecDepth 20000 in
set_option maxHeartbeats 2000000 in
theorem segp_ok (s sa sb : ByteArray) (ax ay bx by_ : Int) (hs : s.size < 4294967281) (hc : Lib.cut s.data.toList (⟨#[44]⟩ : ByteArray).data.toList = (sa.data.toList, sb.data.toList, true)) (hseg : segB ax ay bx by_ = true)
    (HA : Hd (∀ w, Vars w → Calls Tryz.prog 81 #[.string sa] w fun e w' => e = .returned (.agg #[.int .i64 ax, .int .i64 ay]) ∧ Below w.heap.size w w'))
    (HB : Hd (∀ w, Vars w → Calls Tryz.prog 81 #[.string sb] w fun e w' => e = .returned (.agg #[.int .i64 bx, .int .i64 by_]) ∧ Below w.heap.size w w')) (w : World) (hV : Vars w) :
    Calls Tryz.prog 56 #[.string s] w fun e w' => e = .returned (.tuple #[.agg #[.int .i64 ax, .int .i64 ay, .int .i64 bx, .int .i64 by_], .int .i64 0]) ∧ Below w.heap.size w w' := by
  have hmf : ∀ (fn : Fn) (first cap : Array Value) (w : World), (Instr.makeFunc fn first cap).run Tryz.prog w = .ok (.func fn first cap) w := fun _ _ _ _ => rfl
  have HC : Hd (∀ w, Vars w → Calls Tryz.prog 79 #[.string s, .string ⟨#[44]⟩] w fun e w' => e = .returned (.tuple #[.string sa, .string sb, .bool true]) ∧ Below w.heap.size w w') := ⟨fun w hv => by
    have h := scut_any s ⟨#[44]⟩ w hs hv
    rw [hc] at h
    exact h⟩
  have HK : Hd (∀ w, Calls Tryz.prog 34 #[.agg #[.int .i64 ax, .int .i64 ay, .int .i64 bx, .int .i64 by_]] w fun e w' => e = .returned (.int .i64 0) ∧ Below w.heap.size w w') := ⟨fun w => by
    have h := seg_check ax ay bx by_ w
    rw [hseg] at h
    exact h⟩
  have HV := Hd.mk hV
  clear hs hc hV hseg
  go_enter_defers Tryz.func56, Tryz.ntmps56
  go_wp2_with fail
  refine (HC.out _ (HV.out.below (by focus (repeat (first | (with_reducible exact Below.refl _ _) | (with_reducible assumption) | ((with_reducible refine Below.setCell ?_ ?_ _); rotate_left; (focus (first | omega | (simp; done) | (simp; omega)))) | ((with_reducible refine Below.alloc ?_ ?_ _); rotate_left; (focus (first | omega | (simp; done) | (simp; omega)))) | (with_reducible refine Below.drew ?_) | (refine below_on ?_ (by assumption))))))).mono ?_
  rintro e w1 ⟨rfl, hb⟩
  have z0 := heap_below hb (heap_old (heap_new w (.cells #[.int .i64 0, .int .i64 0, .int .i64 0, .int .i64 0] 26)) _)
  have z1 := heap_below hb (heap_at (n := w.heap.size + 1) (by simp) (.cells #[.int .i64 0] 31))
  have hB : Below w.heap.size w w1 := below_on (by focus (repeat (first | (with_reducible exact Below.refl _ _) | (with_reducible assumption) | ((with_reducible refine Below.setCell ?_ ?_ _); rotate_left; (focus (first | omega | (simp; done) | (simp; omega)))) | ((with_reducible refine Below.alloc ?_ ?_ _); rotate_left; (focus (first | omega | (simp; done) | (simp; omega)))) | (with_reducible refine Below.drew ?_) | (refine below_on ?_ (by assumption))))) hb
  clear hb HC
  go_wp2_with (go_at_call 80; refine (seg_must_ok _ _).mono ?_; rintro e w4 ⟨rfl, rfl⟩)
  refine (HA.out _ (HV.out.below hB)).mono ?_
  rintro e w2 ⟨rfl, hb⟩
  have y0 := heap_below hb z0
  have y1 := heap_below hb z1
  have hB2 := below_on hB hb
  clear hb z0 z1 hB HA
  go_wp2_with fail
  refine (HB.out _ (HV.out.below hB2)).mono ?_
  rintro e w3 ⟨rfl, hb⟩
  have z0 := heap_below hb y0
  have z1 := heap_below hb y1
  have hB3 := below_on hB2 hb
  clear hb y0 y1 hB2 HB
  have c0 := cell_at z0
  have f0 := frozen_at z0
  go_upto_region 5 with (fail)
  refine abs_wp (fun W => W.heap[w.heap.size]? = some (.cells #[.int .i64 ax, .int .i64 ay, .int .i64 bx, .int .i64 by_] 26 (0, 0)) ∧ W.heap[w.heap.size + 1]? = some (.cells #[.int .i64 0] 31 (0, 0)) ∧ Below w.heap.size w W) ⟨by simpa using heap_set (heap_set (heap_set (heap_set z0 0 _) 1 _) 2 _) 3 _, heap_set_other (heap_set_other (heap_set_other (heap_set_other z1 (by simp) _) (by simp) _) (by simp) _) (by simp) _, by focus (repeat (first | (with_reducible exact Below.refl _ _) | (with_reducible assumption) | ((with_reducible refine Below.setCell ?_ ?_ _); rotate_left; (focus (first | omega | (simp; done) | (simp; omega)))) | ((with_reducible refine Below.alloc ?_ ?_ _); rotate_left; (focus (first | omega | (simp; done) | (simp; omega)))) | (with_reducible refine Below.drew ?_) | (refine below_on ?_ (by assumption))))⟩ fun W ⟨y0, y1, hB4⟩ => ?_
  clear z0 z1 hB3 c0 f0
  have c0 := cell_at y0
  go_wp2_with fail
  refine (HK.out _).mono ?_
  rintro e w5 ⟨rfl, hb⟩
  have z0 := heap_below hb y0
  have z1 := heap_below hb y1
  have hB5 := below_on hB4 hb
  clear hb y0 y1 hB4 HK c0
  have c0 := cell_at z0
  have f0 := frozen_at z0
  have c1 := cell_at z1
  have f1 := frozen_at z1
  go_wp2_with (go_at_call 80; refine (seg_must_ok _ _).mono ?_; rintro e w6 ⟨rfl, rfl⟩)
  refine leaves_cons (f := 77) (args := #[.pointer (some ⟨w.heap.size + 1, 0, none⟩), .func (.func 78) #[] #[.pointer (some ⟨w.heap.size, 0, none⟩)]]) (by simp) (by simp [go_sem]) ?_
  refine (seg_caught_idle _ _ _).mono ?_
  rintro e u' w7 ⟨rfl, rfl, rfl⟩
  refine abs_leaves (OutS w w.heap.size (w.heap.size + 1) #[.int .i64 ax, .int .i64 ay, .int .i64 bx, .int .i64 by_] 0) ⟨?_, ?_, by focus (repeat (first | (with_reducible exact Below.refl _ _) | (with_reducible assumption) | ((with_reducible refine Below.setCell ?_ ?_ _); rotate_left; (focus (first | omega | (simp; done) | (simp; omega)))) | ((with_reducible refine Below.alloc ?_ ?_ _); rotate_left; (focus (first | omega | (simp; done) | (simp; omega)))) | (with_reducible refine Below.drew ?_) | (refine below_on ?_ (by assumption))))⟩ fun W ⟨y1, y2, hB⟩ => ?_
  · refine heap_set_other ?_ (by simp) _
    simpa using heap_set (heap_set (heap_set (heap_set z0 0 (.int .i64 ax)) 1 (.int .i64 ay)) 2 (.int .i64 bx)) 3 (.int .i64 by_)
  · simpa using heap_set (heap_set_other (heap_set_other (heap_set_other (heap_set_other z1 (p := ⟨w.heap.size, 0, none⟩) (by simp) (.int .i64 ax)) (p := ⟨w.heap.size, 1, none⟩) (by simp) (.int .i64 ay)) (p := ⟨w.heap.size, 2, none⟩) (by simp) (.int .i64 bx)) (p := ⟨w.heap.size, 3, none⟩) (by simp) (.int .i64 by_)) 0 (.int .i64 0)
  have c1 := cell_at y1
  have c2 := cell_at y2
  simp [Leaves, settle, results, Tryz.results56, go_sem, c1, c2]
  exact hB
/-- Parse of Text is the segment. -/
theorem parse_text (ax ay bx by_ : Int) (hs : segB ax ay bx by_ = true) (w : World) (hV : Vars w) :
    Calls Tryz.prog 56 #[.string (segS ax ay bx by_)] w fun e w' => e = .returned (.tuple #[.agg #[.int .i64 ax, .int .i64 ay, .int .i64 bx, .int .i64 by_], .int .i64 0]) ∧ Below w.heap.size w w' := by
  have hs2 := hs
  unfold segB at hs2
  simp only [Bool.and_eq_true] at hs2
  obtain ⟨ha, hb, _⟩ := hs2
  have ra := node_range ha
  have rb := node_range hb
  have num : ∀ n : Int, -67108864 ≤ n ∧ n ≤ 67108864 → Hd (∀ w, Vars w → Calls Tryz.prog 101 #[.string (itS n)] w fun e w' => e = .returned (.int .i64 n) ∧ Below w.heap.size w w') := fun n hn => ⟨fun w hv => number_ok (itS n) n (Nat.le_trans (itS_size n (by omega) (by omega)) (by decide)) (by omega) (by omega) (parse_itoa n (by omega) (by omega)) rfl w hv⟩
  have nod : ∀ x y : Int, (-67108864 ≤ x ∧ x ≤ 67108864) → (-67108864 ≤ y ∧ y ≤ 67108864) → Hd (∀ w, Vars w → Calls Tryz.prog 81 #[.string (nodeS x y)] w fun e w' => e = .returned (.agg #[.int .i64 x, .int .i64 y]) ∧ Below w.heap.size w w') := fun x y hx hy => ⟨fun w hv => seg_node_ok (nodeS x y) (itS x) (itS y) x y (Nat.lt_of_le_of_lt (nodeS_size x y (by omega) (by omega)) (by decide)) (node_cut x y) (num x hx) (num y hy) w hv⟩
  refine segp_ok (segS ax ay bx by_) (nodeS ax ay) (nodeS bx by_) ax ay bx by_ ?_ (seg_cut ax ay bx by_) hs (nod ax ay ra.1 ra.2) (nod bx by_ rb.1 rb.2) w hV
  have h1 := nodeS_size ax ay (by omega) (by omega)
  have h2 := nodeS_size bx by_ (by omega) (by omega)
  unfold segS
  rw [ByteArray.size_append, ByteArray.size_append, show (⟨#[44]⟩ : ByteArray).size = 1 from rfl]
  omega
end Go.Proofs.YtfchmikbebdflaaGreatDoor

namespace Go.Proofs.YtfchmikbebdflaaGreatDoor

/-- Is a byte a digit? -/
def digU (c : UInt8) : Bool := decide (48 ≤ c.toNat) && decide (c.toNat ≤ 57)
/-- The number of digits. -/
def valU (l : List UInt8) : Nat := l.foldl (fun m c => 10 * m + (c.toNat - 48)) 0
theorem valU_snoc (l : List UInt8) (c : UInt8) : valU (l ++ [c]) = 10 * valU l + (c.toNat - 48) := by
  unfold valU
  rw [List.foldl_append]
  rfl
theorem digU_range {c : UInt8} (h : digU c = true) : 48 ≤ c.toNat ∧ c.toNat ≤ 57 := by
  unfold digU at h
  simpa using h
theorem rev_ind {P : List UInt8 → Prop} (h0 : P []) (h1 : ∀ l c, P l → P (l ++ [c])) (l : List UInt8) : P l := by
  have h : ∀ l : List UInt8, P l.reverse := by
    intro l
    induction l with
    | nil => exact h0
    | cons c l ih =>
      rw [List.reverse_cons]
      exact h1 _ _ ih
  have := h l.reverse
  rwa [List.reverse_reverse] at this
theorem valU_lt (l : List UInt8) : l.all digU = true → valU l < 10 ^ l.length := by
  refine rev_ind (P := fun l => l.all digU = true → valU l < 10 ^ l.length) ?_ ?_ l
  · intro _
    decide
  · intro l c ih h
    rw [List.all_append, Bool.and_eq_true] at h
    have h1 := ih h.1
    have h2 : digU c = true := by simpa using h.2
    have h3 := digU_range h2
    rw [valU_snoc, List.length_append, List.length_singleton, Nat.pow_succ]
    omega
theorem byte_of (c : UInt8) (h : digU c = true) : UInt8.ofNat (48 + (c.toNat - 48)) = c := by
  have h1 := digU_range h
  apply UInt8.toNat_inj.1
  rw [UInt8.toNat_ofNat']
  omega
/-- Digits that do not begin with a nought too many are their number's text. -/
theorem dec_valU (l : List UInt8) : l.all digU = true → l ≠ [] → (l.head? ≠ some 48 ∨ l.length = 1) → Lib.decDigits (valU l) = l ∧ (l.head? ≠ some 48 → 0 < valU l) := by
  refine rev_ind (P := fun l => l.all digU = true → l ≠ [] → (l.head? ≠ some 48 ∨ l.length = 1) → Lib.decDigits (valU l) = l ∧ (l.head? ≠ some 48 → 0 < valU l)) ?_ ?_ l
  · intro _ h
    exact absurd rfl h
  · intro l c ih h hne h0
    rw [List.all_append, Bool.and_eq_true] at h
    have h2 : digU c = true := by simpa using h.2
    have h3 := digU_range h2
    rw [valU_snoc]
    by_cases hl : l = []
    · subst hl
      have e : 10 * valU [] + (c.toNat - 48) = c.toNat - 48 := by
        show 10 * 0 + (c.toNat - 48) = _
        omega
      rw [e, Lib.decDigits, dif_pos (by omega), byte_of c h2]
      refine ⟨rfl, fun hh => ?_⟩
      have h4 : c ≠ 48 := fun e => hh (by rw [e]; rfl)
      have h5 : c.toNat ≠ 48 := fun e => h4 (UInt8.toNat_inj.1 (by rw [e]; rfl))
      omega
    · have hh : (l ++ [c]).head? = l.head? := by
        cases l with
        | nil => exact absurd rfl hl
        | cons a l => rfl
      have h48 : l.head? ≠ some 48 := by
        rcases h0 with h0 | h0
        · rw [hh] at h0
          exact h0
        · rw [List.length_append, List.length_singleton] at h0
          have : l.length = 0 := by omega
          exact absurd (List.eq_nil_of_length_eq_zero this) hl
      obtain ⟨i1, i2⟩ := ih h.1 hl (.inl h48)
      have i3 := i2 h48
      refine ⟨?_, fun _ => by omega⟩
      rw [Lib.decDigits, dif_neg (by omega), show (10 * valU l + (c.toNat - 48)) / 10 = valU l by omega, show (10 * valU l + (c.toNat - 48)) % 10 = c.toNat - 48 by omega, i1, byte_of c h2]
theorem dec_all (u : Nat) : (Lib.decDigits u).all digU = true := by
  rw [List.all_eq_true]
  intro c hc
  have := dec_byte u c hc
  unfold digU
  simpa using this
theorem valU_dec (u : Nat) : valU (Lib.decDigits u) = u := by
  induction u using Nat.strongRecOn with
  | _ u ih =>
    by_cases h : u < 10
    · rw [Lib.decDigits, dif_pos h]
      show 10 * 0 + ((UInt8.ofNat (48 + u)).toNat - 48) = u
      rw [digit_byte u h]
      omega
    · rw [Lib.decDigits, dif_neg h, valU_snoc, ih (u / 10) (by omega), digit_byte (u % 10) (by omega)]
      omega
theorem dec_head (u : Nat) : (Lib.decDigits u).head? ≠ some 48 ∨ (Lib.decDigits u).length = 1 := by
  induction u using Nat.strongRecOn with
  | _ u ih =>
    by_cases h : u < 10
    · rw [Lib.decDigits, dif_pos h]
      exact .inr rfl
    · left
      by_cases h2 : u / 10 < 10
      · rw [Lib.decDigits, dif_neg h, Lib.decDigits, dif_pos h2]
        show some (UInt8.ofNat (48 + u / 10)) ≠ some 48
        intro e
        have e2 := congrArg UInt8.toNat (Option.some.inj e)
        rw [digit_byte (u / 10) h2] at e2
        have : (48 : UInt8).toNat = 48 := by decide
        omega
      · have := ih (u / 10) (by omega)
        rw [Lib.decDigits, dif_neg h]
        have hne := dec_ne (u / 10)
        cases hd : Lib.decDigits (u / 10) with
        | nil => exact absurd hd hne
        | cons a l =>
          rw [hd] at this
          rcases this with h3 | h3
          · exact h3
          · exfalso
            have h4 := valU_lt (a :: l) (by rw [← hd]; exact dec_all _)
            rw [← hd, valU_dec, hd, h3] at h4
            omega
theorem dec_len {u k : Nat} (hk : 0 < k) (h : u < 10 ^ k) : (Lib.decDigits u).length ≤ k := by
  induction k generalizing u with
  | zero => omega
  | succ k ih =>
    by_cases h2 : u < 10
    · rw [Lib.decDigits, dif_pos h2]
      simp
    · rw [Lib.decDigits, dif_neg h2, List.length_append, List.length_singleton]
      have hk2 : 0 < k := by
        rcases Nat.eq_zero_or_pos k with rfl | h3
        · simp at h
          omega
        · exact h3
      have h5 : u / 10 < 10 ^ k := by
        rw [Nat.pow_succ] at h
        omega
      have := ih hk2 h5
      omega
/-- A byte of a text. -/
def bt (s : ByteArray) (k : Nat) : Int := ((s.data.toList.getD k 0).toNat : Int)
theorem get_bt (s : ByteArray) (k : Nat) (h : k < s.size) : ((s[k]'h).toNat : Int) = bt s k := by
  unfold bt
  have h1 : k < s.data.toList.length := by simpa using h
  rw [List.getD_eq_getElem?_getD, List.getElem?_eq_getElem h1]
  rfl
theorem bt_range (s : ByteArray) (k : Nat) : 0 ≤ bt s k ∧ bt s k < 256 := by
  unfold bt
  have := UInt8.toNat_lt (s.data.toList.getD k 0)
  omega
theorem size_list (s : ByteArray) : s.data.toList.length = s.size := by simp
end Go.Proofs.YtfchmikbebdflaaGreatDoor

namespace Go.Proofs.YtfchmikbebdflaaGreatDoor
open Go.RowKit Go.BigFrame
/-- Which digits are a number, and which one. -/
def goodU (neg : Bool) (d : List UInt8) : Bool := !d.isEmpty && (decide (d.length ≤ 9) && ((d.head? != some 48 || (d.length == 1 && !neg)) && d.all digU))
def valS (neg : Bool) (d : List UInt8) : Int := if goodU neg d then (if neg then -(valU d : Int) else (valU d : Int)) else 0
theorem bt_head (D : ByteArray) (h : 0 < D.size) : (D.data.toList.head? != some 48) = !(bt D 0 == 48) := by
  have h1 : 0 < D.data.toList.length := by simpa using h
  unfold bt
  cases hl : D.data.toList with
  | nil => rw [hl] at h1; cases h1
  | cons a l =>
    show (some a != some 48) = !(((a.toNat : Nat) : Int) == 48)
    have e : (a = 48) ↔ (((a.toNat : Nat) : Int) = 48) := by
      constructor
      · rintro rfl
        decide
      · intro h2
        apply UInt8.toNat_inj.1
        have : (48 : UInt8).toNat = 48 := by decide
        omega
    by_cases hh : a = 48
    · subst hh
      decide
    · have h3 : ¬ (((a.toNat : Nat) : Int) = 48) := fun h4 => hh (e.2 h4)
      have h5 : (some a != some 48) = true := by simpa using hh
      have h6 : (((a.toNat : Nat) : Int) == 48) = false := by simpa using h3
      rw [h5, h6]
      rfl
theorem bt_dig (D : ByteArray) (k : Nat) (h : k < D.size) : ∃ c, D.data.toList[k]? = some c ∧ bt D k = ((c.toNat : Nat) : Int) := by
  have h1 : k < D.data.toList.length := by simpa using h
  refine ⟨D.data.toList[k], List.getElem?_eq_getElem h1, ?_⟩
  unfold bt
  rw [List.getD_eq_getElem?_getD, List.getElem?_eq_getElem h1]
  rfl
theorem empty_bytes (D : ByteArray) : D.toList.isEmpty = decide (D.size = 0) := by
  rw [ByteArray.toList_eq]
  have : D.data.toList.length = D.size := by simp
  cases h : D.data.toList with
  | nil => rw [h] at this; simp at this; simp [← this]
  | cons a l => rw [h] at this; simp at this; simp [← this]
set_option maxRecDepth 20000 in
set_option maxHeartbeats 4000000 in
theorem number_none (s : ByteArray) (h0 : s.size = 0) (_hsz : s.size ≤ 1100000) (w : World) :
    Calls Tryz.prog 85 #[.string s] w fun e w' => e = .returned (.tuple #[.int .i64 (valS false s.data.toList), .bool (goodU false s.data.toList)]) ∧ w' = w := by
  have HG : Hd (goodU false s.data.toList = false) := ⟨by
    have : s.data.toList = [] := List.eq_nil_of_length_eq_zero (by simpa using h0)
    rw [this]; rfl⟩
  have HVS : Hd (valS false s.data.toList = 0) := ⟨by unfold valS; rw [HG.out]; rfl⟩
  have hemp : s.toList.isEmpty = true := by rw [empty_bytes]; simpa using h0
  go_enter Tryz.func85, Tryz.ntmps85
  go_wp2
  refine bodyPost_ret (by first | (simp [results, Tryz.results85, go_sem]; done) | (simp [results, Tryz.results85, go_sem]; rfl)) rfl ?_
  exact ⟨by first | (rw [HVS.out, HG.out]; done) | (rw [HVS.out, HG.out]; simp only [*]), rfl⟩
set_option maxRecDepth 20000 in
set_option maxHeartbeats 4000000 in
theorem number_plain (s : ByteArray) (h0 : 0 < s.size) (h45 : bt s 0 ≠ 45) (hsz : s.size ≤ 1100000) (w : World) :
    Calls Tryz.prog 85 #[.string s] w fun e w' => e = .returned (.tuple #[.int .i64 (valS false s.data.toList), .bool (goodU false s.data.toList)]) ∧ w' = w := by
  have hl0 : decide ((s.size : Int) > 0) = true := by simp; omega
  have hb0 := get_bt s 0 h0
  have hne : (bt s 0 == 45) = false := by simpa using h45
  have hDs : s.size ≤ 1100000 := hsz
  clear h45
  have HLEN : Hd (s.data.toList.length = s.size) := ⟨by simp⟩
  by_cases hz : s.size = 0
  · have HG : Hd (goodU false s.data.toList = false) := ⟨by
      have : s.data.toList = [] := List.eq_nil_of_length_eq_zero (by simpa using hz)
      rw [this]; rfl⟩
    have HVS : Hd (valS false s.data.toList = 0) := ⟨by unfold valS; rw [HG.out]; rfl⟩
    have hemp : s.toList.isEmpty = true := by rw [empty_bytes]; simpa using hz
    go_enter Tryz.func85, Tryz.ntmps85
    go_wp2
    refine bodyPost_ret (by first | (simp [results, Tryz.results85, go_sem]; done) | (simp [results, Tryz.results85, go_sem]; rfl)) rfl ?_
    exact ⟨by first | (rw [HVS.out, HG.out]; done) | (rw [HVS.out, HG.out]; simp only [*]), rfl⟩
  have hemp : s.toList.isEmpty = false := by rw [empty_bytes]; simpa using hz
  by_cases h9 : s.size > 9
  · have HG : Hd (goodU false s.data.toList = false) := ⟨by
      unfold goodU
      rw [HLEN.out, decide_eq_false (by omega : ¬ s.size ≤ 9)]
      simp⟩
    have HVS : Hd (valS false s.data.toList = 0) := ⟨by unfold valS; rw [HG.out]; rfl⟩
    have hd9 : decide ((s.size : Int) > 9) = true := by simp; omega
    go_enter Tryz.func85, Tryz.ntmps85
    go_wp2
    refine bodyPost_ret (by first | (simp [results, Tryz.results85, go_sem]; done) | (simp [results, Tryz.results85, go_sem]; rfl)) rfl ?_
    exact ⟨by first | (rw [HVS.out, HG.out]; done) | (rw [HVS.out, HG.out]; simp only [*]), rfl⟩
  have hd9 : decide ((s.size : Int) > 9) = false := by simp; omega
  have hp : 0 < s.size := by omega
  have hbD := get_bt s 0 hp
  have HHD := Hd.mk (bt_head s hp)
  by_cases h48 : bt s 0 = 48
  · rw [h48] at hbD hb0
    clear hne
    by_cases hg1 : s.size > 1
    · have hd11 : decide ((s.size : Int) > 1) = true := by simp; omega
      have HG : Hd (goodU false s.data.toList = false) := ⟨by
        unfold goodU
        rw [HHD.out, h48, HLEN.out, show (s.size == 1) = false by simp; omega]
        simp⟩
      have HVS : Hd (valS false s.data.toList = 0) := ⟨by unfold valS; rw [HG.out]; rfl⟩
      go_enter Tryz.func85, Tryz.ntmps85
      go_wp2
      all_goals
        refine bodyPost_ret (by first | (simp [results, Tryz.results85, go_sem]; done) | (simp [results, Tryz.results85, go_sem]; rfl)) rfl ?_
        exact ⟨by first | (rw [HVS.out, HG.out]; done) | (rw [HVS.out, HG.out]; simp only [*]), rfl⟩
    have hd11 : decide ((s.size : Int) > 1) = false := by simp; omega
    have HOK : Hd ((s.data.toList.head? != some 48 || (s.data.toList.length == 1 && !false)) = true) := ⟨by rw [HLEN.out, show (s.size == 1) = true by simp; omega]; simp⟩
    have hok : (s.data.toList.head? != some 48 || (s.data.toList.length == 1 && !false)) = true := HOK.out
    have HGA : Hd (goodU false s.data.toList = s.data.toList.all digU) := ⟨by
      unfold goodU
      rw [hok, HLEN.out, decide_eq_true (by omega : s.size ≤ 9)]
      have : s.data.toList.isEmpty = false := by
        cases hl : s.data.toList with
        | nil =>
          have := HLEN.out
          rw [hl] at this
          simp at this
          omega
        | cons a l => rfl
      rw [this]
      rfl⟩
    clear hok HOK HHD
    go_enter Tryz.func85, Tryz.ntmps85
    go_upto_region 8 with (fail)
    go_wp2
    clear hbD
    go_loopw [6, 7] (fun nv iv wr => ∃ k : Nat, k ≤ s.size ∧ iv = .int .i64 k ∧ nv = .int .i64 (valU (s.data.toList.take k)) ∧ Hd ((s.data.toList.take k).all digU = true) ∧ wr = w) (fun _ iv _ => s.size - (intOf iv).toNat)
    case atStart => exact ⟨0, Nat.zero_le _, rfl, rfl, ⟨rfl⟩, rfl⟩
    case round =>
      obtain ⟨k, hk, rfl, rfl, HK, rfl⟩ := hrel
      by_cases hlt : k < s.size
      · have hd1 : decide ((k : Int) < (s.size : Int)) = true := by simp; omega
        obtain ⟨c, hc, hbc⟩ := bt_dig s k hlt
        have hgk := (get_bt s k hlt).trans hbc
        have HC := Hd.mk hc
        clear hc hbc
        by_cases h1 : c.toNat < 48
        · have hd2 : decide (((c.toNat : Nat) : Int) < 48) = true := by simp; omega
          have HG : Hd (goodU false s.data.toList = false) := ⟨by
            rw [HGA.out, List.all_eq_false]
            refine ⟨c, List.mem_of_getElem? HC.out, ?_⟩
            unfold digU
            simp
            omega⟩
          have HVS : Hd (valS false s.data.toList = 0) := ⟨by unfold valS; rw [HG.out]; rfl⟩
          clear h1
          go_wp2
          refine bodyPost_ret (by first | (simp [results, Tryz.results85, go_sem]; done) | (simp [results, Tryz.results85, go_sem]; rfl)) rfl ?_
          exact ⟨by first | (rw [HVS.out, HG.out]; done) | (rw [HVS.out, HG.out]; simp only [*]), rfl⟩
        · have hd2 : decide (((c.toNat : Nat) : Int) < 48) = false := by simp; omega
          by_cases h2 : c.toNat > 57
          · have hd3 : decide (((c.toNat : Nat) : Int) > 57) = true := by simp; omega
            have HG : Hd (goodU false s.data.toList = false) := ⟨by
              rw [HGA.out, List.all_eq_false]
              refine ⟨c, List.mem_of_getElem? HC.out, ?_⟩
              unfold digU
              simp
              omega⟩
            have HVS : Hd (valS false s.data.toList = 0) := ⟨by unfold valS; rw [HG.out]; rfl⟩
            clear h1 h2
            go_wp2
            refine bodyPost_ret (by first | (simp [results, Tryz.results85, go_sem]; done) | (simp [results, Tryz.results85, go_sem]; rfl)) rfl ?_
            exact ⟨by first | (rw [HVS.out, HG.out]; done) | (rw [HVS.out, HG.out]; simp only [*]), rfl⟩
          · have hd3 : decide (((c.toNat : Nat) : Int) > 57) = false := by simp; omega
            have hdc : digU c = true := by unfold digU; simp; omega
            have htk : s.data.toList.take (k + 1) = s.data.toList.take k ++ [c] := by
              rw [List.take_add_one, HC.out]
              rfl
            have HK2 : Hd ((s.data.toList.take (k + 1)).all digU = true) := ⟨by
              rw [htk, List.all_append, HK.out]
              simpa using hdc⟩
            have hv := valU_snoc (s.data.toList.take k) c
            rw [← htk] at hv
            have hv9 := valU_lt _ HK.out
            have hv8 : (10 : Nat) ^ (s.data.toList.take k).length ≤ 10 ^ 9 := Nat.pow_le_pow_right (by decide) (by rw [List.length_take, HLEN.out]; omega)
            have hvb : valU (s.data.toList.take k) < 10 ^ 9 := Nat.lt_of_lt_of_le hv9 hv8
            have hw1 : wrap64 (10 * (valU (s.data.toList.take k) : Int)) = 10 * (valU (s.data.toList.take k) : Int) := by unfold wrap64; omega
            have hw3 : wrap64 (10 * (valU (s.data.toList.take k) : Int) + ((((c.toNat : Nat) : Int) - 48) % 256)) = (valU (s.data.toList.take (k + 1)) : Int) := by
              rw [hv]
              unfold wrap64
              omega
            have HW := Hd.mk (And.intro hw1 hw3)
            clear h1 h2 hdc htk hv hv9 hv8 hvb hw1 hw3
            go_wp2
            go_roundw
            case rel =>
              refine ⟨k + 1, by omega, by go_num, ?_, HK2, by first | rfl | trivial⟩
              simp only [HW.out.1, HW.out.2]
            case measure => simp [intOf]; omega
      · have hkk : k = s.size := by omega
        have hd1 : decide ((k : Int) < (s.size : Int)) = false := by simp; omega
        have hall : s.data.toList.take k = s.data.toList := List.take_of_length_le (by rw [HLEN.out]; omega)
        rw [hall] at HK ⊢
        have HG : Hd (goodU false s.data.toList = true) := ⟨by rw [HGA.out]; exact HK.out⟩
        have hv9 := valU_lt _ HK.out
        have hv8 : (10 : Nat) ^ (s.data.toList).length ≤ 10 ^ 9 := Nat.pow_le_pow_right (by decide) (by rw [HLEN.out]; omega)
        have hvb : valU (s.data.toList) < 10 ^ 9 := Nat.lt_of_lt_of_le hv9 hv8
        have HVS : Hd (valS false s.data.toList = (valU s.data.toList : Int)) := ⟨by unfold valS; rw [HG.out]; rfl⟩
        have hwn : wrap64 (-(valU s.data.toList : Int)) = -(valU s.data.toList : Int) := by unfold wrap64; omega
        clear hkk hall hv9 hv8 hvb
        go_wp2
        refine bodyPost_ret (by first | (simp [results, Tryz.results85, go_sem]; done) | (simp [results, Tryz.results85, go_sem]; rfl)) rfl ?_
        exact ⟨by first | (rw [HVS.out, HG.out]; done) | (rw [HVS.out, HG.out]; simp only [*]), rfl⟩
  have hx48 : (bt s 0 == 48) = false := by simpa using h48
  have HOK : Hd ((s.data.toList.head? != some 48 || (s.data.toList.length == 1 && !false)) = true) := ⟨by rw [HHD.out, hx48]; rfl⟩
  clear h48
  have hok : (s.data.toList.head? != some 48 || (s.data.toList.length == 1 && !false)) = true := HOK.out
  have HGA : Hd (goodU false s.data.toList = s.data.toList.all digU) := ⟨by
    unfold goodU
    rw [hok, HLEN.out, decide_eq_true (by omega : s.size ≤ 9)]
    have : s.data.toList.isEmpty = false := by
      cases hl : s.data.toList with
      | nil =>
        have := HLEN.out
        rw [hl] at this
        simp at this
        omega
      | cons a l => rfl
    rw [this]
    rfl⟩
  clear hok HOK HHD
  go_enter Tryz.func85, Tryz.ntmps85
  go_upto_region 8 with (fail)
  go_wp2
  clear hbD
  go_loopw [6, 7] (fun nv iv wr => ∃ k : Nat, k ≤ s.size ∧ iv = .int .i64 k ∧ nv = .int .i64 (valU (s.data.toList.take k)) ∧ Hd ((s.data.toList.take k).all digU = true) ∧ wr = w) (fun _ iv _ => s.size - (intOf iv).toNat)
  case atStart => exact ⟨0, Nat.zero_le _, rfl, rfl, ⟨rfl⟩, rfl⟩
  case round =>
    obtain ⟨k, hk, rfl, rfl, HK, rfl⟩ := hrel
    by_cases hlt : k < s.size
    · have hd1 : decide ((k : Int) < (s.size : Int)) = true := by simp; omega
      obtain ⟨c, hc, hbc⟩ := bt_dig s k hlt
      have hgk := (get_bt s k hlt).trans hbc
      have HC := Hd.mk hc
      clear hc hbc
      by_cases h1 : c.toNat < 48
      · have hd2 : decide (((c.toNat : Nat) : Int) < 48) = true := by simp; omega
        have HG : Hd (goodU false s.data.toList = false) := ⟨by
          rw [HGA.out, List.all_eq_false]
          refine ⟨c, List.mem_of_getElem? HC.out, ?_⟩
          unfold digU
          simp
          omega⟩
        have HVS : Hd (valS false s.data.toList = 0) := ⟨by unfold valS; rw [HG.out]; rfl⟩
        clear h1
        go_wp2
        refine bodyPost_ret (by first | (simp [results, Tryz.results85, go_sem]; done) | (simp [results, Tryz.results85, go_sem]; rfl)) rfl ?_
        exact ⟨by first | (rw [HVS.out, HG.out]; done) | (rw [HVS.out, HG.out]; simp only [*]), rfl⟩
      · have hd2 : decide (((c.toNat : Nat) : Int) < 48) = false := by simp; omega
        by_cases h2 : c.toNat > 57
        · have hd3 : decide (((c.toNat : Nat) : Int) > 57) = true := by simp; omega
          have HG : Hd (goodU false s.data.toList = false) := ⟨by
            rw [HGA.out, List.all_eq_false]
            refine ⟨c, List.mem_of_getElem? HC.out, ?_⟩
            unfold digU
            simp
            omega⟩
          have HVS : Hd (valS false s.data.toList = 0) := ⟨by unfold valS; rw [HG.out]; rfl⟩
          clear h1 h2
          go_wp2
          refine bodyPost_ret (by first | (simp [results, Tryz.results85, go_sem]; done) | (simp [results, Tryz.results85, go_sem]; rfl)) rfl ?_
          exact ⟨by first | (rw [HVS.out, HG.out]; done) | (rw [HVS.out, HG.out]; simp only [*]), rfl⟩
        · have hd3 : decide (((c.toNat : Nat) : Int) > 57) = false := by simp; omega
          have hdc : digU c = true := by unfold digU; simp; omega
          have htk : s.data.toList.take (k + 1) = s.data.toList.take k ++ [c] := by
            rw [List.take_add_one, HC.out]
            rfl
          have HK2 : Hd ((s.data.toList.take (k + 1)).all digU = true) := ⟨by
            rw [htk, List.all_append, HK.out]
            simpa using hdc⟩
          have hv := valU_snoc (s.data.toList.take k) c
          rw [← htk] at hv
          have hv9 := valU_lt _ HK.out
          have hv8 : (10 : Nat) ^ (s.data.toList.take k).length ≤ 10 ^ 9 := Nat.pow_le_pow_right (by decide) (by rw [List.length_take, HLEN.out]; omega)
          have hvb : valU (s.data.toList.take k) < 10 ^ 9 := Nat.lt_of_lt_of_le hv9 hv8
          have hw1 : wrap64 (10 * (valU (s.data.toList.take k) : Int)) = 10 * (valU (s.data.toList.take k) : Int) := by unfold wrap64; omega
          have hw3 : wrap64 (10 * (valU (s.data.toList.take k) : Int) + ((((c.toNat : Nat) : Int) - 48) % 256)) = (valU (s.data.toList.take (k + 1)) : Int) := by
            rw [hv]
            unfold wrap64
            omega
          have HW := Hd.mk (And.intro hw1 hw3)
          clear h1 h2 hdc htk hv hv9 hv8 hvb hw1 hw3
          go_wp2
          go_roundw
          case rel =>
            refine ⟨k + 1, by omega, by go_num, ?_, HK2, by first | rfl | trivial⟩
            simp only [HW.out.1, HW.out.2]
          case measure => simp [intOf]; omega
    · have hkk : k = s.size := by omega
      have hd1 : decide ((k : Int) < (s.size : Int)) = false := by simp; omega
      have hall : s.data.toList.take k = s.data.toList := List.take_of_length_le (by rw [HLEN.out]; omega)
      rw [hall] at HK ⊢
      have HG : Hd (goodU false s.data.toList = true) := ⟨by rw [HGA.out]; exact HK.out⟩
      have hv9 := valU_lt _ HK.out
      have hv8 : (10 : Nat) ^ (s.data.toList).length ≤ 10 ^ 9 := Nat.pow_le_pow_right (by decide) (by rw [HLEN.out]; omega)
      have hvb : valU (s.data.toList) < 10 ^ 9 := Nat.lt_of_lt_of_le hv9 hv8
      have HVS : Hd (valS false s.data.toList = (valU s.data.toList : Int)) := ⟨by unfold valS; rw [HG.out]; rfl⟩
      have hwn : wrap64 (-(valU s.data.toList : Int)) = -(valU s.data.toList : Int) := by unfold wrap64; omega
      clear hkk hall hv9 hv8 hvb
      go_wp2
      refine bodyPost_ret (by first | (simp [results, Tryz.results85, go_sem]; done) | (simp [results, Tryz.results85, go_sem]; rfl)) rfl ?_
      exact ⟨by first | (rw [HVS.out, HG.out]; done) | (rw [HVS.out, HG.out]; simp only [*]), rfl⟩
set_option maxRecDepth 20000 in
set_option maxHeartbeats 4000000 in
theorem number_neg (s : ByteArray) (D : ByteArray) (h0 : 0 < s.size) (h45 : bt s 0 = 45) (hD : s.extract 1 s.size = D) (hsz : s.size ≤ 1100000) (w : World) :
    Calls Tryz.prog 85 #[.string s] w fun e w' => e = .returned (.tuple #[.int .i64 (valS true D.data.toList), .bool (goodU true D.data.toList)]) ∧ w' = w := by
  have hl0 : decide ((s.size : Int) > 0) = true := by simp; omega
  have hb0 := get_bt s 0 h0
  rw [h45] at hb0
  have hl1 : (1 : Int) ≤ (s.size : Int) := by omega
  have hDs : D.size ≤ 1100000 := by
    rw [← hD, ByteArray.size_extract]
    omega
  clear h45
  have HLEN : Hd (D.data.toList.length = D.size) := ⟨by simp⟩
  by_cases hz : D.size = 0
  · have HG : Hd (goodU true D.data.toList = false) := ⟨by
      have : D.data.toList = [] := List.eq_nil_of_length_eq_zero (by simpa using hz)
      rw [this]; rfl⟩
    have HVS : Hd (valS true D.data.toList = 0) := ⟨by unfold valS; rw [HG.out]; rfl⟩
    have hemp : D.toList.isEmpty = true := by rw [empty_bytes]; simpa using hz
    go_enter Tryz.func85, Tryz.ntmps85
    go_wp2
    refine bodyPost_ret (by first | (simp [results, Tryz.results85, go_sem]; done) | (simp [results, Tryz.results85, go_sem]; rfl)) rfl ?_
    exact ⟨by first | (rw [HVS.out, HG.out]; done) | (rw [HVS.out, HG.out]; simp only [*]), rfl⟩
  have hemp : D.toList.isEmpty = false := by rw [empty_bytes]; simpa using hz
  by_cases h9 : D.size > 9
  · have HG : Hd (goodU true D.data.toList = false) := ⟨by
      unfold goodU
      rw [HLEN.out, decide_eq_false (by omega : ¬ D.size ≤ 9)]
      simp⟩
    have HVS : Hd (valS true D.data.toList = 0) := ⟨by unfold valS; rw [HG.out]; rfl⟩
    have hd9 : decide ((D.size : Int) > 9) = true := by simp; omega
    go_enter Tryz.func85, Tryz.ntmps85
    go_wp2
    refine bodyPost_ret (by first | (simp [results, Tryz.results85, go_sem]; done) | (simp [results, Tryz.results85, go_sem]; rfl)) rfl ?_
    exact ⟨by first | (rw [HVS.out, HG.out]; done) | (rw [HVS.out, HG.out]; simp only [*]), rfl⟩
  have hd9 : decide ((D.size : Int) > 9) = false := by simp; omega
  have hp : 0 < D.size := by omega
  have hbD := get_bt D 0 hp
  have HHD := Hd.mk (bt_head D hp)
  by_cases h48 : bt D 0 = 48
  · rw [h48] at hbD
    have HG : Hd (goodU true D.data.toList = false) := ⟨by
      unfold goodU
      rw [HHD.out, h48]
      simp⟩
    have HVS : Hd (valS true D.data.toList = 0) := ⟨by unfold valS; rw [HG.out]; rfl⟩
    go_enter Tryz.func85, Tryz.ntmps85
    go_wp2
    all_goals
      refine bodyPost_ret (by first | (simp [results, Tryz.results85, go_sem]; done) | (simp [results, Tryz.results85, go_sem]; rfl)) rfl ?_
      exact ⟨by first | (rw [HVS.out, HG.out]; done) | (rw [HVS.out, HG.out]; simp only [*]), rfl⟩
  have hx48 : (bt D 0 == 48) = false := by simpa using h48
  have HOK : Hd ((D.data.toList.head? != some 48 || (D.data.toList.length == 1 && !true)) = true) := ⟨by rw [HHD.out, hx48]; rfl⟩
  clear h48
  have hok : (D.data.toList.head? != some 48 || (D.data.toList.length == 1 && !true)) = true := HOK.out
  have HGA : Hd (goodU true D.data.toList = D.data.toList.all digU) := ⟨by
    unfold goodU
    rw [hok, HLEN.out, decide_eq_true (by omega : D.size ≤ 9)]
    have : D.data.toList.isEmpty = false := by
      cases hl : D.data.toList with
      | nil =>
        have := HLEN.out
        rw [hl] at this
        simp at this
        omega
      | cons a l => rfl
    rw [this]
    rfl⟩
  clear hok HOK HHD
  go_enter Tryz.func85, Tryz.ntmps85
  go_upto_region 8 with (fail)
  go_wp2
  clear hbD
  go_loopw [6, 7] (fun nv iv wr => ∃ k : Nat, k ≤ D.size ∧ iv = .int .i64 k ∧ nv = .int .i64 (valU (D.data.toList.take k)) ∧ Hd ((D.data.toList.take k).all digU = true) ∧ wr = w) (fun _ iv _ => D.size - (intOf iv).toNat)
  case atStart => exact ⟨0, Nat.zero_le _, rfl, rfl, ⟨rfl⟩, rfl⟩
  case round =>
    obtain ⟨k, hk, rfl, rfl, HK, rfl⟩ := hrel
    by_cases hlt : k < D.size
    · have hd1 : decide ((k : Int) < (D.size : Int)) = true := by simp; omega
      obtain ⟨c, hc, hbc⟩ := bt_dig D k hlt
      have hgk := (get_bt D k hlt).trans hbc
      have HC := Hd.mk hc
      clear hc hbc
      by_cases h1 : c.toNat < 48
      · have hd2 : decide (((c.toNat : Nat) : Int) < 48) = true := by simp; omega
        have HG : Hd (goodU true D.data.toList = false) := ⟨by
          rw [HGA.out, List.all_eq_false]
          refine ⟨c, List.mem_of_getElem? HC.out, ?_⟩
          unfold digU
          simp
          omega⟩
        have HVS : Hd (valS true D.data.toList = 0) := ⟨by unfold valS; rw [HG.out]; rfl⟩
        clear h1
        go_wp2
        refine bodyPost_ret (by first | (simp [results, Tryz.results85, go_sem]; done) | (simp [results, Tryz.results85, go_sem]; rfl)) rfl ?_
        exact ⟨by first | (rw [HVS.out, HG.out]; done) | (rw [HVS.out, HG.out]; simp only [*]), rfl⟩
      · have hd2 : decide (((c.toNat : Nat) : Int) < 48) = false := by simp; omega
        by_cases h2 : c.toNat > 57
        · have hd3 : decide (((c.toNat : Nat) : Int) > 57) = true := by simp; omega
          have HG : Hd (goodU true D.data.toList = false) := ⟨by
            rw [HGA.out, List.all_eq_false]
            refine ⟨c, List.mem_of_getElem? HC.out, ?_⟩
            unfold digU
            simp
            omega⟩
          have HVS : Hd (valS true D.data.toList = 0) := ⟨by unfold valS; rw [HG.out]; rfl⟩
          clear h1 h2
          go_wp2
          refine bodyPost_ret (by first | (simp [results, Tryz.results85, go_sem]; done) | (simp [results, Tryz.results85, go_sem]; rfl)) rfl ?_
          exact ⟨by first | (rw [HVS.out, HG.out]; done) | (rw [HVS.out, HG.out]; simp only [*]), rfl⟩
        · have hd3 : decide (((c.toNat : Nat) : Int) > 57) = false := by simp; omega
          have hdc : digU c = true := by unfold digU; simp; omega
          have htk : D.data.toList.take (k + 1) = D.data.toList.take k ++ [c] := by
            rw [List.take_add_one, HC.out]
            rfl
          have HK2 : Hd ((D.data.toList.take (k + 1)).all digU = true) := ⟨by
            rw [htk, List.all_append, HK.out]
            simpa using hdc⟩
          have hv := valU_snoc (D.data.toList.take k) c
          rw [← htk] at hv
          have hv9 := valU_lt _ HK.out
          have hv8 : (10 : Nat) ^ (D.data.toList.take k).length ≤ 10 ^ 9 := Nat.pow_le_pow_right (by decide) (by rw [List.length_take, HLEN.out]; omega)
          have hvb : valU (D.data.toList.take k) < 10 ^ 9 := Nat.lt_of_lt_of_le hv9 hv8
          have hw1 : wrap64 (10 * (valU (D.data.toList.take k) : Int)) = 10 * (valU (D.data.toList.take k) : Int) := by unfold wrap64; omega
          have hw3 : wrap64 (10 * (valU (D.data.toList.take k) : Int) + ((((c.toNat : Nat) : Int) - 48) % 256)) = (valU (D.data.toList.take (k + 1)) : Int) := by
            rw [hv]
            unfold wrap64
            omega
          have HW := Hd.mk (And.intro hw1 hw3)
          clear h1 h2 hdc htk hv hv9 hv8 hvb hw1 hw3
          go_wp2
          go_roundw
          case rel =>
            refine ⟨k + 1, by omega, by go_num, ?_, HK2, by first | rfl | trivial⟩
            simp only [HW.out.1, HW.out.2]
          case measure => simp [intOf]; omega
    · have hkk : k = D.size := by omega
      have hd1 : decide ((k : Int) < (D.size : Int)) = false := by simp; omega
      have hall : D.data.toList.take k = D.data.toList := List.take_of_length_le (by rw [HLEN.out]; omega)
      rw [hall] at HK ⊢
      have HG : Hd (goodU true D.data.toList = true) := ⟨by rw [HGA.out]; exact HK.out⟩
      have hv9 := valU_lt _ HK.out
      have hv8 : (10 : Nat) ^ (D.data.toList).length ≤ 10 ^ 9 := Nat.pow_le_pow_right (by decide) (by rw [HLEN.out]; omega)
      have hvb : valU (D.data.toList) < 10 ^ 9 := Nat.lt_of_lt_of_le hv9 hv8
      have HVS : Hd (valS true D.data.toList = -(valU D.data.toList : Int)) := ⟨by unfold valS; rw [HG.out]; rfl⟩
      have hwn : wrap64 (-(valU D.data.toList : Int)) = -(valU D.data.toList : Int) := by unfold wrap64; omega
      clear hkk hall hv9 hv8 hvb
      go_wp2
      refine bodyPost_ret (by first | (simp [results, Tryz.results85, go_sem]; done) | (simp [results, Tryz.results85, go_sem]; rfl)) rfl ?_
      exact ⟨by first | (rw [HVS.out, HG.out]; done) | (rw [HVS.out, HG.out]; simp only [*]), rfl⟩
end Go.Proofs.YtfchmikbebdflaaGreatDoor
