/-
  Walks of seg: Parse of a segment's text. Conditions stand in each theorem.
-/
import Derived.Test.YtbhfnfokihdjjaaGreatDoorWd3
import Derived.Test.YtbhfnfokihdjjaaGreatDoorBq
import Derived.Test.YtbhfnfokihdjjaaGreatDoorTs3
namespace Go.Proofs.YtbhfnfokihdjjaaGreatDoor
open Go.RowKit Go.BigFrame

set_option maxRecDepth 20000 in
set_option maxHeartbeats 1000000 in
theorem seg_node_ok (s sx sy : ByteArray) (x y : Int) (hs : s.size < 4294967281) (hc : Lib.cut s.data.toList (⟨#[32]⟩ : ByteArray).data.toList = (sx.data.toList, sy.data.toList, true))
    (HX : Hd (∀ w, Vars w → Calls Tryz.prog 96 #[.string sx] w fun e w' => e = .returned (.int .i64 x) ∧ Below w.heap.size w w'))
    (HY : Hd (∀ w, Vars w → Calls Tryz.prog 96 #[.string sy] w fun e w' => e = .returned (.int .i64 y) ∧ Below w.heap.size w w')) (w : World) (hV : Vars w) :
    Calls Tryz.prog 67 #[.string s] w fun e w' => e = .returned (.agg #[.int .i64 x, .int .i64 y]) ∧ Below w.heap.size w w' := by
  have HC : Hd (∀ w, Vars w → Calls Tryz.prog 66 #[.string s, .string ⟨#[32]⟩] w fun e w' => e = .returned (.tuple #[.string sx, .string sy, .bool true]) ∧ Below w.heap.size w w') := ⟨fun w hv => by
    have h := scut_any s ⟨#[32]⟩ w hs hv
    rw [hc] at h
    exact h⟩
  have HV := Hd.mk hV
  clear hs hc hV
  go_enter Tryz.func67, Tryz.ntmps67
  go_wp2_with fail
  refine (HC.out _ (HV.out.below (by focus (repeat (first | (with_reducible exact Below.refl _ _) | (with_reducible assumption) | ((with_reducible refine Below.setCell ?_ ?_ _); rotate_left; (focus (first | omega | (simp; done) | (simp; omega)))) | ((with_reducible refine Below.alloc ?_ ?_ _); rotate_left; (focus (first | omega | (simp; done) | (simp; omega)))) | (with_reducible refine Below.drew ?_) | (refine below_on ?_ (by assumption))))))).mono ?_
  rintro e w1 ⟨rfl, hb⟩
  have z0 := heap_below hb (heap_new w (.cells #[.int .i64 0, .int .i64 0] 23))
  have hB : Below w.heap.size w w1 := below_on (by focus (repeat (first | (with_reducible exact Below.refl _ _) | (with_reducible assumption) | ((with_reducible refine Below.setCell ?_ ?_ _); rotate_left; (focus (first | omega | (simp; done) | (simp; omega)))) | ((with_reducible refine Below.alloc ?_ ?_ _); rotate_left; (focus (first | omega | (simp; done) | (simp; omega)))) | (with_reducible refine Below.drew ?_) | (refine below_on ?_ (by assumption))))) hb
  clear hb HC
  go_wp2_with (go_at_call 48; refine (seg_must_ok _ _).mono ?_; rintro e w4 ⟨rfl, rfl⟩)
  refine (HX.out _ (HV.out.below hB)).mono ?_
  rintro e w2 ⟨rfl, hb⟩
  have z1 := heap_below hb z0
  have hB2 := below_on hB hb
  clear hb z0 hB HX
  go_wp2_with fail
  refine (HY.out _ (HV.out.below hB2)).mono ?_
  rintro e w3 ⟨rfl, hb⟩
  have z2 := heap_below hb z1
  have hB3 := below_on hB2 hb
  clear hb z1 hB2 HY
  go_wp2_with (refine wpList_store_block rfl 23 (.tmp 2) (.tmp 18) rfl w.heap.size #[.int .i64 x, .int .i64 y] rfl rfl z2 rfl (by kernel_rfl) rfl ?_; rintro W2 ⟨k1, k2, k3⟩; have hF := hB3.trans (k3 _ (Nat.le_refl _)); clear z2 hB3 k2 k3)
  have c1 := cell_at k1
  exact bodyPost_ret (by simp [results, Tryz.results67, go_sem, Act.put, c1] <;> rfl) rfl ⟨rfl, hF⟩
/-- What a segment and an errno named as results hold. -/
def OutS (w : World) (b d : Nat) (cs : Array Value) (n : Int) (W : World) : Prop :=
  W.heap[b]? = some (.cells cs 25 (0, 0)) ∧ W.heap[d]? = some (.cells #[.int .i64 n] 26 (0, 0)) ∧ Below w.heap.size w W
theorem clear_segp {W : World} {b : Nat} {c : Array Value} (h : W.heap[b]? = some (.cells c 25 (0, 0))) (hs : c.size = 4) :
    Calls Tryz.prog 65 #[.pointer (some ⟨b, 0, none⟩)] W fun e w' => e = .returned (.tuple #[]) ∧ Wr b #[.int .i64 0, .int .i64 0, .int .i64 0, .int .i64 0] 25 W w' := by
  go_enter Tryz.func65, Tryz.ntmps65
  go_wp2_with (refine wpList_store_block rfl 25 (.tmp 0) (.tmp 1) rfl b #[.int .i64 0, .int .i64 0, .int .i64 0, .int .i64 0] rfl rfl h hs (by kernel_rfl) rfl ?_; rintro W2 hW)
  go_end0
  exact ⟨rfl, hW⟩
set_option maxRecDepth 20000 in
set_option maxHeartbeats 2000000 in
theorem segp_none (s sa sb : ByteArray) (ax ay bx by_ : Int) (hs : s.size < 4294967281) (hc : Lib.cut s.data.toList (⟨#[44]⟩ : ByteArray).data.toList = (sa.data.toList, sb.data.toList, true)) (hseg : segB ax ay bx by_ = false)
    (HA : Hd (∀ w, Vars w → Calls Tryz.prog 67 #[.string sa] w fun e w' => e = .returned (.agg #[.int .i64 ax, .int .i64 ay]) ∧ Below w.heap.size w w'))
    (HB : Hd (∀ w, Vars w → Calls Tryz.prog 67 #[.string sb] w fun e w' => e = .returned (.agg #[.int .i64 bx, .int .i64 by_]) ∧ Below w.heap.size w w')) (w : World) (hV : Vars w) :
    Calls Tryz.prog 31 #[.string s] w fun e w' => e = .returned (.tuple #[.agg #[.int .i64 0, .int .i64 0, .int .i64 0, .int .i64 0], .int .i64 140]) ∧ Below w.heap.size w w' := by
  have hmf : ∀ (fn : Fn) (first cap : Array Value) (w : World), (Instr.makeFunc fn first cap).run Tryz.prog w = .ok (.func fn first cap) w := fun _ _ _ _ => rfl
  have HC : Hd (∀ w, Vars w → Calls Tryz.prog 66 #[.string s, .string ⟨#[44]⟩] w fun e w' => e = .returned (.tuple #[.string sa, .string sb, .bool true]) ∧ Below w.heap.size w w') := ⟨fun w hv => by
    have h := scut_any s ⟨#[44]⟩ w hs hv
    rw [hc] at h
    exact h⟩
  have HK : Hd (∀ w, Calls Tryz.prog 14 #[.agg #[.int .i64 ax, .int .i64 ay, .int .i64 bx, .int .i64 by_]] w fun e w' => e = .returned (.int .i64 2) ∧ Below w.heap.size w w') := ⟨fun w => by
    have h := seg_check ax ay bx by_ w
    rw [hseg] at h
    exact h⟩
  have HV := Hd.mk hV
  clear hs hc hV hseg
  go_enter_defers Tryz.func31, Tryz.ntmps31
  go_wp2_with fail
  refine (HC.out _ (HV.out.below (by focus (repeat (first | (with_reducible exact Below.refl _ _) | (with_reducible assumption) | ((with_reducible refine Below.setCell ?_ ?_ _); rotate_left; (focus (first | omega | (simp; done) | (simp; omega)))) | ((with_reducible refine Below.alloc ?_ ?_ _); rotate_left; (focus (first | omega | (simp; done) | (simp; omega)))) | (with_reducible refine Below.drew ?_) | (refine below_on ?_ (by assumption))))))).mono ?_
  rintro e w1 ⟨rfl, hb⟩
  have z0 := heap_below hb (heap_old (heap_new w (.cells #[.int .i64 0, .int .i64 0, .int .i64 0, .int .i64 0] 25)) _)
  have z1 := heap_below hb (heap_at (n := w.heap.size + 1) (by simp) (.cells #[.int .i64 0] 26))
  have hB : Below w.heap.size w w1 := below_on (by focus (repeat (first | (with_reducible exact Below.refl _ _) | (with_reducible assumption) | ((with_reducible refine Below.setCell ?_ ?_ _); rotate_left; (focus (first | omega | (simp; done) | (simp; omega)))) | ((with_reducible refine Below.alloc ?_ ?_ _); rotate_left; (focus (first | omega | (simp; done) | (simp; omega)))) | (with_reducible refine Below.drew ?_) | (refine below_on ?_ (by assumption))))) hb
  clear hb HC
  go_wp2_with (go_at_call 48; refine (seg_must_ok _ _).mono ?_; rintro e w4 ⟨rfl, rfl⟩)
  refine (HA.out _ (HV.out.below hB)).mono ?_
  rintro e w2 ⟨rfl, hb⟩
  have y0 := heap_below hb z0
  have y1 := heap_below hb z1
  have hB2 := below_on hB hb
  clear hb z0 z1 hB HA
  go_wp2_with fail
  refine (HB.out _ (HV.out.below hB2)).mono ?_
  rintro e w3 ⟨rfl, hb⟩
  have z0 := heap_below hb y0
  have z1 := heap_below hb y1
  have hB3 := below_on hB2 hb
  clear hb y0 y1 hB2 HB
  have c0 := cell_at z0
  have f0 := frozen_at z0
  go_upto_region 5 with (fail)
  refine abs_wp (fun W => W.heap[w.heap.size]? = some (.cells #[.int .i64 ax, .int .i64 ay, .int .i64 bx, .int .i64 by_] 25 (0, 0)) ∧ W.heap[w.heap.size + 1]? = some (.cells #[.int .i64 0] 26 (0, 0)) ∧ Below w.heap.size w W) ⟨by simpa using heap_set (heap_set (heap_set (heap_set z0 0 _) 1 _) 2 _) 3 _, heap_set_other (heap_set_other (heap_set_other (heap_set_other z1 (by simp) _) (by simp) _) (by simp) _) (by simp) _, by focus (repeat (first | (with_reducible exact Below.refl _ _) | (with_reducible assumption) | ((with_reducible refine Below.setCell ?_ ?_ _); rotate_left; (focus (first | omega | (simp; done) | (simp; omega)))) | ((with_reducible refine Below.alloc ?_ ?_ _); rotate_left; (focus (first | omega | (simp; done) | (simp; omega)))) | (with_reducible refine Below.drew ?_) | (refine below_on ?_ (by assumption))))⟩ fun W ⟨y0, y1, hB4⟩ => ?_
  clear z0 z1 hB3 c0 f0
  have c0 := cell_at y0
  go_wp2_with fail
  refine (HK.out _).mono ?_
  rintro e w5 ⟨rfl, hb⟩
  have z0 := heap_below hb y0
  have z1 := heap_below hb y1
  have hB5 := below_on hB4 hb
  clear hb y0 y1 hB4 HK c0
  go_wp2_with (go_at_call 48; refine (seg_must_no _ _).mono ?_; rintro e w6 ⟨rfl, rfl⟩)
  refine leaves_cons (f := 46) (args := #[.pointer (some ⟨w.heap.size + 1, 0, none⟩), .func (.func 65) #[] #[.pointer (some ⟨w.heap.size, 0, none⟩)]]) (by simp) (by simp [go_sem]) ?_
  have v0 := heap_set_other z0 (p := ⟨w.heap.size + 1, 0, none⟩) (by simp) (.int .i64 140)
  have v1 : (w6.setCell ⟨w.heap.size + 1, 0, none⟩ (.int .i64 140)).heap[w.heap.size + 1]? = some (.cells #[.int .i64 140] 26 (0, 0)) := by simpa using heap_set z1 0 (.int .i64 140)
  refine (seg_caught_full _ _ 140 _ _ _ _ (Wr w.heap.size #[.int .i64 0, .int .i64 0, .int .i64 0, .int .i64 0] 25 (w6.setCell ⟨w.heap.size + 1, 0, none⟩ (.int .i64 140))) (cell_at z1 0) (frozen_at z1 0) (fun _ => rfl) (clear_segp v0 rfl)).mono ?_
  rintro e u' w7 ⟨rfl, rfl, hW⟩
  have hF : Below w.heap.size w w7 := (Below.setCell hB5 (by simp) _).trans (hW.below _ (Nat.le_refl _))
  refine abs_leaves (OutS w w.heap.size (w.heap.size + 1) #[.int .i64 0, .int .i64 0, .int .i64 0, .int .i64 0] 140) ⟨hW.here, hW.other _ _ (by omega) v1, hF⟩ fun W ⟨y1, y2, hB⟩ => ?_
  have c1 := cell_at y1
  have c2 := cell_at y2
  simp [Leaves, settle, results, Tryz.results31, go_sem, c1, c2]
  exact hB
end Go.Proofs.YtbhfnfokihdjjaaGreatDoor

namespace Go.Proofs.YtbhfnfokihdjjaaGreatDoor

theorem digit_byte (d : Nat) (h : d < 10) : (UInt8.ofNat (48 + d)).toNat = 48 + d := by
  rw [UInt8.toNat_ofNat']
  omega
theorem parse_dec (M : Nat) (hM : M ≤ 18446744073709551615) : ∀ (u : Nat) (r : List UInt8), u ≤ M → Lib.parseUintM M 0 (Lib.decDigits u ++ r) = Lib.parseUintM M u r := by
  intro u
  induction u using Nat.strongRecOn with
  | _ u ih =>
    intro r hu
    by_cases h : u < 10
    · rw [Lib.decDigits, dif_pos h]
      simp only [List.cons_append, List.nil_append]
      rw [Lib.parseUintM, digit_byte u h, if_pos (by omega), if_neg (by omega), if_neg (by omega)]
      congr 1
      omega
    · rw [Lib.decDigits, dif_neg h, List.append_assoc, ih (u / 10) (by omega) _ (by omega)]
      simp only [List.cons_append, List.nil_append]
      rw [Lib.parseUintM, digit_byte (u % 10) (by omega), if_pos (by omega), if_neg (by omega), if_neg (by omega)]
      congr 1
      omega
theorem dec_ne (u : Nat) : Lib.decDigits u ≠ [] := by
  rw [Lib.decDigits]
  split
  · simp
  · simp
theorem dec_byte (u : Nat) : ∀ c ∈ Lib.decDigits u, 48 ≤ c.toNat ∧ c.toNat ≤ 57 := by
  induction u using Nat.strongRecOn with
  | _ u ih =>
    intro c hc
    by_cases h : u < 10
    · rw [Lib.decDigits, dif_pos h] at hc
      rw [List.mem_singleton] at hc
      rw [hc, digit_byte u h]
      omega
    · rw [Lib.decDigits, dif_neg h, List.mem_append, List.mem_singleton] at hc
      rcases hc with hc | rfl
      · exact ih (u / 10) (by omega) c hc
      · rw [digit_byte (u % 10) (by omega)]
        omega
theorem parse_dec_all (u : Nat) (hu : u ≤ 18446744073709551615) : Lib.parseUintB 64 (Lib.decDigits u) = .ok u := by
  unfold Lib.parseUintB
  rw [if_neg (dec_ne u)]
  have h := parse_dec (2 ^ 64 - 1) (by decide) u [] (by omega)
  rw [List.append_nil] at h
  rw [h, Lib.parseUintM]
/-- Parsing is the other way of printing. -/
theorem parse_itoa (n : Int) (h0 : -9223372036854775808 ≤ n) (h1 : n ≤ 9223372036854775807) : Lib.parseIntB 64 (Lib.itoa n) = .ok n := by
  unfold Lib.itoa
  by_cases hn : n < 0
  · rw [if_pos hn]
    unfold Lib.parseIntB
    simp only [show (45 : UInt8).toNat = 45 by decide]
    simp only [or_true, if_true, parse_dec_all n.natAbs (by omega), true_and, not_true, false_and, if_false]
    rw [if_neg (by omega)]
    congr 1
    omega
  · rw [if_neg hn]
    have hb := dec_byte n.toNat
    have hp := parse_dec_all n.toNat (by omega)
    cases hd : Lib.decDigits n.toNat with
    | nil => exact absurd hd (dec_ne _)
    | cons c r =>
      rw [hd] at hb hp
      have hc := hb c (by simp)
      unfold Lib.parseIntB
      have e1 : ¬ c.toNat = 43 := by omega
      have e2 : ¬ c.toNat = 45 := by omega
      simp only [e1, e2, or_self, if_false, hp, not_false_eq_true, true_and, false_and]
      rw [if_neg (by omega)]
      congr 1
      omega
theorem index_at (c : UInt8) : ∀ (l r : List UInt8), c ∉ l → Lib.index (l ++ c :: r) [c] = l.length
  | [], r, _ => by
    rw [List.nil_append, Lib.index]
    simp [List.isPrefixOf]
  | a :: l, r, h => by
    have h1 : a ≠ c := fun e => h (by simp [e])
    have h2 : c ∉ l := fun e => h (by simp [e])
    have ih := index_at c l r h2
    rw [List.cons_append, Lib.index, ih]
    have h3 : ([c] : List UInt8).isPrefixOf (a :: (l ++ c :: r)) = false := by
      simp [List.isPrefixOf]
      exact fun e => absurd e.symm h1
    rw [h3]
    have h4 : (((l.length : Nat) : Int) == -1) = false := by rw [beq_eq_false_iff_ne]; omega
    simp [h4]
/-- A text is cut at the first byte of a kind. -/
theorem cut_at (c : UInt8) (l r : List UInt8) (h : c ∉ l) : Lib.cut (l ++ c :: r) [c] = (l, r, true) := by
  unfold Lib.cut
  rw [index_at c l r h, if_pos (by omega)]
  simp
theorem itoa_byte (n : Int) : ∀ c ∈ Lib.itoa n, c.toNat = 45 ∨ 48 ≤ c.toNat ∧ c.toNat ≤ 57 := by
  intro c hc
  unfold Lib.itoa at hc
  split at hc
  · rw [List.mem_cons] at hc
    rcases hc with rfl | hc
    · exact .inl rfl
    · exact .inr (dec_byte _ c hc)
  · exact .inr (dec_byte _ c hc)
theorem itoa_no (n : Int) (c : UInt8) (h : c.toNat < 45) : c ∉ Lib.itoa n := fun hc => by
  have := itoa_byte n c hc
  omega
theorem itS_list (n : Int) : (itS n).data.toList = Lib.itoa n := rfl
theorem node_list (x y : Int) : (nodeS x y).data.toList = Lib.itoa x ++ 32 :: Lib.itoa y := by
  unfold nodeS
  simp [itS_list]
theorem seg_list (ax ay bx by_ : Int) : (segS ax ay bx by_).data.toList = (nodeS ax ay).data.toList ++ 44 :: (nodeS bx by_).data.toList := by
  unfold segS
  simp
theorem node_cut (x y : Int) : Lib.cut (nodeS x y).data.toList (⟨#[32]⟩ : ByteArray).data.toList = ((itS x).data.toList, (itS y).data.toList, true) := by
  rw [node_list, itS_list, itS_list]
  exact cut_at 32 _ _ (itoa_no x 32 (by decide))
theorem seg_cut (ax ay bx by_ : Int) : Lib.cut (segS ax ay bx by_).data.toList (⟨#[44]⟩ : ByteArray).data.toList = ((nodeS ax ay).data.toList, (nodeS bx by_).data.toList, true) := by
  rw [seg_list]
  refine cut_at 44 _ _ ?_
  rw [node_list]
  intro h
  rw [List.mem_append, List.mem_cons] at h
  rcases h with h | h | h
  · exact itoa_no ax 44 (by decide) h
  · exact absurd h (by decide)
  · exact itoa_no ay 44 (by decide) h
end Go.Proofs.YtbhfnfokihdjjaaGreatDoor

namespace Go.Proofs.YtbhfnfokihdjjaaGreatDoor
open Go.RowKit Go.BigFrame
set_option maxRecDepth 20000 in
set_option maxHeartbeats 2000000 in
theorem segp_ok (s sa sb : ByteArray) (ax ay bx by_ : Int) (hs : s.size < 4294967281) (hc : Lib.cut s.data.toList (⟨#[44]⟩ : ByteArray).data.toList = (sa.data.toList, sb.data.toList, true)) (hseg : segB ax ay bx by_ = true)
    (HA : Hd (∀ w, Vars w → Calls Tryz.prog 67 #[.string sa] w fun e w' => e = .returned (.agg #[.int .i64 ax, .int .i64 ay]) ∧ Below w.heap.size w w'))
    (HB : Hd (∀ w, Vars w → Calls Tryz.prog 67 #[.string sb] w fun e w' => e = .returned (.agg #[.int .i64 bx, .int .i64 by_]) ∧ Below w.heap.size w w')) (w : World) (hV : Vars w) :
    Calls Tryz.prog 31 #[.string s] w fun e w' => e = .returned (.tuple #[.agg #[.int .i64 ax, .int .i64 ay, .int .i64 bx, .int .i64 by_], .int .i64 0]) ∧ Below w.heap.size w w' := by
  have hmf : ∀ (fn : Fn) (first cap : Array Value) (w : World), (Instr.makeFunc fn first cap).run Tryz.prog w = .ok (.func fn first cap) w := fun _ _ _ _ => rfl
  have HC : Hd (∀ w, Vars w → Calls Tryz.prog 66 #[.string s, .string ⟨#[44]⟩] w fun e w' => e = .returned (.tuple #[.string sa, .string sb, .bool true]) ∧ Below w.heap.size w w') := ⟨fun w hv => by
    have h := scut_any s ⟨#[44]⟩ w hs hv
    rw [hc] at h
    exact h⟩
  have HK : Hd (∀ w, Calls Tryz.prog 14 #[.agg #[.int .i64 ax, .int .i64 ay, .int .i64 bx, .int .i64 by_]] w fun e w' => e = .returned (.int .i64 0) ∧ Below w.heap.size w w') := ⟨fun w => by
    have h := seg_check ax ay bx by_ w
    rw [hseg] at h
    exact h⟩
  have HV := Hd.mk hV
  clear hs hc hV hseg
  go_enter_defers Tryz.func31, Tryz.ntmps31
  go_wp2_with fail
  refine (HC.out _ (HV.out.below (by focus (repeat (first | (with_reducible exact Below.refl _ _) | (with_reducible assumption) | ((with_reducible refine Below.setCell ?_ ?_ _); rotate_left; (focus (first | omega | (simp; done) | (simp; omega)))) | ((with_reducible refine Below.alloc ?_ ?_ _); rotate_left; (focus (first | omega | (simp; done) | (simp; omega)))) | (with_reducible refine Below.drew ?_) | (refine below_on ?_ (by assumption))))))).mono ?_
  rintro e w1 ⟨rfl, hb⟩
  have z0 := heap_below hb (heap_old (heap_new w (.cells #[.int .i64 0, .int .i64 0, .int .i64 0, .int .i64 0] 25)) _)
  have z1 := heap_below hb (heap_at (n := w.heap.size + 1) (by simp) (.cells #[.int .i64 0] 26))
  have hB : Below w.heap.size w w1 := below_on (by focus (repeat (first | (with_reducible exact Below.refl _ _) | (with_reducible assumption) | ((with_reducible refine Below.setCell ?_ ?_ _); rotate_left; (focus (first | omega | (simp; done) | (simp; omega)))) | ((with_reducible refine Below.alloc ?_ ?_ _); rotate_left; (focus (first | omega | (simp; done) | (simp; omega)))) | (with_reducible refine Below.drew ?_) | (refine below_on ?_ (by assumption))))) hb
  clear hb HC
  go_wp2_with (go_at_call 48; refine (seg_must_ok _ _).mono ?_; rintro e w4 ⟨rfl, rfl⟩)
  refine (HA.out _ (HV.out.below hB)).mono ?_
  rintro e w2 ⟨rfl, hb⟩
  have y0 := heap_below hb z0
  have y1 := heap_below hb z1
  have hB2 := below_on hB hb
  clear hb z0 z1 hB HA
  go_wp2_with fail
  refine (HB.out _ (HV.out.below hB2)).mono ?_
  rintro e w3 ⟨rfl, hb⟩
  have z0 := heap_below hb y0
  have z1 := heap_below hb y1
  have hB3 := below_on hB2 hb
  clear hb y0 y1 hB2 HB
  have c0 := cell_at z0
  have f0 := frozen_at z0
  go_upto_region 5 with (fail)
  refine abs_wp (fun W => W.heap[w.heap.size]? = some (.cells #[.int .i64 ax, .int .i64 ay, .int .i64 bx, .int .i64 by_] 25 (0, 0)) ∧ W.heap[w.heap.size + 1]? = some (.cells #[.int .i64 0] 26 (0, 0)) ∧ Below w.heap.size w W) ⟨by simpa using heap_set (heap_set (heap_set (heap_set z0 0 _) 1 _) 2 _) 3 _, heap_set_other (heap_set_other (heap_set_other (heap_set_other z1 (by simp) _) (by simp) _) (by simp) _) (by simp) _, by focus (repeat (first | (with_reducible exact Below.refl _ _) | (with_reducible assumption) | ((with_reducible refine Below.setCell ?_ ?_ _); rotate_left; (focus (first | omega | (simp; done) | (simp; omega)))) | ((with_reducible refine Below.alloc ?_ ?_ _); rotate_left; (focus (first | omega | (simp; done) | (simp; omega)))) | (with_reducible refine Below.drew ?_) | (refine below_on ?_ (by assumption))))⟩ fun W ⟨y0, y1, hB4⟩ => ?_
  clear z0 z1 hB3 c0 f0
  have c0 := cell_at y0
  go_wp2_with fail
  refine (HK.out _).mono ?_
  rintro e w5 ⟨rfl, hb⟩
  have z0 := heap_below hb y0
  have z1 := heap_below hb y1
  have hB5 := below_on hB4 hb
  clear hb y0 y1 hB4 HK c0
  have c0 := cell_at z0
  have f0 := frozen_at z0
  have c1 := cell_at z1
  have f1 := frozen_at z1
  go_wp2_with (go_at_call 48; refine (seg_must_ok _ _).mono ?_; rintro e w6 ⟨rfl, rfl⟩)
  refine leaves_cons (f := 46) (args := #[.pointer (some ⟨w.heap.size + 1, 0, none⟩), .func (.func 65) #[] #[.pointer (some ⟨w.heap.size, 0, none⟩)]]) (by simp) (by simp [go_sem]) ?_
  refine (seg_caught_idle _ _ _).mono ?_
  rintro e u' w7 ⟨rfl, rfl, rfl⟩
  refine abs_leaves (OutS w w.heap.size (w.heap.size + 1) #[.int .i64 ax, .int .i64 ay, .int .i64 bx, .int .i64 by_] 0) ⟨?_, ?_, by focus (repeat (first | (with_reducible exact Below.refl _ _) | (with_reducible assumption) | ((with_reducible refine Below.setCell ?_ ?_ _); rotate_left; (focus (first | omega | (simp; done) | (simp; omega)))) | ((with_reducible refine Below.alloc ?_ ?_ _); rotate_left; (focus (first | omega | (simp; done) | (simp; omega)))) | (with_reducible refine Below.drew ?_) | (refine below_on ?_ (by assumption))))⟩ fun W ⟨y1, y2, hB⟩ => ?_
  · refine heap_set_other ?_ (by simp) _
    simpa using heap_set (heap_set (heap_set (heap_set z0 0 (.int .i64 ax)) 1 (.int .i64 ay)) 2 (.int .i64 bx)) 3 (.int .i64 by_)
  · simpa using heap_set (heap_set_other (heap_set_other (heap_set_other (heap_set_other z1 (p := ⟨w.heap.size, 0, none⟩) (by simp) (.int .i64 ax)) (p := ⟨w.heap.size, 1, none⟩) (by simp) (.int .i64 ay)) (p := ⟨w.heap.size, 2, none⟩) (by simp) (.int .i64 bx)) (p := ⟨w.heap.size, 3, none⟩) (by simp) (.int .i64 by_)) 0 (.int .i64 0)
  have c1 := cell_at y1
  have c2 := cell_at y2
  simp [Leaves, settle, results, Tryz.results31, go_sem, c1, c2]
  exact hB
/-- Parse of Text is the segment. -/
theorem parse_text (ax ay bx by_ : Int) (hs : segB ax ay bx by_ = true) (w : World) (hV : Vars w) :
    Calls Tryz.prog 31 #[.string (segS ax ay bx by_)] w fun e w' => e = .returned (.tuple #[.agg #[.int .i64 ax, .int .i64 ay, .int .i64 bx, .int .i64 by_], .int .i64 0]) ∧ Below w.heap.size w w' := by
  have hs2 := hs
  unfold segB at hs2
  simp only [Bool.and_eq_true] at hs2
  obtain ⟨ha, hb, _⟩ := hs2
  have ra := node_range ha
  have rb := node_range hb
  have num : ∀ n : Int, -67108864 ≤ n ∧ n ≤ 67108864 → Hd (∀ w, Vars w → Calls Tryz.prog 96 #[.string (itS n)] w fun e w' => e = .returned (.int .i64 n) ∧ Below w.heap.size w w') := fun n hn => ⟨fun w hv => number_ok (itS n) n (Nat.le_trans (itS_size n (by omega) (by omega)) (by decide)) (by omega) (by omega) (parse_itoa n (by omega) (by omega)) rfl w hv⟩
  have nod : ∀ x y : Int, (-67108864 ≤ x ∧ x ≤ 67108864) → (-67108864 ≤ y ∧ y ≤ 67108864) → Hd (∀ w, Vars w → Calls Tryz.prog 67 #[.string (nodeS x y)] w fun e w' => e = .returned (.agg #[.int .i64 x, .int .i64 y]) ∧ Below w.heap.size w w') := fun x y hx hy => ⟨fun w hv => seg_node_ok (nodeS x y) (itS x) (itS y) x y (Nat.lt_of_le_of_lt (nodeS_size x y (by omega) (by omega)) (by decide)) (node_cut x y) (num x hx) (num y hy) w hv⟩
  refine segp_ok (segS ax ay bx by_) (nodeS ax ay) (nodeS bx by_) ax ay bx by_ ?_ (seg_cut ax ay bx by_) hs (nod ax ay ra.1 ra.2) (nod bx by_ rb.1 rb.2) w hV
  have h1 := nodeS_size ax ay (by omega) (by omega)
  have h2 := nodeS_size bx by_ (by omega) (by omega)
  unfold segS
  rw [ByteArray.size_append, ByteArray.size_append, show (⟨#[44]⟩ : ByteArray).size = 1 from rfl]
  omega
end Go.Proofs.YtbhfnfokihdjjaaGreatDoor
