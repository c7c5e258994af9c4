/-
  Walks of seg: the text of a segment without length is none. Conditions stand in each theorem.
-/
import Derived.Laws.Concat
import Derived.Lib.ItoaLen
import Derived.Test.YtfchmikbebdflaaGreatDoorSg10
import Derived.Test.YtfchmikbebdflaaGreatDoorWe4
namespace Go.Proofs.YtfchmikbebdflaaGreatDoor
open Go.RowKit Go.BigFrame

theorem below_gw (w : World) (k : Nat) (os : Array Obj) : Below w.heap.size w (Sort.grow (w.drewN k) os) :=
  ⟨rfl, rfl, rfl, by simp [Sort.grow, World.drewN], fun j hj => by
    show (w.heap ++ os)[j]? = w.heap[j]?
    rw [Array.getElem?_append_left hj]⟩
theorem fmt_int (n : Int) (h0 : -9223372036854775808 ≤ n) (h1 : n ≤ 9223372036854775807) (w : World) (hV : Vars w) :
    Calls Tryz.prog 53 #[.int .i64 n, .int .i64 10] w fun e w' => e = .returned (.string ⟨(Lib.itoa n).toArray⟩) ∧ Below w.heap.size w w' :=
  (sh_strconv_FormatInt_10 n h0 h1 w hV.pow10).mono fun _e _w' ⟨he, k, os, hw⟩ => ⟨he, hw ▸ below_gw w k os⟩
/-- An Int's text. -/
def itS (n : Int) : ByteArray := ⟨(Lib.itoa n).toArray⟩
theorem itS_size (n : Int) (h0 : -9223372036854775808 ≤ n) (h1 : n ≤ 9223372036854775807) : (itS n).size ≤ 21 := by
  have h := Lib.itoa_length_le n (by omega) (by omega)
  show (Lib.itoa n).toArray.size ≤ 21
  simpa using h
theorem fmt_itS (n : Int) (h0 : -9223372036854775808 ≤ n) (h1 : n ≤ 9223372036854775807) (w : World) (hV : Vars w) :
    Calls Tryz.prog 53 #[.int .i64 n, .int .i64 10] w fun e w' => e = .returned (.string (itS n)) ∧ Below w.heap.size w w' := fmt_int n h0 h1 w hV
def sBlank : ByteArray := ⟨#[32]⟩
def sComma : ByteArray := ⟨#[44]⟩
/-- A node's text. -/
def nodeS (x y : Int) : ByteArray := (itS x ++ ⟨#[32]⟩) ++ itS y
theorem nodeS_size (x y : Int) (hx : -9223372036854775808 ≤ x ∧ x ≤ 9223372036854775807) (hy : -9223372036854775808 ≤ y ∧ y ≤ 9223372036854775807) : (nodeS x y).size ≤ 43 := by
  unfold nodeS
  rw [ByteArray.size_append, ByteArray.size_append]
  have h1 := itS_size x hx.1 hx.2
  have h2 := itS_size y hy.1 hy.2
  have h3 : ByteArray.size ⟨#[32]⟩ = 1 := rfl
  omega
/-- A segment's text. -/
def segS (ax ay bx by_ : Int) : ByteArray := (nodeS ax ay ++ ⟨#[44]⟩) ++ nodeS bx by_
set_option maxRecDepth 20000 in
set_option maxHeartbeats 1000000 in
theorem node_text (x y : Int) (hx : -9223372036854775808 ≤ x ∧ x ≤ 9223372036854775807) (hy : -9223372036854775808 ≤ y ∧ y ≤ 9223372036854775807) (w : World) (hV : Vars w) :
    Calls Tryz.prog 52 #[.agg #[.int .i64 x, .int .i64 y]] w fun e w' => e = .returned (.string (nodeS x y)) ∧ Below w.heap.size w w' := by
  unfold nodeS
  obtain ⟨sx, hsx⟩ : ∃ s, s = itS x := ⟨_, rfl⟩
  obtain ⟨sy, hsy⟩ : ∃ s, s = itS y := ⟨_, rfl⟩
  have HF : Hd (∀ n s, ((n = x ∧ s = sx) ∨ (n = y ∧ s = sy)) → ∀ w, Vars w → Calls Tryz.prog 53 #[.int .i64 n, .int .i64 10] w fun e w' => e = .returned (.string s) ∧ Below w.heap.size w w') := ⟨by
    rintro n s (⟨rfl, rfl⟩ | ⟨rfl, rfl⟩) w hv
    · rw [hsx]; exact fmt_itS _ hx.1 hx.2 w hv
    · rw [hsy]; exact fmt_itS _ hy.1 hy.2 w hv⟩
  have b1 : sx.size ≤ 21 := hsx ▸ itS_size x hx.1 hx.2
  have b2 : sy.size ≤ 21 := hsy ▸ itS_size y hy.1 hy.2
  have b3 : ByteArray.size ⟨#[32]⟩ = 1 := rfl
  rw [← hsx, ← hsy]
  have r1 := fun w => run_string_add_sum (P := Tryz.prog) w sx ⟨#[32]⟩ (by omega)
  have r2 := fun w => run_string_add_sum (P := Tryz.prog) w (sx ++ ⟨#[32]⟩) sy (by rw [ByteArray.size_append]; omega)
  clear hsx hsy b3
  have HV := Hd.mk hV
  clear hx hy hV
  go_enter Tryz.func52, Tryz.ntmps52
  go_upto_region 1 with (fail)
  refine abs_wp (fun W => W.heap[w.heap.size]? = some (.cells #[.int .i64 x, .int .i64 y] 24 (0, 0)) ∧ Below w.heap.size w W) ⟨heap_new _ _, by focus (repeat (first | (with_reducible exact Below.refl _ _) | (with_reducible assumption) | ((with_reducible refine Below.setCell ?_ ?_ _); rotate_left; (focus (first | omega | (simp; done) | (simp; omega)))) | ((with_reducible refine Below.alloc ?_ ?_ _); rotate_left; (focus (first | omega | (simp; done) | (simp; omega)))) | (with_reducible refine Below.drew ?_) | (refine below_on ?_ (by assumption))))⟩ fun W ⟨z0, hB⟩ => ?_
  have HVW := Hd.mk (HV.out.below hB)
  refine region_qt 8 (by kernel_rfl) (by kernel_rfl) fun X _ mk hmk hcl => ?_
  have c0 := mk_cell hmk z0
  simp only [List.take_succ_cons, List.take_zero, List.drop_succ_cons, List.drop_zero]
  repeat (go_big_quiet_step ((go_at_call 53; exact (HF.out _ _ (by first | (with_reducible exact Or.inl ⟨rfl, rfl⟩) | (with_reducible exact Or.inr ⟨rfl, rfl⟩)) _ (HVW.out.below (hmk _))).mono fun e w' h => ⟨h.1, hcl _ _ h.2⟩)))
  refine wpQuiet_nil ?_
  rintro _ ⟨x, rfl⟩
  clear c0
  have hx := hmk x
  clear hcl hmk
  generalize mk x = W1 at hx
  have hB1 := below_on hB hx
  clear hx z0 hB HVW
  go_wp2
  go_ret
  exact ⟨rfl, hB1⟩
set_option maxRecDepth 20000 in
set_option maxHeartbeats 1000000 in
theorem rnode_text (x y : Int) (hx : -9223372036854775808 ≤ x ∧ x ≤ 9223372036854775807) (hy : -9223372036854775808 ≤ y ∧ y ≤ 9223372036854775807) (w : World) (hV : Vars w) :
    Calls Tryz.prog 61 #[.agg #[.int .i64 x, .int .i64 y]] w fun e w' => e = .returned (.string (nodeS x y)) ∧ Below w.heap.size w w' := by
  unfold nodeS
  obtain ⟨sx, hsx⟩ : ∃ s, s = itS x := ⟨_, rfl⟩
  obtain ⟨sy, hsy⟩ : ∃ s, s = itS y := ⟨_, rfl⟩
  have HF : Hd (∀ n s, ((n = x ∧ s = sx) ∨ (n = y ∧ s = sy)) → ∀ w, Vars w → Calls Tryz.prog 53 #[.int .i64 n, .int .i64 10] w fun e w' => e = .returned (.string s) ∧ Below w.heap.size w w') := ⟨by
    rintro n s (⟨rfl, rfl⟩ | ⟨rfl, rfl⟩) w hv
    · rw [hsx]; exact fmt_itS _ hx.1 hx.2 w hv
    · rw [hsy]; exact fmt_itS _ hy.1 hy.2 w hv⟩
  have b1 : sx.size ≤ 21 := hsx ▸ itS_size x hx.1 hx.2
  have b2 : sy.size ≤ 21 := hsy ▸ itS_size y hy.1 hy.2
  have b3 : ByteArray.size ⟨#[32]⟩ = 1 := rfl
  rw [← hsx, ← hsy]
  have r1 := fun w => run_string_add_sum (P := Tryz.prog) w sx ⟨#[32]⟩ (by omega)
  have r2 := fun w => run_string_add_sum (P := Tryz.prog) w (sx ++ ⟨#[32]⟩) sy (by rw [ByteArray.size_append]; omega)
  clear hsx hsy b3
  have HV := Hd.mk hV
  clear hx hy hV
  go_enter Tryz.func61, Tryz.ntmps61
  go_upto_region 1 with (fail)
  refine abs_wp (fun W => W.heap[w.heap.size]? = some (.cells #[.int .i64 x, .int .i64 y] 24 (0, 0)) ∧ Below w.heap.size w W) ⟨heap_new _ _, by focus (repeat (first | (with_reducible exact Below.refl _ _) | (with_reducible assumption) | ((with_reducible refine Below.setCell ?_ ?_ _); rotate_left; (focus (first | omega | (simp; done) | (simp; omega)))) | ((with_reducible refine Below.alloc ?_ ?_ _); rotate_left; (focus (first | omega | (simp; done) | (simp; omega)))) | (with_reducible refine Below.drew ?_) | (refine below_on ?_ (by assumption))))⟩ fun W ⟨z0, hB⟩ => ?_
  have HVW := Hd.mk (HV.out.below hB)
  refine region_qt 8 (by kernel_rfl) (by kernel_rfl) fun X _ mk hmk hcl => ?_
  have c0 := mk_cell hmk z0
  simp only [List.take_succ_cons, List.take_zero, List.drop_succ_cons, List.drop_zero]
  repeat (go_big_quiet_step ((go_at_call 53; exact (HF.out _ _ (by first | (with_reducible exact Or.inl ⟨rfl, rfl⟩) | (with_reducible exact Or.inr ⟨rfl, rfl⟩)) _ (HVW.out.below (hmk _))).mono fun e w' h => ⟨h.1, hcl _ _ h.2⟩)))
  refine wpQuiet_nil ?_
  rintro _ ⟨x, rfl⟩
  clear c0
  have hx := hmk x
  clear hcl hmk
  generalize mk x = W1 at hx
  have hB1 := below_on hB hx
  clear hx z0 hB HVW
  go_wp2
  go_ret
  exact ⟨rfl, hB1⟩
end Go.Proofs.YtfchmikbebdflaaGreatDoor

namespace Go.Proofs.YtfchmikbebdflaaGreatDoor
open Go.RowKit Go.BigFrame

set_option maxRecDepth 20000 in
set_option maxHeartbeats 1000000 in
theorem seg_text_ok (ax ay bx by_ : Int) (hs : segB ax ay bx by_ = true) (w : World) (hV : Vars w) :
    Calls Tryz.prog 20 #[.agg #[.int .i64 ax, .int .i64 ay, .int .i64 bx, .int .i64 by_]] w fun e w' => e = .returned (.tuple #[.string (segS ax ay bx by_), .int .i64 0]) ∧ Below w.heap.size w w' := by
  have hs2 := hs
  unfold segB at hs2
  simp only [Bool.and_eq_true] at hs2
  obtain ⟨ha, hb, _⟩ := hs2
  obtain ⟨⟨a1, a2⟩, a3, a4⟩ := node_range ha
  obtain ⟨⟨b1, b2⟩, b3, b4⟩ := node_range hb
  unfold segS
  obtain ⟨sa, hsa⟩ : ∃ s, s = nodeS ax ay := ⟨_, rfl⟩
  obtain ⟨sb, hsb⟩ : ∃ s, s = nodeS bx by_ := ⟨_, rfl⟩
  have HF : Hd (∀ x y s, ((x = ax ∧ y = ay ∧ s = sa) ∨ (x = bx ∧ y = by_ ∧ s = sb)) → ∀ w, Vars w → Calls Tryz.prog 52 #[.agg #[.int .i64 x, .int .i64 y]] w fun e w' => e = .returned (.string s) ∧ Below w.heap.size w w') := ⟨by
    rintro x y s (⟨rfl, rfl, rfl⟩ | ⟨rfl, rfl, rfl⟩) w hv
    · rw [hsa]; exact node_text _ _ (by omega) (by omega) w hv
    · rw [hsb]; exact node_text _ _ (by omega) (by omega) w hv⟩
  have k1 : sa.size ≤ 43 := hsa ▸ nodeS_size ax ay (by omega) (by omega)
  have k2 : sb.size ≤ 43 := hsb ▸ nodeS_size bx by_ (by omega) (by omega)
  have k3 : ByteArray.size ⟨#[44]⟩ = 1 := rfl
  rw [← hsa, ← hsb]
  have r1 := fun w => run_string_add_sum (P := Tryz.prog) w sa ⟨#[44]⟩ (by omega)
  have r2 := fun w => run_string_add_sum (P := Tryz.prog) w (sa ++ ⟨#[44]⟩) sb (by rw [ByteArray.size_append]; omega)
  have HV := Hd.mk hV
  have HSG := Hd.mk hs
  clear hsa hsb k3 hV hs ha hb a1 a2 a3 a4 b1 b2 b3 b4
  have HC : Hd (∀ w, Calls Tryz.prog 34 #[.agg #[.int .i64 ax, .int .i64 ay, .int .i64 bx, .int .i64 by_]] w fun e w' => e = .returned (.int .i64 0) ∧ Below w.heap.size w w') := ⟨fun w => by
    have h := seg_check ax ay bx by_ w
    rw [HSG.out] at h
    exact h⟩
  clear HSG
  go_enter Tryz.func20, Tryz.ntmps20
  go_wp2_with fail
  refine (HC.out _).mono ?_
  rintro e w1 ⟨rfl, hb⟩
  have z0 := heap_below hb (heap_new w (.cells #[.int .i64 ax, .int .i64 ay, .int .i64 bx, .int .i64 by_] 26))
  have hB : Below w.heap.size w w1 := below_on (by focus (repeat (first | (with_reducible exact Below.refl _ _) | (with_reducible assumption) | ((with_reducible refine Below.setCell ?_ ?_ _); rotate_left; (focus (first | omega | (simp; done) | (simp; omega)))) | ((with_reducible refine Below.alloc ?_ ?_ _); rotate_left; (focus (first | omega | (simp; done) | (simp; omega)))) | (with_reducible refine Below.drew ?_) | (refine below_on ?_ (by assumption))))) hb
  clear hb HC
  go_upto_region 5 with (fail)
  have HVW := Hd.mk (HV.out.below hB)
  refine region_qt 10 (by kernel_rfl) (by kernel_rfl) fun X _ mk hmk hcl => ?_
  have c0 := mk_cell hmk z0
  simp only [List.take_succ_cons, List.take_zero, List.drop_succ_cons, List.drop_zero]
  repeat (go_big_quiet_step ((go_at_call 52; exact (HF.out _ _ _ (by first | (with_reducible exact Or.inl ⟨rfl, rfl, rfl⟩) | (with_reducible exact Or.inr ⟨rfl, rfl, rfl⟩)) _ (HVW.out.below (hmk _))).mono fun e w' h => ⟨h.1, hcl _ _ h.2⟩)))
  refine wpQuiet_nil ?_
  rintro _ ⟨x, rfl⟩
  clear c0
  have hx := hmk x
  clear hcl hmk
  generalize mk x = W1 at hx
  have hB1 := below_on hB hx
  clear hx z0 hB HVW
  go_wp2
  exact bodyPost_ret (by simp [results, Tryz.results20, go_sem] <;> rfl) rfl ⟨rfl, hB1⟩
set_option maxRecDepth 20000 in
set_option maxHeartbeats 1000000 in
theorem seg_text_no (ax ay bx by_ : Int) (hs : segB ax ay bx by_ = false) (w : World) :
    Calls Tryz.prog 20 #[.agg #[.int .i64 ax, .int .i64 ay, .int .i64 bx, .int .i64 by_]] w fun e w' => e = .returned (.tuple #[.string ⟨#[]⟩, .int .i64 2]) ∧ Below w.heap.size w w' := by
  have HC : Hd (∀ w, Calls Tryz.prog 34 #[.agg #[.int .i64 ax, .int .i64 ay, .int .i64 bx, .int .i64 by_]] w fun e w' => e = .returned (.int .i64 2) ∧ Below w.heap.size w w') := ⟨fun w => by
    have h := seg_check ax ay bx by_ w
    rw [hs] at h
    exact h⟩
  clear hs
  go_enter Tryz.func20, Tryz.ntmps20
  go_wp2_with fail
  refine (HC.out _).mono ?_
  rintro e w1 ⟨rfl, hb⟩
  have hB : Below w.heap.size w w1 := below_on (by focus (repeat (first | (with_reducible exact Below.refl _ _) | (with_reducible assumption) | ((with_reducible refine Below.setCell ?_ ?_ _); rotate_left; (focus (first | omega | (simp; done) | (simp; omega)))) | ((with_reducible refine Below.alloc ?_ ?_ _); rotate_left; (focus (first | omega | (simp; done) | (simp; omega)))) | (with_reducible refine Below.drew ?_) | (refine below_on ?_ (by assumption))))) hb
  clear hb HC
  go_wp2
  exact bodyPost_ret (by simp [results, Tryz.results20, go_sem] <;> rfl) rfl ⟨rfl, hB⟩
set_option maxRecDepth 20000 in
set_option maxHeartbeats 1000000 in
theorem rseg_text (ax ay bx by_ : Int) (hs : segB ax ay bx by_ = true) (w : World) (hV : Vars w) :
    Calls Tryz.prog 32 #[.agg #[.int .i64 ax, .int .i64 ay, .int .i64 bx, .int .i64 by_]] w fun e w' => e = .returned (.string (segS ax ay bx by_)) ∧ Below w.heap.size w w' := by
  have hs2 := hs
  unfold segB at hs2
  simp only [Bool.and_eq_true] at hs2
  obtain ⟨ha, hb, _⟩ := hs2
  obtain ⟨⟨a1, a2⟩, a3, a4⟩ := node_range ha
  obtain ⟨⟨b1, b2⟩, b3, b4⟩ := node_range hb
  unfold segS
  obtain ⟨sa, hsa⟩ : ∃ s, s = nodeS ax ay := ⟨_, rfl⟩
  obtain ⟨sb, hsb⟩ : ∃ s, s = nodeS bx by_ := ⟨_, rfl⟩
  have HF : Hd (∀ x y s, ((x = ax ∧ y = ay ∧ s = sa) ∨ (x = bx ∧ y = by_ ∧ s = sb)) → ∀ w, Vars w → Calls Tryz.prog 61 #[.agg #[.int .i64 x, .int .i64 y]] w fun e w' => e = .returned (.string s) ∧ Below w.heap.size w w') := ⟨by
    rintro x y s (⟨rfl, rfl, rfl⟩ | ⟨rfl, rfl, rfl⟩) w hv
    · rw [hsa]; exact rnode_text _ _ (by omega) (by omega) w hv
    · rw [hsb]; exact rnode_text _ _ (by omega) (by omega) w hv⟩
  have k1 : sa.size ≤ 43 := hsa ▸ nodeS_size ax ay (by omega) (by omega)
  have k2 : sb.size ≤ 43 := hsb ▸ nodeS_size bx by_ (by omega) (by omega)
  have k3 : ByteArray.size ⟨#[44]⟩ = 1 := rfl
  rw [← hsa, ← hsb]
  have r1 := fun w => run_string_add_sum (P := Tryz.prog) w sa ⟨#[44]⟩ (by omega)
  have r2 := fun w => run_string_add_sum (P := Tryz.prog) w (sa ++ ⟨#[44]⟩) sb (by rw [ByteArray.size_append]; omega)
  have HV := Hd.mk hV
  have HSG := Hd.mk hs
  clear hsa hsb k3 hV hs ha hb a1 a2 a3 a4 b1 b2 b3 b4
  clear HSG
  go_enter Tryz.func32, Tryz.ntmps32
  go_upto_region 1 with (fail)
  refine abs_wp (fun W => W.heap[w.heap.size]? = some (.cells #[.int .i64 ax, .int .i64 ay, .int .i64 bx, .int .i64 by_] 26 (0, 0)) ∧ Below w.heap.size w W) ⟨heap_new _ _, by focus (repeat (first | (with_reducible exact Below.refl _ _) | (with_reducible assumption) | ((with_reducible refine Below.setCell ?_ ?_ _); rotate_left; (focus (first | omega | (simp; done) | (simp; omega)))) | ((with_reducible refine Below.alloc ?_ ?_ _); rotate_left; (focus (first | omega | (simp; done) | (simp; omega)))) | (with_reducible refine Below.drew ?_) | (refine below_on ?_ (by assumption))))⟩ fun W ⟨z0, hB⟩ => ?_
  have HVW := Hd.mk (HV.out.below hB)
  refine region_qt 8 (by kernel_rfl) (by kernel_rfl) fun X _ mk hmk hcl => ?_
  have c0 := mk_cell hmk z0
  simp only [List.take_succ_cons, List.take_zero, List.drop_succ_cons, List.drop_zero]
  repeat (go_big_quiet_step ((go_at_call 61; exact (HF.out _ _ _ (by first | (with_reducible exact Or.inl ⟨rfl, rfl, rfl⟩) | (with_reducible exact Or.inr ⟨rfl, rfl, rfl⟩)) _ (HVW.out.below (hmk _))).mono fun e w' h => ⟨h.1, hcl _ _ h.2⟩)))
  refine wpQuiet_nil ?_
  rintro _ ⟨x, rfl⟩
  clear c0
  have hx := hmk x
  clear hcl hmk
  generalize mk x = W1 at hx
  have hB1 := below_on hB hx
  clear hx z0 hB HVW
  go_wp2
  go_ret
  exact ⟨rfl, hB1⟩
end Go.Proofs.YtfchmikbebdflaaGreatDoor

namespace Go.Proofs.YtfchmikbebdflaaGreatDoor
open Go.RowKit Go.BigFrame

theorem below_bw (w : World) (t : ByteArray) : Below w.heap.size w (Lib.bytesWorld w 5 t) := ⟨rfl, rfl, rfl, by rw [Lib.bytesWorld_size]; omega, fun j hj => Lib.bytesWorld_at_old w 5 t j hj⟩
theorem scut_any (s sep : ByteArray) (w : World) (hs : s.size < 4294967281) (hV : Vars w) :
    Calls Tryz.prog 79 #[.string s, .string sep] w fun e w' => e = .returned (.tuple #[.string ⟨(Lib.cut s.data.toList sep.data.toList).1.toArray⟩, .string ⟨(Lib.cut s.data.toList sep.data.toList).2.1.toArray⟩, .bool (Lib.cut s.data.toList sep.data.toList).2.2]) ∧ Below w.heap.size w w' := by
  obtain ⟨m, hm⟩ := hV.max
  refine (sh_strings_Cut s sep m w hs hm).mono ?_
  rintro e w' ⟨he, n, rfl⟩
  exact ⟨he, ⟨rfl, rfl, rfl, Nat.le_refl _, fun _ _ => rfl⟩⟩
set_option maxRecDepth 20000 in
set_option maxHeartbeats 1000000 in
/-- A number's text is taken. -/
theorem number_ok (s : ByteArray) (n : Int) (hsz : s.size ≤ 9223372036854775806) (h0 : -9223372036854775808 ≤ n) (h1 : n ≤ 9223372036854775807) (hp : Lib.parseIntB 64 s.data.toList = .ok n) (he : itS n = s) (w : World) (hV : Vars w) :
    Calls Tryz.prog 101 #[.string s] w fun e w' => e = .returned (.int .i64 n) ∧ Below w.heap.size w w' := by
  have HP : Hd (∀ w, Calls Tryz.prog 105 #[.string s, .int .i64 10, .int .i64 64] w fun e w' => e = .returned (.tuple #[.int .i64 n, .nilIface]) ∧ Below w.heap.size w w') := ⟨fun w => (sh_strconv_ParseInt_10_at64_ok s hsz n hp w).mono fun e w' ⟨h, k⟩ => ⟨h, by
    rcases k with rfl | ⟨t, rfl⟩
    · exact Below.refl _ _
    · exact below_bw w t⟩⟩
  have HF := Hd.mk (fun w hv => fmt_itS n h0 h1 w hv)
  rw [he] at HF
  have HV := Hd.mk hV
  clear hp he h0 h1 hV hsz
  go_enter Tryz.func101, Tryz.ntmps101
  go_wp2_with fail
  refine (HP.out _).mono ?_
  rintro e w1 ⟨rfl, hB⟩
  go_wp2_with fail
  refine (HF.out _ (HV.out.below hB)).mono ?_
  rintro e w2 ⟨rfl, hb⟩
  have hB2 := below_on hB hb
  clear hb hB
  go_wp2_with (go_at_call 80; refine (seg_must_ok _ _).mono ?_; rintro e w4 ⟨rfl, rfl⟩)
  go_ret
  exact ⟨rfl, hB2⟩
end Go.Proofs.YtfchmikbebdflaaGreatDoor
