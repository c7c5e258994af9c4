/-
  Walks of seg: the node of a text; a text that is no segment. Conditions stand in each theorem.
-/
import Derived.Test.YtbhfnfokihdjjaaGreatDoorWd6
import Derived.Test.YtbhfnfokihdjjaaGreatDoorBk
import Derived.Test.YtbhfnfokihdjjaaGreatDoorTs3
namespace Go.Proofs.YtbhfnfokihdjjaaGreatDoor
open Go.RowKit Go.BigFrame

set_option maxRecDepth 20000 in
set_option maxHeartbeats 1000000 in
theorem seg_node_ok (s sx sy : ByteArray) (x y : Int) (hs : s.size < 4294967281) (hc : Lib.cut s.data.toList (⟨#[32]⟩ : ByteArray).data.toList = (sx.data.toList, sy.data.toList, true))
    (HX : Hd (∀ w, Vars w → Calls Tryz.prog 96 #[.string sx] w fun e w' => e = .returned (.int .i64 x) ∧ Below w.heap.size w w'))
    (HY : Hd (∀ w, Vars w → Calls Tryz.prog 96 #[.string sy] w fun e w' => e = .returned (.int .i64 y) ∧ Below w.heap.size w w')) (w : World) (hV : Vars w) :
    Calls Tryz.prog 67 #[.string s] w fun e w' => e = .returned (.agg #[.int .i64 x, .int .i64 y]) ∧ Below w.heap.size w w' := by
  have HC : Hd (∀ w, Vars w → Calls Tryz.prog 66 #[.string s, .string ⟨#[32]⟩] w fun e w' => e = .returned (.tuple #[.string sx, .string sy, .bool true]) ∧ Below w.heap.size w w') := ⟨fun w hv => by
    have h := scut_any s ⟨#[32]⟩ w hs hv
    rw [hc] at h
    exact h⟩
  have HV := Hd.mk hV
  clear hs hc hV
  go_enter Tryz.func67, Tryz.ntmps67
  go_wp2_with fail
  refine (HC.out _ (HV.out.below (by focus (repeat (first | (with_reducible exact Below.refl _ _) | (with_reducible assumption) | ((with_reducible refine Below.setCell ?_ ?_ _); rotate_left; (focus (first | omega | (simp; done) | (simp; omega)))) | ((with_reducible refine Below.alloc ?_ ?_ _); rotate_left; (focus (first | omega | (simp; done) | (simp; omega)))) | (with_reducible refine Below.drew ?_) | (refine below_on ?_ (by assumption))))))).mono ?_
  rintro e w1 ⟨rfl, hb⟩
  have z0 := heap_below hb (heap_new w (.cells #[.int .i64 0, .int .i64 0] 23))
  have hB : Below w.heap.size w w1 := below_on (by focus (repeat (first | (with_reducible exact Below.refl _ _) | (with_reducible assumption) | ((with_reducible refine Below.setCell ?_ ?_ _); rotate_left; (focus (first | omega | (simp; done) | (simp; omega)))) | ((with_reducible refine Below.alloc ?_ ?_ _); rotate_left; (focus (first | omega | (simp; done) | (simp; omega)))) | (with_reducible refine Below.drew ?_) | (refine below_on ?_ (by assumption))))) hb
  clear hb HC
  go_wp2_with (go_at_call 48; refine (seg_must_ok _ _).mono ?_; rintro e w4 ⟨rfl, rfl⟩)
  refine (HX.out _ (HV.out.below hB)).mono ?_
  rintro e w2 ⟨rfl, hb⟩
  have z1 := heap_below hb z0
  have hB2 := below_on hB hb
  clear hb z0 hB HX
  go_wp2_with fail
  refine (HY.out _ (HV.out.below hB2)).mono ?_
  rintro e w3 ⟨rfl, hb⟩
  have z2 := heap_below hb z1
  have hB3 := below_on hB2 hb
  clear hb z1 hB2 HY
  go_wp2_with (refine wpList_store_block rfl 23 (.tmp 2) (.tmp 18) rfl w.heap.size #[.int .i64 x, .int .i64 y] rfl rfl z2 rfl (by kernel_rfl) rfl ?_; rintro W2 ⟨k1, k2, k3⟩; have hF := hB3.trans (k3 _ (Nat.le_refl _)); clear z2 hB3 k2 k3)
  have c1 := cell_at k1
  exact bodyPost_ret (by simp [results, Tryz.results67, go_sem, Act.put, c1] <;> rfl) rfl ⟨rfl, hF⟩
/-- What a segment and an errno named as results hold. -/
def OutS (w : World) (b d : Nat) (cs : Array Value) (n : Int) (W : World) : Prop :=
  W.heap[b]? = some (.cells cs 25 (0, 0)) ∧ W.heap[d]? = some (.cells #[.int .i64 n] 26 (0, 0)) ∧ Below w.heap.size w W
theorem clear_segp {W : World} {b : Nat} {c : Array Value} (h : W.heap[b]? = some (.cells c 25 (0, 0))) (hs : c.size = 4) :
    Calls Tryz.prog 65 #[.pointer (some ⟨b, 0, none⟩)] W fun e w' => e = .returned (.tuple #[]) ∧ Wr b #[.int .i64 0, .int .i64 0, .int .i64 0, .int .i64 0] 25 W w' := by
  go_enter Tryz.func65, Tryz.ntmps65
  go_wp2_with (refine wpList_store_block rfl 25 (.tmp 0) (.tmp 1) rfl b #[.int .i64 0, .int .i64 0, .int .i64 0, .int .i64 0] rfl rfl h hs (by kernel_rfl) rfl ?_; rintro W2 hW)
  go_end0
  exact ⟨rfl, hW⟩
set_option maxRecDepth 20000 in
set_option maxHeartbeats 2000000 in
theorem segp_none (s sa sb : ByteArray) (ax ay bx by_ : Int) (hs : s.size < 4294967281) (hc : Lib.cut s.data.toList (⟨#[44]⟩ : ByteArray).data.toList = (sa.data.toList, sb.data.toList, true)) (hseg : segB ax ay bx by_ = false)
    (HA : Hd (∀ w, Vars w → Calls Tryz.prog 67 #[.string sa] w fun e w' => e = .returned (.agg #[.int .i64 ax, .int .i64 ay]) ∧ Below w.heap.size w w'))
    (HB : Hd (∀ w, Vars w → Calls Tryz.prog 67 #[.string sb] w fun e w' => e = .returned (.agg #[.int .i64 bx, .int .i64 by_]) ∧ Below w.heap.size w w')) (w : World) (hV : Vars w) :
    Calls Tryz.prog 31 #[.string s] w fun e w' => e = .returned (.tuple #[.agg #[.int .i64 0, .int .i64 0, .int .i64 0, .int .i64 0], .int .i64 140]) ∧ Below w.heap.size w w' := by
  have hmf : ∀ (fn : Fn) (first cap : Array Value) (w : World), (Instr.makeFunc fn first cap).run Tryz.prog w = .ok (.func fn first cap) w := fun _ _ _ _ => rfl
  have HC : Hd (∀ w, Vars w → Calls Tryz.prog 66 #[.string s, .string ⟨#[44]⟩] w fun e w' => e = .returned (.tuple #[.string sa, .string sb, .bool true]) ∧ Below w.heap.size w w') := ⟨fun w hv => by
    have h := scut_any s ⟨#[44]⟩ w hs hv
    rw [hc] at h
    exact h⟩
  have HK : Hd (∀ w, Calls Tryz.prog 14 #[.agg #[.int .i64 ax, .int .i64 ay, .int .i64 bx, .int .i64 by_]] w fun e w' => e = .returned (.int .i64 2) ∧ Below w.heap.size w w') := ⟨fun w => by
    have h := seg_check ax ay bx by_ w
    rw [hseg] at h
    exact h⟩
  have HV := Hd.mk hV
  clear hs hc hV hseg
  go_enter_defers Tryz.func31, Tryz.ntmps31
  go_wp2_with fail
  refine (HC.out _ (HV.out.below (by focus (repeat (first | (with_reducible exact Below.refl _ _) | (with_reducible assumption) | ((with_reducible refine Below.setCell ?_ ?_ _); rotate_left; (focus (first | omega | (simp; done) | (simp; omega)))) | ((with_reducible refine Below.alloc ?_ ?_ _); rotate_left; (focus (first | omega | (simp; done) | (simp; omega)))) | (with_reducible refine Below.drew ?_) | (refine below_on ?_ (by assumption))))))).mono ?_
  rintro e w1 ⟨rfl, hb⟩
  have z0 := heap_below hb (heap_old (heap_new w (.cells #[.int .i64 0, .int .i64 0, .int .i64 0, .int .i64 0] 25)) _)
  have z1 := heap_below hb (heap_at (n := w.heap.size + 1) (by simp) (.cells #[.int .i64 0] 26))
  have hB : Below w.heap.size w w1 := below_on (by focus (repeat (first | (with_reducible exact Below.refl _ _) | (with_reducible assumption) | ((with_reducible refine Below.setCell ?_ ?_ _); rotate_left; (focus (first | omega | (simp; done) | (simp; omega)))) | ((with_reducible refine Below.alloc ?_ ?_ _); rotate_left; (focus (first | omega | (simp; done) | (simp; omega)))) | (with_reducible refine Below.drew ?_) | (refine below_on ?_ (by assumption))))) hb
  clear hb HC
  go_wp2_with (go_at_call 48; refine (seg_must_ok _ _).mono ?_; rintro e w4 ⟨rfl, rfl⟩)
  refine (HA.out _ (HV.out.below hB)).mono ?_
  rintro e w2 ⟨rfl, hb⟩
  have y0 := heap_below hb z0
  have y1 := heap_below hb z1
  have hB2 := below_on hB hb
  clear hb z0 z1 hB HA
  go_wp2_with fail
  refine (HB.out _ (HV.out.below hB2)).mono ?_
  rintro e w3 ⟨rfl, hb⟩
  have z0 := heap_below hb y0
  have z1 := heap_below hb y1
  have hB3 := below_on hB2 hb
  clear hb y0 y1 hB2 HB
  have c0 := cell_at z0
  have f0 := frozen_at z0
  go_upto_region 5 with (fail)
  refine abs_wp (fun W => W.heap[w.heap.size]? = some (.cells #[.int .i64 ax, .int .i64 ay, .int .i64 bx, .int .i64 by_] 25 (0, 0)) ∧ W.heap[w.heap.size + 1]? = some (.cells #[.int .i64 0] 26 (0, 0)) ∧ Below w.heap.size w W) ⟨by simpa using heap_set (heap_set (heap_set (heap_set z0 0 _) 1 _) 2 _) 3 _, heap_set_other (heap_set_other (heap_set_other (heap_set_other z1 (by simp) _) (by simp) _) (by simp) _) (by simp) _, by focus (repeat (first | (with_reducible exact Below.refl _ _) | (with_reducible assumption) | ((with_reducible refine Below.setCell ?_ ?_ _); rotate_left; (focus (first | omega | (simp; done) | (simp; omega)))) | ((with_reducible refine Below.alloc ?_ ?_ _); rotate_left; (focus (first | omega | (simp; done) | (simp; omega)))) | (with_reducible refine Below.drew ?_) | (refine below_on ?_ (by assumption))))⟩ fun W ⟨y0, y1, hB4⟩ => ?_
  clear z0 z1 hB3 c0 f0
  have c0 := cell_at y0
  go_wp2_with fail
  refine (HK.out _).mono ?_
  rintro e w5 ⟨rfl, hb⟩
  have z0 := heap_below hb y0
  have z1 := heap_below hb y1
  have hB5 := below_on hB4 hb
  clear hb y0 y1 hB4 HK c0
  go_wp2_with (go_at_call 48; refine (seg_must_no _ _).mono ?_; rintro e w6 ⟨rfl, rfl⟩)
  refine leaves_cons (f := 46) (args := #[.pointer (some ⟨w.heap.size + 1, 0, none⟩), .func (.func 65) #[] #[.pointer (some ⟨w.heap.size, 0, none⟩)]]) (by simp) (by simp [go_sem]) ?_
  have v0 := heap_set_other z0 (p := ⟨w.heap.size + 1, 0, none⟩) (by simp) (.int .i64 140)
  have v1 : (w6.setCell ⟨w.heap.size + 1, 0, none⟩ (.int .i64 140)).heap[w.heap.size + 1]? = some (.cells #[.int .i64 140] 26 (0, 0)) := by simpa using heap_set z1 0 (.int .i64 140)
  refine (seg_caught_full _ _ 140 _ _ _ _ (Wr w.heap.size #[.int .i64 0, .int .i64 0, .int .i64 0, .int .i64 0] 25 (w6.setCell ⟨w.heap.size + 1, 0, none⟩ (.int .i64 140))) (cell_at z1 0) (frozen_at z1 0) (fun _ => rfl) (clear_segp v0 rfl)).mono ?_
  rintro e u' w7 ⟨rfl, rfl, hW⟩
  have hF : Below w.heap.size w w7 := (Below.setCell hB5 (by simp) _).trans (hW.below _ (Nat.le_refl _))
  refine abs_leaves (OutS w w.heap.size (w.heap.size + 1) #[.int .i64 0, .int .i64 0, .int .i64 0, .int .i64 0] 140) ⟨hW.here, hW.other _ _ (by omega) v1, hF⟩ fun W ⟨y1, y2, hB⟩ => ?_
  have c1 := cell_at y1
  have c2 := cell_at y2
  simp [Leaves, settle, results, Tryz.results31, go_sem, c1, c2]
  exact hB
end Go.Proofs.YtbhfnfokihdjjaaGreatDoor
