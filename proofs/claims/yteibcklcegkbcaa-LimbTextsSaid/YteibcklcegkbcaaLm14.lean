/-
  Walks: Add, Sub. Conditions stand in each theorem.
-/
import Derived.Test.YteibcklcegkbcaaLm13
namespace Go.Proofs.Yteibcklcegkbcaa
open Go.RowKit Go.BigFrame

set_option maxHeartbeats 400000 in
theorem clear_add {W : World} {b : Nat} {c : Array Value} {t : TypeId} (h : W.heap[b]? = some (.cells c t (0, 0))) (hs : c.size = 5) :
    Calls Try.prog 70 #[.pointer (some ⟨b, 0, none⟩)] W fun e w' => e = .returned (.tuple #[]) ∧ Laid b (#[.bool (ng (0)), .int .u64 (dg (ab (0)) 0), .int .u64 (dg (ab (0)) 1), .int .u64 (dg (ab (0)) 2), .int .u64 (dg (ab (0)) 3)]) W w' := by
  have hf := frozen_at h
  have hcc := cell_at h
  obtain ⟨c0, c1, c2, c3, c4, rfl⟩ := five_of hs
  have h0 : W.cell? ⟨b, 0, none⟩ = some c0 := hcc 0
  have h1 : W.cell? ⟨b, 1, none⟩ = some c1 := hcc 1
  have h2 : W.cell? ⟨b, 2, none⟩ = some c2 := hcc 2
  have h3 : W.cell? ⟨b, 3, none⟩ = some c3 := hcc 3
  have h4 : W.cell? ⟨b, 4, none⟩ = some c4 := hcc 4
  go_enter Try.func70, Try.ntmps70
  go_wp2
  go_end0
  rw [zero_cells]
  exact ⟨rfl, laid_five ..⟩
/-- The pair of a number. -/
abbrev pr (z : Int) : Bool × Nat := (ng z, ab z)
theorem pr_ok (z : Int) : okP (pr z) := ng_zero_iff z
theorem prs_ok (zs : List Int) : ∀ p ∈ zs.map pr, okP p := by
  intro p hp
  obtain ⟨z, _, rfl⟩ := List.mem_map.1 hp
  exact pr_ok z
theorem pr_of {p : Bool × Nat} (h : okP p) : p = pr (zof p.1 p.2) := by
  obtain ⟨s, n⟩ := p
  unfold pr
  rw [ng_zof, ab_zof]
  cases s <;> simp_all [okP]
theorem prs_of {ps : List (Bool × Nat)} (h : ∀ p ∈ ps, okP p) : ∃ zs : List Int, ps = zs.map pr := by
  refine ⟨ps.map fun p => zof p.1 p.2, ?_⟩
  rw [List.map_map]
  refine (List.map_id ps).symm.trans (List.map_congr_left fun p hp => ?_)
  exact pr_of (h p hp)
/-- A sum, one after the other; nothing once it is too great. -/
def addF (z : Int) : List Int → Option Int
  | [] => some z
  | y :: ys => if ab (z + y) < 2 ^ 256 then addF (z + y) ys else none
def addV (zs : List Int) : Int := (addF 0 zs).getD 0
def addE (zs : List Int) : Int := if (addF 0 zs).isSome then 0 else 110
theorem addF_step {z v : Int} {zs : List Int} {k : Nat} (hk : zs[k]? = some v) (h : ab (z + v) < 2 ^ 256) : addF (z + v) (zs.drop (k + 1)) = addF z (zs.drop k) := by
  obtain ⟨h1, rfl⟩ := List.getElem?_eq_some_iff.1 hk
  rw [List.drop_eq_getElem_cons h1, addF, if_pos h]
theorem addF_over {z v : Int} {zs : List Int} {k : Nat} (hk : zs[k]? = some v) (h : ¬ ab (z + v) < 2 ^ 256) : addF z (zs.drop k) = none := by
  obtain ⟨h1, rfl⟩ := List.getElem?_eq_some_iff.1 hk
  rw [List.drop_eq_getElem_cons h1, addF, if_neg h]
theorem sum_ok (x y : Int) (hx : ab x < 2 ^ 256) (hy : ab y < 2 ^ 256) (h : ab (x + y) < 2 ^ 256) (w : World) :
    Calls Try.prog 71 #[.agg #[.bool (ng (x)), .int .u64 (dg (ab (x)) 0), .int .u64 (dg (ab (x)) 1), .int .u64 (dg (ab (x)) 2), .int .u64 (dg (ab (x)) 3)], .agg #[.bool (ng (y)), .int .u64 (dg (ab (y)) 0), .int .u64 (dg (ab (y)) 1), .int .u64 (dg (ab (y)) 2), .int .u64 (dg (ab (y)) 3)]] w fun e w' => e = .returned (.agg #[.bool (ng (x + y)), .int .u64 (dg (ab (x + y)) 0), .int .u64 (dg (ab (x + y)) 1), .int .u64 (dg (ab (x + y)) 2), .int .u64 (dg (ab (x + y)) 3)]) ∧ Below w.heap.size w w' :=
  (sum_any x y hx hy w).mono fun e w' ⟨he, hw⟩ => ⟨by rw [he, if_pos h], hw⟩
theorem sum_no (x y : Int) (hx : ab x < 2 ^ 256) (hy : ab y < 2 ^ 256) (h : ¬ ab (x + y) < 2 ^ 256) (w : World) :
    Calls Try.prog 71 #[.agg #[.bool (ng (x)), .int .u64 (dg (ab (x)) 0), .int .u64 (dg (ab (x)) 1), .int .u64 (dg (ab (x)) 2), .int .u64 (dg (ab (x)) 3)], .agg #[.bool (ng (y)), .int .u64 (dg (ab (y)) 0), .int .u64 (dg (ab (y)) 1), .int .u64 (dg (ab (y)) 2), .int .u64 (dg (ab (y)) 3)]] w fun e w' => e = .panicked [{ v := .iface 26 (.int .i64 110), recovered := false }] ∧ Below w.heap.size w w' :=
  (sum_any x y hx hy w).mono fun e w' ⟨he, hw⟩ => ⟨by rw [he, if_neg h], hw⟩
theorem right_zs (A : Option Addr) (c : Nat) (zs : List Int) (w : World) (hI : IntsAt w A (zs.map pr)) :
    Calls Try.prog 45 #[.slice A zs.length c] w fun e w' => e = .returned (.tuple #[]) ∧ Below w.heap.size w w' := by
  have h := right_ok A c (zs.map pr) w hI (prs_ok zs)
  rwa [List.length_map] at h
set_option maxHeartbeats 1000000 in
theorem add_ok (A : Option Addr) (c : Nat) (zs : List Int) (w : World) (hI : IntsAt w A (zs.map pr)) :
    Calls Try.prog 27 #[.slice A zs.length c] w fun e w' => e = .returned (.tuple #[.agg #[.bool (ng (addV zs)), .int .u64 (dg (ab (addV zs)) 0), .int .u64 (dg (ab (addV zs)) 1), .int .u64 (dg (ab (addV zs)) 2), .int .u64 (dg (ab (addV zs)) 3)], .int .i64 (addE zs)]) ∧ Below w.heap.size w w' := by
  have hmf : ∀ (fn : Fn) (first cap : Array Value) (w : World), (Instr.makeFunc fn first cap).run Try.prog w = .ok (.func fn first cap) w := fun _ _ _ _ => rfl
  have hl : zs.length ≤ 28147497670246 := by have := hI.2.1; simpa using this
  have HI := Hd.mk hI
  clear hI
  go_enter_defers Try.func27, Try.ntmps27
  go_wp2_with fail
  refine (right_zs _ _ zs _ (HI.out.below (by focus (repeat (first | (with_reducible exact Below.refl _ _) | (with_reducible assumption) | ((with_reducible refine Below.setCell ?_ ?_ _); rotate_left; (focus (first | omega | (simp; done) | (simp; omega)))) | ((with_reducible refine Below.alloc ?_ ?_ _); rotate_left; (focus (first | omega | (simp; done) | (simp; omega)))) | (with_reducible refine Below.drew ?_) | (refine below_on ?_ (by assumption))))))).mono ?_
  rintro e w1 ⟨rfl, hb1⟩
  have z1 : w1.heap[w.heap.size]? = some _ := heap_below hb1 (heap_old (heap_new w _) _)
  have c1 := cell_at z1
  have f1 := frozen_at z1
  have z2 : w1.heap[w.heap.size + 1]? = some _ := heap_below hb1 (heap_at (n := w.heap.size + 1) (by simp) _)
  have c2 := cell_at z2
  have f2 := frozen_at z2
  have hw1 : Below w.heap.size w w1 := by
    focus (repeat (first | (with_reducible exact Below.refl _ _) | (with_reducible assumption) | ((with_reducible refine Below.setCell ?_ ?_ _); rotate_left; (focus (first | omega | (simp; done) | (simp; omega)))) | ((with_reducible refine Below.alloc ?_ ?_ _); rotate_left; (focus (first | omega | (simp; done) | (simp; omega)))) | (with_reducible refine Below.drew ?_) | (refine below_on ?_ (by assumption))))
  clear hb1 c1 f1 c2 f2
  go_wp2
  go_loopw [5, 11] (fun _ ci wr => ∃ (k : Nat) (z : Int), k ≤ zs.length ∧ ci = .int .i64 k ∧ ab z < 2 ^ 256 ∧ addF z (zs.drop k) = addF 0 zs ∧ wr.heap[w.heap.size]? = some (.cells #[.bool (ng (z)), .int .u64 (dg (ab (z)) 0), .int .u64 (dg (ab (z)) 1), .int .u64 (dg (ab (z)) 2), .int .u64 (dg (ab (z)) 3)] 25 (0, 0)) ∧
    wr.heap[w.heap.size + 1]? = some (.cells #[.int .i64 0] 26 (0, 0)) ∧ Below w.heap.size w wr) (fun _ ci _ => zs.length - (intOf ci).toNat)
  case atStart => exact ⟨0, 0, by omega, rfl, by decide, rfl, by rw [zero_cells]; exact z1, z2, hw1⟩
  case round =>
    obtain ⟨k, z, hk, rfl, hz, hadd, y1, y2, hB⟩ := hrel
    have hsz := hB.size
    have HZ := Hd.mk hz
    by_cases hlt : k < zs.length
    · obtain ⟨h1, h2, h3⟩ := HI.out.below hB
      obtain ⟨b, off, hA, hc⟩ := h3 (by simpa using by omega)
      obtain ⟨v, hv⟩ : ∃ v, zs[k]? = some v := ⟨_, List.getElem?_eq_getElem hlt⟩
      have hp : (zs.map pr)[k]? = some (pr v) := by rw [List.getElem?_map, hv]; rfl
      have hcc : ∀ i, i < 5 → wr.cell? ⟨b, off + k * 5 + i, none⟩ = (#[.bool (ng (v)), .int .u64 (dg (ab (v)) 0), .int .u64 (dg (ab (v)) 1), .int .u64 (dg (ab (v)) 2), .int .u64 (dg (ab (v)) 3)])[i]? := hc k _ hp
      subst hA
      have e0 : wr.cell? ⟨b, off + k * 5, none⟩ = some (.bool (ng v)) := hcc 0 (by omega)
      have e1 : wr.cell? ⟨b, off + k * 5 + 1, none⟩ = some (.int .u64 (dg (ab v) 0)) := hcc 1 (by omega)
      have e2 : wr.cell? ⟨b, off + k * 5 + 2, none⟩ = some (.int .u64 (dg (ab v) 1)) := hcc 2 (by omega)
      have e3 : wr.cell? ⟨b, off + k * 5 + 3, none⟩ = some (.int .u64 (dg (ab v) 2)) := hcc 3 (by omega)
      have e4 : wr.cell? ⟨b, off + k * 5 + 4, none⟩ = some (.int .u64 (dg (ab v) 3)) := hcc 4 (by omega)
      have HP := Hd.mk hv
      have HN : Hd (ab v < 2 ^ 256) := ⟨h1 _ (List.mem_of_getElem? hp)⟩
      have HA := Hd.mk hadd
      clear hcc hc hp hv h3 h1 h2 hz hadd
      go_upto_region 6 with (fail)
      refine abs_wp (fun W => W.heap[w.heap.size]? = some (.cells #[.bool (ng (z)), .int .u64 (dg (ab (z)) 0), .int .u64 (dg (ab (z)) 1), .int .u64 (dg (ab (z)) 2), .int .u64 (dg (ab (z)) 3)] 25 (0, 0)) ∧ W.heap[w.heap.size + 1]? = some (.cells #[.int .i64 0] 26 (0, 0)) ∧ W.heap[wr.heap.size]? = some (.cells #[.bool (ng (v)), .int .u64 (dg (ab (v)) 0), .int .u64 (dg (ab (v)) 1), .int .u64 (dg (ab (v)) 2), .int .u64 (dg (ab (v)) 3)] 25 (0, 0)) ∧ Below w.heap.size w W) ⟨heap_old y1 _, heap_old y2 _, heap_new _ _, by focus (repeat (first | (with_reducible exact Below.refl _ _) | (with_reducible assumption) | ((with_reducible refine Below.setCell ?_ ?_ _); rotate_left; (focus (first | omega | (simp; done) | (simp; omega)))) | ((with_reducible refine Below.alloc ?_ ?_ _); rotate_left; (focus (first | omega | (simp; done) | (simp; omega)))) | (with_reducible refine Below.drew ?_) | (refine below_on ?_ (by assumption))))⟩ fun W ⟨y3, y4, y5, hB2⟩ => ?_
      have c3 := cell_at y3
      have f3 := frozen_at y3
      have c5 := cell_at y5
      by_cases hov : ab (z + v) < 2 ^ 256
      · have HV := Hd.mk hov
        clear hov
        go_wp2_with fail
        refine (sum_ok _ _ HZ.out HN.out HV.out _).mono ?_
        rintro e w2 ⟨rfl, hb2⟩
        have z6 : w2.heap[w.heap.size]? = some _ := heap_below hb2 y3
        have c6 := cell_at z6
        have f6 := frozen_at z6
        have z7 : w2.heap[w.heap.size + 1]? = some _ := heap_below hb2 y4
        have c7 := cell_at z7
        have f7 := frozen_at z7
        have hw2 : Below w.heap.size w w2 := below_on hB2 hb2
        clear y3 y4 y5 c3 f3 c5 hb2 hB2 e0 e1 e2 e3 e4
        go_wp2
        go_roundw
        case rel =>
          obtain ⟨l1, l2, l3⟩ := laid_five w.heap.size w2 (.bool (ng (z + v))) (.int .u64 (dg (ab (z + v)) 0)) (.int .u64 (dg (ab (z + v)) 1)) (.int .u64 (dg (ab (z + v)) 2)) (.int .u64 (dg (ab (z + v)) 3))
          exact ⟨k + 1, z + v, by omega, by go_num, HV.out, (addF_step HP.out HV.out).trans HA.out, l1 z6 rfl, l2 _ _ (by omega) z7, hw2.trans (l3 _ (Nat.le_refl _))⟩
        case measure => simp [intOf]; omega
      · have HV := Hd.mk hov
        have hE := (addF_over HP.out hov).symm.trans HA.out
        have HE : Hd (addE zs = 110) := ⟨by unfold addE; rw [← hE]; rfl⟩
        have HF : Hd (addV zs = 0) := ⟨by unfold addV; rw [← hE]; rfl⟩
        clear hov hE
        go_wp2_with fail
        refine (sum_no _ _ HZ.out HN.out HV.out _).mono ?_
        rintro e w2 ⟨rfl, hb2⟩
        have z6 : w2.heap[w.heap.size]? = some _ := heap_below hb2 y3
        have c6 := cell_at z6
        have f6 := frozen_at z6
        have z7 : w2.heap[w.heap.size + 1]? = some _ := heap_below hb2 y4
        have c7 := cell_at z7
        have f7 := frozen_at z7
        have hw2 : Below w.heap.size w w2 := below_on hB2 hb2
        clear y3 y4 y5 c3 f3 c5 hb2 hB2 e0 e1 e2 e3 e4
        go_wp2
        rw [HE.out, HF.out]
        refine leaves_cons (f := 43) (args := #[.pointer (some ⟨w.heap.size + 1, 0, none⟩), .func (.func 70) #[] #[.pointer (some ⟨w.heap.size, 0, none⟩)]]) (by simp) (by simp [go_sem]) ?_
        refine (caught_full _ _ 110 _ _ _ _ (Laid (w.heap.size) (#[.bool (ng (0)), .int .u64 (dg (ab (0)) 0), .int .u64 (dg (ab (0)) 1), .int .u64 (dg (ab (0)) 2), .int .u64 (dg (ab (0)) 3)]) _) (cell_at z7 0) (frozen_at z7 0) (fun _ => rfl) (clear_add (heap_set_other z6 (by simp) _) rfl)).mono ?_
        rintro e u' w3 ⟨rfl, rfl, hL⟩
        refine abs_leaves (OutAt w (w.heap.size) (w.heap.size + 1) 0 110) (out_cleared (by omega) (by omega) z6 z7 rfl rfl hw2 hL) fun W hW => ?_
        obtain ⟨y1, y2, hB⟩ := hW
        have c1 := cell_at y1
        have c2 := cell_at y2
        simp [Leaves, settle, results, Try.results27, go_sem, c1, c2]
        first | exact ⟨rfl, hB⟩ | exact hB
    · obtain rfl : k = zs.length := by omega
      rw [List.drop_length] at hadd
      have HE : Hd (addE zs = 0) := ⟨by unfold addE; rw [← hadd]; rfl⟩
      have HF : Hd (addV zs = z) := ⟨by unfold addV; rw [← hadd]; rfl⟩
      clear hadd hz
      have c1 := cell_at y1
      have f1 := frozen_at y1
      have c2 := cell_at y2
      have f2 := frozen_at y2
      go_wp2
      rw [HE.out, HF.out]
      refine leaves_cons (f := 43) (args := #[.pointer (some ⟨w.heap.size + 1, 0, none⟩), .func (.func 70) #[] #[.pointer (some ⟨w.heap.size, 0, none⟩)]]) (by simp) (by simp [go_sem]) ?_
      refine (caught_idle _ _ _).mono ?_
      rintro e u' w3 ⟨rfl, rfl, rfl⟩
      refine abs_leaves (OutAt w (w.heap.size) (w.heap.size + 1) (z) 0) (out_stored (by omega) (by omega) y1 y2 rfl rfl hB) fun W hW => ?_
      obtain ⟨y1, y2, hB⟩ := hW
      have c1 := cell_at y1
      have c2 := cell_at y2
      simp [Leaves, settle, results, Try.results27, go_sem, c1, c2]
      first | exact ⟨rfl, hB⟩ | exact hB
set_option maxHeartbeats 1000000 in
theorem add_bad (A : Option Addr) (c : Nat) (ps : List (Bool × Nat)) (w : World) (hI : IntsAt w A ps) (h : ¬ ∀ p ∈ ps, okP p) :
    Calls Try.prog 27 #[.slice A ps.length c] w fun e w' => e = .returned (.tuple #[.agg #[.bool (ng (0)), .int .u64 (dg (ab (0)) 0), .int .u64 (dg (ab (0)) 1), .int .u64 (dg (ab (0)) 2), .int .u64 (dg (ab (0)) 3)], .int .i64 2]) ∧ Below w.heap.size w w' := by
  have hmf : ∀ (fn : Fn) (first cap : Array Value) (w : World), (Instr.makeFunc fn first cap).run Try.prog w = .ok (.func fn first cap) w := fun _ _ _ _ => rfl
  have HI := Hd.mk hI
  have HO := Hd.mk h
  clear hI h
  go_enter_defers Try.func27, Try.ntmps27
  go_wp2_with fail
  refine (right_no _ _ ps _ (HI.out.below (by focus (repeat (first | (with_reducible exact Below.refl _ _) | (with_reducible assumption) | ((with_reducible refine Below.setCell ?_ ?_ _); rotate_left; (focus (first | omega | (simp; done) | (simp; omega)))) | ((with_reducible refine Below.alloc ?_ ?_ _); rotate_left; (focus (first | omega | (simp; done) | (simp; omega)))) | (with_reducible refine Below.drew ?_) | (refine below_on ?_ (by assumption)))))) HO.out).mono ?_
  rintro e w1 ⟨rfl, hb1⟩
  have z1 : w1.heap[w.heap.size]? = some _ := heap_below hb1 (heap_old (heap_new w _) _)
  have c1 := cell_at z1
  have f1 := frozen_at z1
  have z2 : w1.heap[w.heap.size + 1]? = some _ := heap_below hb1 (heap_at (n := w.heap.size + 1) (by simp) _)
  have c2 := cell_at z2
  have f2 := frozen_at z2
  have hw1 : Below w.heap.size w w1 := by
    focus (repeat (first | (with_reducible exact Below.refl _ _) | (with_reducible assumption) | ((with_reducible refine Below.setCell ?_ ?_ _); rotate_left; (focus (first | omega | (simp; done) | (simp; omega)))) | ((with_reducible refine Below.alloc ?_ ?_ _); rotate_left; (focus (first | omega | (simp; done) | (simp; omega)))) | (with_reducible refine Below.drew ?_) | (refine below_on ?_ (by assumption))))
  clear hb1
  go_wp2
  refine leaves_cons (f := 43) (args := #[.pointer (some ⟨w.heap.size + 1, 0, none⟩), .func (.func 70) #[] #[.pointer (some ⟨w.heap.size, 0, none⟩)]]) (by simp) (by simp [go_sem]) ?_
  refine (caught_full _ _ 2 _ _ _ _ (Laid (w.heap.size) (#[.bool (ng (0)), .int .u64 (dg (ab (0)) 0), .int .u64 (dg (ab (0)) 1), .int .u64 (dg (ab (0)) 2), .int .u64 (dg (ab (0)) 3)]) _) (cell_at z2 0) (frozen_at z2 0) (fun _ => rfl) (clear_add (heap_set_other z1 (by simp) _) rfl)).mono ?_
  rintro e u' w3 ⟨rfl, rfl, hL⟩
  refine abs_leaves (OutAt w (w.heap.size) (w.heap.size + 1) 0 2) (out_cleared (by omega) (by omega) z1 z2 rfl rfl hw1 hL) fun W hW => ?_
  obtain ⟨y1, y2, hB⟩ := hW
  have c1 := cell_at y1
  have c2 := cell_at y2
  simp [Leaves, settle, results, Try.results27, go_sem, c1, c2]
  first | exact ⟨rfl, hB⟩ | exact hB
end Go.Proofs.Yteibcklcegkbcaa
