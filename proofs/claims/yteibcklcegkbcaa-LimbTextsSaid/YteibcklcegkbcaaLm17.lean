/-
  Walks: Mul. Conditions stand in each theorem.
-/
import Derived.Test.YteibcklcegkbcaaLm16
namespace Go.Proofs.Yteibcklcegkbcaa
open Go.RowKit Go.BigFrame

set_option maxHeartbeats 400000 in
theorem clear_mul {W : World} {b : Nat} {c : Array Value} {t : TypeId} (h : W.heap[b]? = some (.cells c t (0, 0))) (hs : c.size = 5) :
    Calls Try.prog 72 #[.pointer (some ⟨b, 0, none⟩)] W fun e w' => e = .returned (.tuple #[]) ∧ Laid b (#[.bool (ng (0)), .int .u64 (dg (ab (0)) 0), .int .u64 (dg (ab (0)) 1), .int .u64 (dg (ab (0)) 2), .int .u64 (dg (ab (0)) 3)]) W w' := by
  have hf := frozen_at h
  have hcc := cell_at h
  obtain ⟨c0, c1, c2, c3, c4, rfl⟩ := five_of hs
  have h0 : W.cell? ⟨b, 0, none⟩ = some c0 := hcc 0
  have h1 : W.cell? ⟨b, 1, none⟩ = some c1 := hcc 1
  have h2 : W.cell? ⟨b, 2, none⟩ = some c2 := hcc 2
  have h3 : W.cell? ⟨b, 3, none⟩ = some c3 := hcc 3
  have h4 : W.cell? ⟨b, 4, none⟩ = some c4 := hcc 4
  go_enter Try.func72, Try.ntmps72
  go_wp2
  go_end0
  rw [zero_cells]
  exact ⟨rfl, laid_five ..⟩
theorem times_ok (a b : Nat) (ha : a < 2 ^ 256) (hb : b < 2 ^ 256) (h : a * b < 2 ^ 256) (w : World) :
    Calls Try.prog 62 #[.agg #[.int .u64 (dg (a) 0), .int .u64 (dg (a) 1), .int .u64 (dg (a) 2), .int .u64 (dg (a) 3)], .agg #[.int .u64 (dg (b) 0), .int .u64 (dg (b) 1), .int .u64 (dg (b) 2), .int .u64 (dg (b) 3)]] w fun e w' => e = .returned (.agg #[.int .u64 (dg (a * b) 0), .int .u64 (dg (a * b) 1), .int .u64 (dg (a * b) 2), .int .u64 (dg (a * b) 3)]) ∧ Below w.heap.size w w' :=
  (times_any a b ha hb w).mono fun e w' ⟨he, hw⟩ => ⟨by rw [he, if_pos h], hw⟩
theorem times_no (a b : Nat) (ha : a < 2 ^ 256) (hb : b < 2 ^ 256) (h : ¬ a * b < 2 ^ 256) (w : World) :
    Calls Try.prog 62 #[.agg #[.int .u64 (dg (a) 0), .int .u64 (dg (a) 1), .int .u64 (dg (a) 2), .int .u64 (dg (a) 3)], .agg #[.int .u64 (dg (b) 0), .int .u64 (dg (b) 1), .int .u64 (dg (b) 2), .int .u64 (dg (b) 3)]] w fun e w' => e = .panicked [{ v := .iface 26 (.int .i64 110), recovered := false }] ∧ Below w.heap.size w w' :=
  (times_any a b ha hb w).mono fun e w' ⟨he, hw⟩ => ⟨by rw [he, if_neg h], hw⟩
/-- A product, one after the other; nothing once it is too great. -/
def mulF (z : Int) : List Int → Option Int
  | [] => some z
  | y :: ys => if ab (z * y) < 2 ^ 256 then mulF (z * y) ys else none
def mulV (zs : List Int) : Int := (mulF 1 zs).getD 0
def mulE (zs : List Int) : Int := if (mulF 1 zs).isSome then 0 else 110
theorem mulF_step {z v : Int} {zs : List Int} {k : Nat} (hk : zs[k]? = some v) (h : ab (z * v) < 2 ^ 256) : mulF (z * v) (zs.drop (k + 1)) = mulF z (zs.drop k) := by
  obtain ⟨h1, rfl⟩ := List.getElem?_eq_some_iff.1 hk
  rw [List.drop_eq_getElem_cons h1, mulF, if_pos h]
theorem mulF_over {z v : Int} {zs : List Int} {k : Nat} (hk : zs[k]? = some v) (h : ¬ ab (z * v) < 2 ^ 256) : mulF z (zs.drop k) = none := by
  obtain ⟨h1, rfl⟩ := List.getElem?_eq_some_iff.1 hk
  rw [List.drop_eq_getElem_cons h1, mulF, if_neg h]
theorem ab_mul (x y : Int) : ab (x * y) = ab x * ab y := by unfold ab; exact Int.natAbs_mul x y
theorem zof_mul (x y : Int) : zof (!(ng x == ng y)) (ab x * ab y) = x * y := by
  have hx := zof_ng_ab x
  have hy := zof_ng_ab y
  generalize ng x = s at *
  generalize ng y = t at *
  generalize ab x = a at *
  generalize ab y = b at *
  subst hx hy
  cases s <;> cases t <;> simp [zof, Int.neg_mul, Int.mul_neg]
set_option maxHeartbeats 1000000 in
theorem mul_ok (A : Option Addr) (c : Nat) (zs : List Int) (w : World) (hI : IntsAt w A (zs.map pr)) :
    Calls Try.prog 28 #[.slice A zs.length c] w fun e w' => e = .returned (.tuple #[.agg #[.bool (ng (mulV zs)), .int .u64 (dg (ab (mulV zs)) 0), .int .u64 (dg (ab (mulV zs)) 1), .int .u64 (dg (ab (mulV zs)) 2), .int .u64 (dg (ab (mulV zs)) 3)], .int .i64 (mulE zs)]) ∧ Below w.heap.size w w' := by
  have hmf : ∀ (fn : Fn) (first cap : Array Value) (w : World), (Instr.makeFunc fn first cap).run Try.prog w = .ok (.func fn first cap) w := fun _ _ _ _ => rfl
  have hl : zs.length ≤ 28147497670246 := by have := hI.2.1; simpa using this
  have HI := Hd.mk hI
  clear hI
  go_enter_defers Try.func28, Try.ntmps28
  go_wp2_with fail
  refine (right_zs _ _ zs _ (HI.out.below (by focus (repeat (first | (with_reducible exact Below.refl _ _) | (with_reducible assumption) | ((with_reducible refine Below.setCell ?_ ?_ _); rotate_left; (focus (first | omega | (simp; done) | (simp; omega)))) | ((with_reducible refine Below.alloc ?_ ?_ _); rotate_left; (focus (first | omega | (simp; done) | (simp; omega)))) | (with_reducible refine Below.drew ?_) | (refine below_on ?_ (by assumption))))))).mono ?_
  rintro e w1 ⟨rfl, hb1⟩
  have z1 : w1.heap[w.heap.size]? = some _ := heap_below hb1 (heap_old (heap_new w _) _)
  have c1 := cell_at z1
  have f1 := frozen_at z1
  have z2 : w1.heap[w.heap.size + 1]? = some _ := heap_below hb1 (heap_at (n := w.heap.size + 1) (by simp) _)
  have c2 := cell_at z2
  have f2 := frozen_at z2
  have hw1 : Below w.heap.size w w1 := by
    focus (repeat (first | (with_reducible exact Below.refl _ _) | (with_reducible assumption) | ((with_reducible refine Below.setCell ?_ ?_ _); rotate_left; (focus (first | omega | (simp; done) | (simp; omega)))) | ((with_reducible refine Below.alloc ?_ ?_ _); rotate_left; (focus (first | omega | (simp; done) | (simp; omega)))) | (with_reducible refine Below.drew ?_) | (refine below_on ?_ (by assumption))))
  clear hb1 c1 f1 c2 f2
  go_wp2_with fail
  refine (of_word 1 (by decide) (by decide) _).mono ?_
  rintro e w2 ⟨rfl, hb2⟩
  have z3 : w2.heap[w.heap.size]? = some _ := heap_below hb2 z1
  have c3 := cell_at z3
  have f3 := frozen_at z3
  have z4 : w2.heap[w.heap.size + 1]? = some _ := heap_below hb2 z2
  have c4 := cell_at z4
  have f4 := frozen_at z4
  have hw2 : Below w.heap.size w w2 := below_on hw1 hb2
  clear hb2 z1 z2 hw1
  go_upto_region 4 with (fail)
  refine abs_wp (fun W => W.heap[w.heap.size]? = some (.cells #[.bool (ng (1)), .int .u64 (dg (ab (1)) 0), .int .u64 (dg (ab (1)) 1), .int .u64 (dg (ab (1)) 2), .int .u64 (dg (ab (1)) 3)] 25 (0, 0)) ∧ W.heap[w.heap.size + 1]? = some (.cells #[.int .i64 0] 26 (0, 0)) ∧ Below w.heap.size w W) ?_ fun W ⟨z5, z6, hwW⟩ => ?_
  · obtain ⟨l1, l2, l3⟩ := laid_five w.heap.size w2 (.bool (ng 1)) (.int .u64 (dg (ab 1) 0)) (.int .u64 (dg (ab 1) 1)) (.int .u64 (dg (ab 1) 2)) (.int .u64 (dg (ab 1) 3))
    exact ⟨l1 z3 rfl, l2 _ _ (by omega) z4, hw2.trans (l3 _ (Nat.le_refl _))⟩
  clear z3 z4 c3 f3 c4 f4 hw2
  go_wp2
  go_loopw [5, 12] (fun _ ci wr => ∃ (k : Nat) (z : Int), k ≤ zs.length ∧ ci = .int .i64 k ∧ ab z < 2 ^ 256 ∧ mulF z (zs.drop k) = mulF 1 zs ∧ wr.heap[w.heap.size]? = some (.cells #[.bool (ng (z)), .int .u64 (dg (ab (z)) 0), .int .u64 (dg (ab (z)) 1), .int .u64 (dg (ab (z)) 2), .int .u64 (dg (ab (z)) 3)] 25 (0, 0)) ∧
    wr.heap[w.heap.size + 1]? = some (.cells #[.int .i64 0] 26 (0, 0)) ∧ Below w.heap.size w wr) (fun _ ci _ => zs.length - (intOf ci).toNat)
  case atStart => exact ⟨0, 1, by omega, rfl, by decide, rfl, z5, z6, hwW⟩
  case round =>
    obtain ⟨k, z, hk, rfl, hz, hadd, y1, y2, hB⟩ := hrel
    have hsz := hB.size
    have HZ := Hd.mk hz
    by_cases hlt : k < zs.length
    · obtain ⟨h1, h2, h3⟩ := HI.out.below hB
      obtain ⟨b, off, hA, hc⟩ := h3 (by simpa using by omega)
      obtain ⟨v, hv⟩ : ∃ v, zs[k]? = some v := ⟨_, List.getElem?_eq_getElem hlt⟩
      have hp : (zs.map pr)[k]? = some (pr v) := by rw [List.getElem?_map, hv]; rfl
      have hcc : ∀ i, i < 5 → wr.cell? ⟨b, off + k * 5 + i, none⟩ = (#[.bool (ng (v)), .int .u64 (dg (ab (v)) 0), .int .u64 (dg (ab (v)) 1), .int .u64 (dg (ab (v)) 2), .int .u64 (dg (ab (v)) 3)])[i]? := hc k _ hp
      subst hA
      have e0 : wr.cell? ⟨b, off + k * 5, none⟩ = some (.bool (ng v)) := hcc 0 (by omega)
      have e1 : wr.cell? ⟨b, off + k * 5 + 1, none⟩ = some (.int .u64 (dg (ab v) 0)) := hcc 1 (by omega)
      have e2 : wr.cell? ⟨b, off + k * 5 + 2, none⟩ = some (.int .u64 (dg (ab v) 1)) := hcc 2 (by omega)
      have e3 : wr.cell? ⟨b, off + k * 5 + 3, none⟩ = some (.int .u64 (dg (ab v) 2)) := hcc 3 (by omega)
      have e4 : wr.cell? ⟨b, off + k * 5 + 4, none⟩ = some (.int .u64 (dg (ab v) 3)) := hcc 4 (by omega)
      have HP := Hd.mk hv
      have HN : Hd (ab v < 2 ^ 256) := ⟨h1 _ (List.mem_of_getElem? hp)⟩
      have HA := Hd.mk hadd
      clear hcc hc hp hv h3 h1 h2 hz hadd
      go_upto_region 7 with (fail)
      refine abs_wp (fun W => W.heap[w.heap.size]? = some (.cells #[.bool (ng (z)), .int .u64 (dg (ab (z)) 0), .int .u64 (dg (ab (z)) 1), .int .u64 (dg (ab (z)) 2), .int .u64 (dg (ab (z)) 3)] 25 (0, 0)) ∧ W.heap[w.heap.size + 1]? = some (.cells #[.int .i64 0] 26 (0, 0)) ∧ W.heap[wr.heap.size]? = some (.cells #[.bool (ng (v)), .int .u64 (dg (ab (v)) 0), .int .u64 (dg (ab (v)) 1), .int .u64 (dg (ab (v)) 2), .int .u64 (dg (ab (v)) 3)] 25 (0, 0)) ∧ Below w.heap.size w W) ⟨heap_old y1 _, heap_old y2 _, heap_new _ _, by focus (repeat (first | (with_reducible exact Below.refl _ _) | (with_reducible assumption) | ((with_reducible refine Below.setCell ?_ ?_ _); rotate_left; (focus (first | omega | (simp; done) | (simp; omega)))) | ((with_reducible refine Below.alloc ?_ ?_ _); rotate_left; (focus (first | omega | (simp; done) | (simp; omega)))) | (with_reducible refine Below.drew ?_) | (refine below_on ?_ (by assumption))))⟩ fun W ⟨y3, y4, y5, hB2⟩ => ?_
      clear y1 y2 e0 e1 e2 e3 e4
      by_cases hov : ab (z * v) < 2 ^ 256
      · have HV := Hd.mk hov
        have HW := Hd.mk (ab_mul z v ▸ hov)
        have HM := Hd.mk (zof_mul z v)
        clear hov
        refine wp_region_noPanic ?_
        refine region_mix 10 (by kernel_rfl) (by kernel_rfl) (fun _ _ _ _ h => h) fun X _ mk hmk hcl => ?_
        have q3 := fun x => cell_at (heap_below (hmk x) y3)
        have q5 := fun x => cell_at (heap_below (hmk x) y5)
        simp only [List.take_succ_cons, List.take_zero, List.drop_succ_cons, List.drop_zero]
        repeat (go_big_quiet_step ((go_at_call 62; exact (times_ok _ _ HZ.out HN.out HW.out _).mono fun e w' ⟨he, hw⟩ => ⟨he, hcl _ _ hw⟩)))
        refine wpQuiet_nil ?_
        rintro _ ⟨x, rfl⟩
        have hW1 := hmk x
        clear hcl hmk
        generalize mk x = W1 at hW1
        have z6 : W1.heap[w.heap.size]? = some _ := heap_below hW1 y3
        have c6 := cell_at z6
        have f6 := frozen_at z6
        have z7 : W1.heap[w.heap.size + 1]? = some _ := heap_below hW1 y4
        have c7 := cell_at z7
        have f7 := frozen_at z7
        have hwW1 : Below w.heap.size w W1 := below_on hB2 hW1
        clear y3 y4 y5 hW1 hB2
        go_wp2_with fail
        refine (of_z _ _ HW.out _).mono ?_
        rw [HM.out]
        rintro e w3 ⟨rfl, hb3⟩
        have z8 : w3.heap[w.heap.size]? = some _ := heap_below hb3 z6
        have c8 := cell_at z8
        have f8 := frozen_at z8
        have z9 : w3.heap[w.heap.size + 1]? = some _ := heap_below hb3 z7
        have c9 := cell_at z9
        have f9 := frozen_at z9
        have hw3 : Below w.heap.size w w3 := below_on hwW1 hb3
        clear z6 c6 f6 z7 c7 f7 hb3 hwW1
        go_wp2
        simp only [NoPanic]
        go_wp2
        go_roundw
        case rel =>
          obtain ⟨l1, l2, l3⟩ := laid_five w.heap.size w3 (.bool (ng (z * v))) (.int .u64 (dg (ab (z * v)) 0)) (.int .u64 (dg (ab (z * v)) 1)) (.int .u64 (dg (ab (z * v)) 2)) (.int .u64 (dg (ab (z * v)) 3))
          exact ⟨k + 1, z * v, by omega, by go_num, HV.out, (mulF_step HP.out HV.out).trans HA.out, l1 z8 rfl, l2 _ _ (by omega) z9, hw3.trans (l3 _ (Nat.le_refl _))⟩
        case measure => simp [intOf]; omega
      · have HV := Hd.mk hov
        have HW := Hd.mk (ab_mul z v ▸ hov)
        have hE := (mulF_over HP.out hov).symm.trans HA.out
        have HE : Hd (mulE zs = 110) := ⟨by unfold mulE; rw [← hE]; rfl⟩
        have HF : Hd (mulV zs = 0) := ⟨by unfold mulV; rw [← hE]; rfl⟩
        clear hov hE
        refine region_pan 9 [16, 17, 18, 19, 20, 21, 22, 23, 24] (by kernel_rfl) (by kernel_rfl) (fun c a w d v hd h => ?_) fun X _ mk hmk hcl => ?_
        · refine leaves_put (d := d) (v := v) ?_ h
          clear h
          revert d
          decide
        have q3 := fun x => cell_at (heap_below (hmk x) y3)
        have q5 := fun x => cell_at (heap_below (hmk x) y5)
        simp only [List.take_succ_cons, List.take_zero, List.drop_succ_cons, List.drop_zero]
        repeat (go_big_quiet_step (skip))
        refine wpQuiet_nil ?_
        rintro _ ⟨x, rfl⟩
        have hW1 := hmk x
        clear hcl hmk q3 q5
        generalize mk x = W1 at hW1
        go_wp2_with fail
        refine (times_no _ _ HZ.out HN.out HW.out _).mono ?_
        rintro e w2 ⟨rfl, hb2⟩
        have hb3 := below_on hW1 hb2
        have z6 : w2.heap[w.heap.size]? = some _ := heap_below hb3 y3
        have c6 := cell_at z6
        have f6 := frozen_at z6
        have z7 : w2.heap[w.heap.size + 1]? = some _ := heap_below hb3 y4
        have c7 := cell_at z7
        have f7 := frozen_at z7
        have hw2 : Below w.heap.size w w2 := below_on hB2 hb3
        clear y3 y4 y5 hb2 hb3 hB2
        go_wp2
        rw [HE.out, HF.out]
        refine leaves_cons (f := 43) (args := #[.pointer (some ⟨w.heap.size + 1, 0, none⟩), .func (.func 72) #[] #[.pointer (some ⟨w.heap.size, 0, none⟩)]]) (by simp) (by simp [go_sem]) ?_
        refine (caught_full _ _ 110 _ _ _ _ (Laid (w.heap.size) (#[.bool (ng (0)), .int .u64 (dg (ab (0)) 0), .int .u64 (dg (ab (0)) 1), .int .u64 (dg (ab (0)) 2), .int .u64 (dg (ab (0)) 3)]) _) (cell_at z7 0) (frozen_at z7 0) (fun _ => rfl) (clear_mul (heap_set_other z6 (by simp) _) rfl)).mono ?_
        rintro e u' w3 ⟨rfl, rfl, hL⟩
        refine abs_leaves (OutAt w (w.heap.size) (w.heap.size + 1) 0 110) (out_cleared (by omega) (by omega) z6 z7 rfl rfl hw2 hL) fun W hW => ?_
        obtain ⟨y1, y2, hB⟩ := hW
        have c1 := cell_at y1
        have c2 := cell_at y2
        simp [Leaves, settle, results, Try.results28, go_sem, c1, c2]
        first | exact ⟨rfl, hB⟩ | exact hB
    · obtain rfl : k = zs.length := by omega
      rw [List.drop_length] at hadd
      have HE : Hd (mulE zs = 0) := ⟨by unfold mulE; rw [← hadd]; rfl⟩
      have HF : Hd (mulV zs = z) := ⟨by unfold mulV; rw [← hadd]; rfl⟩
      clear hadd hz
      have c1 := cell_at y1
      have f1 := frozen_at y1
      have c2 := cell_at y2
      have f2 := frozen_at y2
      go_wp2
      rw [HE.out, HF.out]
      refine leaves_cons (f := 43) (args := #[.pointer (some ⟨w.heap.size + 1, 0, none⟩), .func (.func 72) #[] #[.pointer (some ⟨w.heap.size, 0, none⟩)]]) (by simp) (by simp [go_sem]) ?_
      refine (caught_idle _ _ _).mono ?_
      rintro e u' w3 ⟨rfl, rfl, rfl⟩
      refine abs_leaves (OutAt w (w.heap.size) (w.heap.size + 1) (z) 0) (out_stored (by omega) (by omega) y1 y2 rfl rfl hB) fun W hW => ?_
      obtain ⟨y1, y2, hB⟩ := hW
      have c1 := cell_at y1
      have c2 := cell_at y2
      simp [Leaves, settle, results, Try.results28, go_sem, c1, c2]
      first | exact ⟨rfl, hB⟩ | exact hB
set_option maxHeartbeats 1000000 in
theorem mul_bad (A : Option Addr) (c : Nat) (ps : List (Bool × Nat)) (w : World) (hI : IntsAt w A ps) (h : ¬ ∀ p ∈ ps, okP p) :
    Calls Try.prog 28 #[.slice A ps.length c] w fun e w' => e = .returned (.tuple #[.agg #[.bool (ng (0)), .int .u64 (dg (ab (0)) 0), .int .u64 (dg (ab (0)) 1), .int .u64 (dg (ab (0)) 2), .int .u64 (dg (ab (0)) 3)], .int .i64 2]) ∧ Below w.heap.size w w' := by
  have hmf : ∀ (fn : Fn) (first cap : Array Value) (w : World), (Instr.makeFunc fn first cap).run Try.prog w = .ok (.func fn first cap) w := fun _ _ _ _ => rfl
  have HI := Hd.mk hI
  have HO := Hd.mk h
  clear hI h
  go_enter_defers Try.func28, Try.ntmps28
  go_wp2_with fail
  refine (right_no _ _ ps _ (HI.out.below (by focus (repeat (first | (with_reducible exact Below.refl _ _) | (with_reducible assumption) | ((with_reducible refine Below.setCell ?_ ?_ _); rotate_left; (focus (first | omega | (simp; done) | (simp; omega)))) | ((with_reducible refine Below.alloc ?_ ?_ _); rotate_left; (focus (first | omega | (simp; done) | (simp; omega)))) | (with_reducible refine Below.drew ?_) | (refine below_on ?_ (by assumption)))))) HO.out).mono ?_
  rintro e w1 ⟨rfl, hb1⟩
  have z1 : w1.heap[w.heap.size]? = some _ := heap_below hb1 (heap_old (heap_new w _) _)
  have c1 := cell_at z1
  have f1 := frozen_at z1
  have z2 : w1.heap[w.heap.size + 1]? = some _ := heap_below hb1 (heap_at (n := w.heap.size + 1) (by simp) _)
  have c2 := cell_at z2
  have f2 := frozen_at z2
  have hw1 : Below w.heap.size w w1 := by
    focus (repeat (first | (with_reducible exact Below.refl _ _) | (with_reducible assumption) | ((with_reducible refine Below.setCell ?_ ?_ _); rotate_left; (focus (first | omega | (simp; done) | (simp; omega)))) | ((with_reducible refine Below.alloc ?_ ?_ _); rotate_left; (focus (first | omega | (simp; done) | (simp; omega)))) | (with_reducible refine Below.drew ?_) | (refine below_on ?_ (by assumption))))
  clear hb1
  go_wp2
  refine leaves_cons (f := 43) (args := #[.pointer (some ⟨w.heap.size + 1, 0, none⟩), .func (.func 72) #[] #[.pointer (some ⟨w.heap.size, 0, none⟩)]]) (by simp) (by simp [go_sem]) ?_
  refine (caught_full _ _ 2 _ _ _ _ (Laid (w.heap.size) (#[.bool (ng (0)), .int .u64 (dg (ab (0)) 0), .int .u64 (dg (ab (0)) 1), .int .u64 (dg (ab (0)) 2), .int .u64 (dg (ab (0)) 3)]) _) (cell_at z2 0) (frozen_at z2 0) (fun _ => rfl) (clear_mul (heap_set_other z1 (by simp) _) rfl)).mono ?_
  rintro e u' w3 ⟨rfl, rfl, hL⟩
  refine abs_leaves (OutAt w (w.heap.size) (w.heap.size + 1) 0 2) (out_cleared (by omega) (by omega) z1 z2 rfl rfl hw1 hL) fun W hW => ?_
  obtain ⟨y1, y2, hB⟩ := hW
  have c1 := cell_at y1
  have c2 := cell_at y2
  simp [Leaves, settle, results, Try.results28, go_sem, c1, c2]
  first | exact ⟨rfl, hB⟩ | exact hB
end Go.Proofs.Yteibcklcegkbcaa
