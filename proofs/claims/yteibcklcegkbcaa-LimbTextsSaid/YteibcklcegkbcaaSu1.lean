/-
  The walk of the law package's steps. Conditions stand in each theorem.
-/
import Derived.Test.YteibcklcegkbcaaRf13
namespace Go.Proofs.Yteibcklcegkbcaa
open Go.RowKit Go.BigFrame

/-- A Big of value z in a block of its own. -/
def BigIn (W : World) (b : Nat) (z : Int) : Prop :=
  ∃ (A : Option Addr) (c : Nat), W.heap[b]? = some (.cells #[.bool (ng z), .slice A (dd (ab z)).length c] 38 (0, 0)) ∧ (dd (ab z)).length ≤ c ∧ DigAt W A (dd (ab z))
theorem BigIn.below {W W1 : World} {b : Nat} {z : Int} (h : BigIn W b z) (hb : Below W.heap.size W W1) : BigIn W1 b z := by
  obtain ⟨A, c, h1, h2, h3⟩ := h
  exact ⟨A, c, heap_below hb h1, h2, h3.below hb⟩
theorem dd_small {z : Int} (h : ab z < 2 ^ 256) : (dd (ab z)).length ≤ 1000 := Nat.le_trans ((dd_len16 _).2 h) (by omega)
set_option maxRecDepth 20000 in
set_option maxHeartbeats 4000000 in
theorem steps_false (A : Option Addr) (c : Nat) (zs : List Int) (hz : ∀ z ∈ zs, ab z < 2 ^ 256) (w : World) (hI : IntsAt w A (zs.map pr)) :
    Calls Try.prog 36 #[.slice A zs.length c, .bool false] w fun e w' => e = .returned (.tuple #[.agg #[.bool (ng (addV zs)), .int .u64 (dg (ab (addV zs)) 0), .int .u64 (dg (ab (addV zs)) 1), .int .u64 (dg (ab (addV zs)) 2), .int .u64 (dg (ab (addV zs)) 3)], .int .i64 (addE zs)]) ∧ Below w.heap.size w w' := by
  have hl : zs.length ≤ 28147497670246 := by have := hI.2.1; simpa using this
  have HI := Hd.mk hI
  have HZ := Hd.mk hz
  clear hI hz
  go_enter Try.func36, Try.ntmps36
  go_wp2_with fail
  refine (rnum_any 0 (by omega) (by omega) _).mono ?_
  rintro e w1 ⟨v, rfl, ⟨A0, c0, rfl, h1, h2⟩, hb⟩
  have y0 := heap_below hb (heap_new w _)
  have hB : Below w.heap.size w w1 := by focus (repeat (first | (with_reducible exact Below.refl _ _) | (with_reducible assumption) | ((with_reducible refine Below.setCell ?_ ?_ _); rotate_left; (focus (first | omega | (simp; done) | (simp; omega)))) | ((with_reducible refine Below.alloc ?_ ?_ _); rotate_left; (focus (first | omega | (simp; done) | (simp; omega)))) | (with_reducible refine Below.drew ?_) | (refine below_on ?_ (by assumption))))
  have hs1 := lt_of_block y0
  have HD := Hd.mk h2
  clear hb h2
  skip
  go_upto_region 4 with (fail)
  refine abs_wp (fun W => W.heap[w.heap.size]? = some (.cells #[.bool false, .int .u64 0, .int .u64 0, .int .u64 0, .int .u64 0] 25 (0, 0)) ∧ BigIn W w1.heap.size 0 ∧ Below w.heap.size w W) ⟨heap_old y0 _, ⟨A0, c0, heap_new _ _, h1, HD.out.below (by focus (repeat (first | (with_reducible exact Below.refl _ _) | (with_reducible assumption) | ((with_reducible refine Below.setCell ?_ ?_ _); rotate_left; (focus (first | omega | (simp; done) | (simp; omega)))) | ((with_reducible refine Below.alloc ?_ ?_ _); rotate_left; (focus (first | omega | (simp; done) | (simp; omega)))) | (with_reducible refine Below.drew ?_) | (refine below_on ?_ (by assumption)))))⟩, by focus (repeat (first | (with_reducible exact Below.refl _ _) | (with_reducible assumption) | ((with_reducible refine Below.setCell ?_ ?_ _); rotate_left; (focus (first | omega | (simp; done) | (simp; omega)))) | ((with_reducible refine Below.alloc ?_ ?_ _); rotate_left; (focus (first | omega | (simp; done) | (simp; omega)))) | (with_reducible refine Below.drew ?_) | (refine below_on ?_ (by assumption))))⟩ fun W ⟨y0, yb, hB⟩ => ?_
  go_wp2
  go_loopw [7] (fun iv wr => ∃ (k : Nat) (z : Int), k ≤ zs.length ∧ iv = .int .i64 k ∧ ab z < 2 ^ 256 ∧ addF z (zs.drop k) = addF 0 zs ∧ wr.heap[w.heap.size]? = some (.cells #[.bool false, .int .u64 0, .int .u64 0, .int .u64 0, .int .u64 0] 25 (0, 0)) ∧ BigIn wr w1.heap.size z ∧ Below w.heap.size w wr) (fun iv _ => zs.length - (intOf iv).toNat)
  case atStart => exact ⟨0, 0, Nat.zero_le _, rfl, by decide, rfl, y0, yb, hB⟩
  case round =>
    clear y0 yb hB
    obtain ⟨k, z, hk, rfl, hzb, hadd, y0, ⟨A', c', yb, hc', hDz⟩, hB⟩ := hrel
    have HA := Hd.mk hadd
    have HZB := Hd.mk hzb
    clear hadd hzb
    have hsb := lt_of_block yb
    by_cases hlt : k < zs.length
    · have hd1 : decide (k < zs.length) = true := by simpa using hlt
      obtain ⟨v, hv⟩ : ∃ v, zs[k]? = some v := ⟨_, List.getElem?_eq_getElem hlt⟩
      have HVB : Hd (ab v < 2 ^ 256) := ⟨HZ.out v (List.mem_of_getElem? hv)⟩
      obtain ⟨b, off, rfl, hcell⟩ := HI.out.2.2 (by simpa using (by omega : 0 < zs.length))
      have hp : (zs.map pr)[k]? = some (pr v) := by rw [List.getElem?_map, hv]; rfl
      have hfive := hcell k (pr v) hp
      have e0 : w.cell? ⟨b, off + k * 5, none⟩ = some (.bool (ng v)) := hfive 0 (by omega)
      have e1 : w.cell? ⟨b, off + k * 5 + 1, none⟩ = some (.int .u64 (dg (ab v) 0)) := hfive 1 (by omega)
      have e2 : w.cell? ⟨b, off + k * 5 + 2, none⟩ = some (.int .u64 (dg (ab v) 1)) := hfive 2 (by omega)
      have e3 : w.cell? ⟨b, off + k * 5 + 3, none⟩ = some (.int .u64 (dg (ab v) 2)) := hfive 3 (by omega)
      have e4 : w.cell? ⟨b, off + k * 5 + 4, none⟩ = some (.int .u64 (dg (ab v) 3)) := hfive 4 (by omega)
      have hbl : b < w.heap.size := World.block_lt_of_cell? w _ e0
      have HS : Hd (∀ W', Below w.heap.size w W' → W'.cell? ⟨b, off + k * 5, none⟩ = some (.bool (ng v)) ∧ W'.cell? ⟨b, off + k * 5 + 1, none⟩ = some (.int .u64 (dg (ab v) 0)) ∧ W'.cell? ⟨b, off + k * 5 + 2, none⟩ = some (.int .u64 (dg (ab v) 1)) ∧ W'.cell? ⟨b, off + k * 5 + 3, none⟩ = some (.int .u64 (dg (ab v) 2)) ∧ W'.cell? ⟨b, off + k * 5 + 4, none⟩ = some (.int .u64 (dg (ab v) 3))) :=
        ⟨fun W' h => ⟨(h.cell hbl).trans e0, (h.cell hbl).trans e1, (h.cell hbl).trans e2, (h.cell hbl).trans e3, (h.cell hbl).trans e4⟩⟩
      have HP := Hd.mk hv
      clear hcell hp hfive e0 e1 e2 e3 e4 hv
      go_upto_region 9 with (fail)
      have hB0 : Below w.heap.size w wr.drew := Below.drew hB
      have z0 : wr.drew.heap[w1.heap.size]? = some (.cells #[.bool (ng z), .slice A' (dd (ab z)).length c'] 38 (0, 0)) := yb
      have x0 : wr.drew.heap[w.heap.size]? = some (.cells #[.bool false, .int .u64 0, .int .u64 0, .int .u64 0, .int .u64 0] 25 (0, 0)) := y0
      have q0 := cell_at z0
      have hDz0 : DigAt wr.drew A' (dd (ab z)) := hDz
      clear yb y0 hB hDz
      obtain ⟨e0, e1, e2, e3, e4⟩ := HS.out _ hB0
      go_region_with
        ((first
          | (go_at_call 18; refine (from_z v HVB.out _).mono ?_; rintro e wa ⟨va, rfl, hVa, hb⟩; have hB1 := below_on hB0 hb; have z1 := heap_below hb z0; have x1 := heap_below hb x0; have q1 := cell_at z1; have hDz1 := hDz0.below hb; clear hb)
          | (go_at_call 63; refine (radd_any z v _ _ (dd_small HZB.out) (dd_small HVB.out) _ ⟨A', c', rfl, hc', hDz1⟩ hVa).mono ?_; rintro e wb ⟨vb, rfl, ⟨A2, c2, rfl, h1, h2⟩, hb⟩; have hB2 := below_on hB1 hb; have z2 := heap_below hb z1; have x2 := heap_below hb x1; have q2 := cell_at z2; have q3 := frozen_at z2; clear hb)))
      all_goals
        have h3 := h2.laid z2 (.bool (ng (z + v))) (.slice A2 (dd (ab (z + v))).length c2)
        have z3 := laid_both w1.heap.size wb (.bool (ng (z + v))) (.slice A2 (dd (ab (z + v))).length c2) z2 rfl
        have x3 : ((wb.setCell ⟨w1.heap.size, 0, none⟩ (.bool (ng (z + v)))).setCell ⟨w1.heap.size, 1, none⟩ (.slice A2 (dd (ab (z + v))).length c2)).heap[w.heap.size]? = some (.cells #[.bool false, .int .u64 0, .int .u64 0, .int .u64 0, .int .u64 0] 25 (0, 0)) :=
          heap_set_other (heap_set_other x2 (by simp; omega) _) (by simp; omega) _
        have hB3 : Below w.heap.size w ((wb.setCell ⟨w1.heap.size, 0, none⟩ (.bool (ng (z + v)))).setCell ⟨w1.heap.size, 1, none⟩ (.slice A2 (dd (ab (z + v))).length c2)) := by focus (repeat (first | (with_reducible exact Below.refl _ _) | (with_reducible assumption) | ((with_reducible refine Below.setCell ?_ ?_ _); rotate_left; (focus (first | omega | (simp; done) | (simp; omega)))) | ((with_reducible refine Below.alloc ?_ ?_ _); rotate_left; (focus (first | omega | (simp; done) | (simp; omega)))) | (with_reducible refine Below.drew ?_) | (refine below_on ?_ (by assumption))))
        clear HS hB0 z0 x0 q0 hDz0 hB1 z1 x1 q1 hDz1 hB2 z2 x2 q2 q3 h2 hVa
        generalize (wb.setCell ⟨w1.heap.size, 0, none⟩ (.bool (ng (z + v)))).setCell ⟨w1.heap.size, 1, none⟩ (.slice A2 (dd (ab (z + v))).length c2) = wz at *
        have HD3 := Hd.mk h3
        have c3 := cell_at z3
        clear h3
        by_cases hov : ab (z + v) < 2 ^ 256
        · have HV := Hd.mk hov
          clear hov
          go_wp2_with fail
          refine (rto_ok (z + v) HV.out _ _ ⟨A2, c2, rfl, h1, HD3.out⟩).mono ?_
          rintro e wc ⟨rfl, hb⟩
          have z4 := heap_below hb z3
          have x4 := heap_below hb x3
          have hD4 := HD3.out.below hb
          have hB4 := below_on hB3 hb
          have hs4 := hB4.size
          clear hb c3 z3 x3 hB3 HD3
          go_wp2
          go_roundw
          case rel => exact ⟨k + 1, z + v, by omega, by go_num, HV.out, (addF_step HP.out HV.out).trans HA.out, heap_old x4 _, ⟨A2, c2, heap_old z4 _, h1, hD4.below (by focus (repeat (first | (with_reducible exact Below.refl _ _) | (with_reducible assumption) | ((with_reducible refine Below.setCell ?_ ?_ _); rotate_left; (focus (first | omega | (simp; done) | (simp; omega)))) | ((with_reducible refine Below.alloc ?_ ?_ _); rotate_left; (focus (first | omega | (simp; done) | (simp; omega)))) | (with_reducible refine Below.drew ?_) | (refine below_on ?_ (by assumption)))))⟩, by focus (repeat (first | (with_reducible exact Below.refl _ _) | (with_reducible assumption) | ((with_reducible refine Below.setCell ?_ ?_ _); rotate_left; (focus (first | omega | (simp; done) | (simp; omega)))) | ((with_reducible refine Below.alloc ?_ ?_ _); rotate_left; (focus (first | omega | (simp; done) | (simp; omega)))) | (with_reducible refine Below.drew ?_) | (refine below_on ?_ (by assumption))))⟩
          case measure => simp [intOf]; omega
        · have hE := (addF_over HP.out hov).symm.trans HA.out
          have HE : Hd (addE zs = 110) := ⟨by unfold addE; rw [← hE]; rfl⟩
          have HF : Hd (addV zs = 0) := ⟨by unfold addV; rw [← hE]; rfl⟩
          have HV := Hd.mk hov
          clear hov hE
          go_wp2_with fail
          refine (rto_no (z + v) HV.out _ _ ⟨A2, c2, rfl, h1, HD3.out⟩).mono ?_
          rintro e wc ⟨rfl, hb⟩
          have x4 := heap_below hb x3
          have hB4 := below_on hB3 hb
          clear hb c3 z3 x3 hB3 HD3
          have q4 := cell_at x4
          have q5 := frozen_at x4
          have hs4 := lt_of_block x4
          go_wp2
          rw [HE.out, HF.out]
          refine abs_post (fun W => W.heap[w.heap.size]? = some (.cells #[.bool (ng (0)), .int .u64 (dg (ab (0)) 0), .int .u64 (dg (ab (0)) 1), .int .u64 (dg (ab (0)) 2), .int .u64 (dg (ab (0)) 3)] 25 (0, 0)) ∧ Below w.heap.size w W) ?_ fun W ⟨k1, hB⟩ => ?_
          · obtain ⟨l1, l2, l3⟩ := laid_five w.heap.size wc (.bool false) (.int .u64 0) (.int .u64 0) (.int .u64 0) (.int .u64 0)
            exact ⟨by rw [zero_cells]; exact heap_old (l1 x4 rfl) _, Below.alloc (hB4.trans (l3 _ (by omega))) (by have := hB4.size; simp; omega) _⟩
          · have k2 := cell_at k1
            refine bodyPost_ret (by simp [results, Try.results36, go_sem, k2]) rfl ⟨rfl, hB⟩
    · obtain rfl : k = zs.length := by omega
      have hd1 : decide (zs.length < zs.length) = false := by simp
      have hadd := HA.out
      rw [List.drop_length] at hadd
      have HE : Hd (addE zs = outE z) := ⟨by unfold addE outE; rw [← hadd, if_pos HZB.out]; rfl⟩
      have HF : Hd (addV zs = outV z) := ⟨by unfold addV outV; rw [← hadd, if_pos HZB.out]; rfl⟩
      have c3 := cell_at yb
      have HD3 := Hd.mk hDz
      clear hadd hDz
      go_wp2_with fail
      refine (rout_any z _ _ ⟨A', c', rfl, hc', HD3.out⟩).mono ?_
      rintro e wc ⟨rfl, hb⟩
      have x4 := heap_below hb y0
      have hB4 := below_on hB hb
      have q4 := cell_at x4
      have q5 := frozen_at x4
      have hs4 := lt_of_block x4
      clear hb c3 yb y0 hB HD3
      go_wp2
      rw [HE.out, HF.out]
      refine abs_post (fun W => W.heap[w.heap.size]? = some (.cells #[.bool (ng (outV z)), .int .u64 (dg (ab (outV z)) 0), .int .u64 (dg (ab (outV z)) 1), .int .u64 (dg (ab (outV z)) 2), .int .u64 (dg (ab (outV z)) 3)] 25 (0, 0)) ∧ Below w.heap.size w W) ?_ fun W ⟨k1, hB⟩ => ?_
      · obtain ⟨l1, l2, l3⟩ := laid_five w.heap.size wc (.bool (ng (outV z))) (.int .u64 (dg (ab (outV z)) 0)) (.int .u64 (dg (ab (outV z)) 1)) (.int .u64 (dg (ab (outV z)) 2)) (.int .u64 (dg (ab (outV z)) 3))
        exact ⟨l1 x4 rfl, hB4.trans (l3 _ (by omega))⟩
      · have k2 := cell_at k1
        refine bodyPost_ret (by simp [results, Try.results36, go_sem, k2]) rfl ⟨rfl, hB⟩
set_option maxRecDepth 20000 in
set_option maxHeartbeats 4000000 in
theorem steps_true (A : Option Addr) (c : Nat) (zs : List Int) (hz : ∀ z ∈ zs, ab z < 2 ^ 256) (w : World) (hI : IntsAt w A (zs.map pr)) :
    Calls Try.prog 36 #[.slice A zs.length c, .bool true] w fun e w' => e = .returned (.tuple #[.agg #[.bool (ng (mulV zs)), .int .u64 (dg (ab (mulV zs)) 0), .int .u64 (dg (ab (mulV zs)) 1), .int .u64 (dg (ab (mulV zs)) 2), .int .u64 (dg (ab (mulV zs)) 3)], .int .i64 (mulE zs)]) ∧ Below w.heap.size w w' := by
  have hl : zs.length ≤ 28147497670246 := by have := hI.2.1; simpa using this
  have HI := Hd.mk hI
  have HZ := Hd.mk hz
  clear hI hz
  go_enter Try.func36, Try.ntmps36
  go_wp2_with fail
  refine (rnum_any 0 (by omega) (by omega) _).mono ?_
  rintro e w1 ⟨v, rfl, ⟨A0, c0, rfl, h1, h2⟩, hb⟩
  have y0 := heap_below hb (heap_new w _)
  have hB : Below w.heap.size w w1 := by focus (repeat (first | (with_reducible exact Below.refl _ _) | (with_reducible assumption) | ((with_reducible refine Below.setCell ?_ ?_ _); rotate_left; (focus (first | omega | (simp; done) | (simp; omega)))) | ((with_reducible refine Below.alloc ?_ ?_ _); rotate_left; (focus (first | omega | (simp; done) | (simp; omega)))) | (with_reducible refine Below.drew ?_) | (refine below_on ?_ (by assumption))))
  have hs1 := lt_of_block y0
  have HD := Hd.mk h2
  clear hb h2
  skip
  go_wp2_with fail
  refine (rnum_any 1 (by omega) (by omega) _).mono ?_
  rintro e w2 ⟨v, rfl, ⟨A1, c1, rfl, k1, k2⟩, hb⟩
  have x0 := heap_below hb (heap_old y0 _)
  have xb := heap_below hb (heap_new w1 _)
  have hB2 : Below w.heap.size w w2 := by focus (repeat (first | (with_reducible exact Below.refl _ _) | (with_reducible assumption) | ((with_reducible refine Below.setCell ?_ ?_ _); rotate_left; (focus (first | omega | (simp; done) | (simp; omega)))) | ((with_reducible refine Below.alloc ?_ ?_ _); rotate_left; (focus (first | omega | (simp; done) | (simp; omega)))) | (with_reducible refine Below.drew ?_) | (refine below_on ?_ (by assumption))))
  have f1 := frozen_at xb
  have g1 := cell_at xb
  have hs2 := lt_of_block xb
  have HK := Hd.mk k2
  clear hb hB HD h1 k2
  go_upto_region 4 with (fail)
  refine abs_wp (fun W => W.heap[w.heap.size]? = some (.cells #[.bool false, .int .u64 0, .int .u64 0, .int .u64 0, .int .u64 0] 25 (0, 0)) ∧ BigIn W w1.heap.size 1 ∧ Below w.heap.size w W) ⟨by focus (repeat (first | (with_reducible exact x0) | ((with_reducible refine heap_set_other ?_ ?_ _); rotate_left; (focus (first | omega | (simp; done) | (simp; omega)))) | (with_reducible refine heap_old ?_ _))), ⟨A1, c1, laid_both _ _ _ _ xb rfl, k1, HK.out.laid xb _ _⟩, by focus (repeat (first | (with_reducible exact Below.refl _ _) | (with_reducible assumption) | ((with_reducible refine Below.setCell ?_ ?_ _); rotate_left; (focus (first | omega | (simp; done) | (simp; omega)))) | ((with_reducible refine Below.alloc ?_ ?_ _); rotate_left; (focus (first | omega | (simp; done) | (simp; omega)))) | (with_reducible refine Below.drew ?_) | (refine below_on ?_ (by assumption))))⟩ fun W ⟨y0, yb, hB⟩ => ?_
  go_wp2
  go_loopw [7] (fun iv wr => ∃ (k : Nat) (z : Int), k ≤ zs.length ∧ iv = .int .i64 k ∧ ab z < 2 ^ 256 ∧ mulF z (zs.drop k) = mulF 1 zs ∧ wr.heap[w.heap.size]? = some (.cells #[.bool false, .int .u64 0, .int .u64 0, .int .u64 0, .int .u64 0] 25 (0, 0)) ∧ BigIn wr w1.heap.size z ∧ Below w.heap.size w wr) (fun iv _ => zs.length - (intOf iv).toNat)
  case atStart => exact ⟨0, 1, Nat.zero_le _, rfl, by decide, rfl, y0, yb, hB⟩
  case round =>
    clear y0 yb hB
    obtain ⟨k, z, hk, rfl, hzb, hadd, y0, ⟨A', c', yb, hc', hDz⟩, hB⟩ := hrel
    have HA := Hd.mk hadd
    have HZB := Hd.mk hzb
    clear hadd hzb
    have hsb := lt_of_block yb
    by_cases hlt : k < zs.length
    · have hd1 : decide (k < zs.length) = true := by simpa using hlt
      obtain ⟨v, hv⟩ : ∃ v, zs[k]? = some v := ⟨_, List.getElem?_eq_getElem hlt⟩
      have HVB : Hd (ab v < 2 ^ 256) := ⟨HZ.out v (List.mem_of_getElem? hv)⟩
      obtain ⟨b, off, rfl, hcell⟩ := HI.out.2.2 (by simpa using (by omega : 0 < zs.length))
      have hp : (zs.map pr)[k]? = some (pr v) := by rw [List.getElem?_map, hv]; rfl
      have hfive := hcell k (pr v) hp
      have e0 : w.cell? ⟨b, off + k * 5, none⟩ = some (.bool (ng v)) := hfive 0 (by omega)
      have e1 : w.cell? ⟨b, off + k * 5 + 1, none⟩ = some (.int .u64 (dg (ab v) 0)) := hfive 1 (by omega)
      have e2 : w.cell? ⟨b, off + k * 5 + 2, none⟩ = some (.int .u64 (dg (ab v) 1)) := hfive 2 (by omega)
      have e3 : w.cell? ⟨b, off + k * 5 + 3, none⟩ = some (.int .u64 (dg (ab v) 2)) := hfive 3 (by omega)
      have e4 : w.cell? ⟨b, off + k * 5 + 4, none⟩ = some (.int .u64 (dg (ab v) 3)) := hfive 4 (by omega)
      have hbl : b < w.heap.size := World.block_lt_of_cell? w _ e0
      have HS : Hd (∀ W', Below w.heap.size w W' → W'.cell? ⟨b, off + k * 5, none⟩ = some (.bool (ng v)) ∧ W'.cell? ⟨b, off + k * 5 + 1, none⟩ = some (.int .u64 (dg (ab v) 0)) ∧ W'.cell? ⟨b, off + k * 5 + 2, none⟩ = some (.int .u64 (dg (ab v) 1)) ∧ W'.cell? ⟨b, off + k * 5 + 3, none⟩ = some (.int .u64 (dg (ab v) 2)) ∧ W'.cell? ⟨b, off + k * 5 + 4, none⟩ = some (.int .u64 (dg (ab v) 3))) :=
        ⟨fun W' h => ⟨(h.cell hbl).trans e0, (h.cell hbl).trans e1, (h.cell hbl).trans e2, (h.cell hbl).trans e3, (h.cell hbl).trans e4⟩⟩
      have HP := Hd.mk hv
      clear hcell hp hfive e0 e1 e2 e3 e4 hv
      go_upto_region 8 with (fail)
      have hB0 : Below w.heap.size w wr.drew := Below.drew hB
      have z0 : wr.drew.heap[w1.heap.size]? = some (.cells #[.bool (ng z), .slice A' (dd (ab z)).length c'] 38 (0, 0)) := yb
      have x0 : wr.drew.heap[w.heap.size]? = some (.cells #[.bool false, .int .u64 0, .int .u64 0, .int .u64 0, .int .u64 0] 25 (0, 0)) := y0
      have q0 := cell_at z0
      have hDz0 : DigAt wr.drew A' (dd (ab z)) := hDz
      clear yb y0 hB hDz
      obtain ⟨e0, e1, e2, e3, e4⟩ := HS.out _ hB0
      go_region_with
        ((first
          | (go_at_call 18; refine (from_z v HVB.out _).mono ?_; rintro e wa ⟨va, rfl, hVa, hb⟩; have hB1 := below_on hB0 hb; have z1 := heap_below hb z0; have x1 := heap_below hb x0; have q1 := cell_at z1; have hDz1 := hDz0.below hb; clear hb)
          | (go_at_call 64; refine (rmul_any z v _ _ (dd_small HZB.out) (dd_small HVB.out) _ ⟨A', c', rfl, hc', hDz1⟩ hVa).mono ?_; rintro e wb ⟨vb, rfl, ⟨A2, c2, rfl, h1, h2⟩, hb⟩; have hB2 := below_on hB1 hb; have z2 := heap_below hb z1; have x2 := heap_below hb x1; have q2 := cell_at z2; have q3 := frozen_at z2; clear hb)))
      all_goals
        have h3 := h2.laid z2 (.bool (ng (z * v))) (.slice A2 (dd (ab (z * v))).length c2)
        have z3 := laid_both w1.heap.size wb (.bool (ng (z * v))) (.slice A2 (dd (ab (z * v))).length c2) z2 rfl
        have x3 : ((wb.setCell ⟨w1.heap.size, 0, none⟩ (.bool (ng (z * v)))).setCell ⟨w1.heap.size, 1, none⟩ (.slice A2 (dd (ab (z * v))).length c2)).heap[w.heap.size]? = some (.cells #[.bool false, .int .u64 0, .int .u64 0, .int .u64 0, .int .u64 0] 25 (0, 0)) :=
          heap_set_other (heap_set_other x2 (by simp; omega) _) (by simp; omega) _
        have hB3 : Below w.heap.size w ((wb.setCell ⟨w1.heap.size, 0, none⟩ (.bool (ng (z * v)))).setCell ⟨w1.heap.size, 1, none⟩ (.slice A2 (dd (ab (z * v))).length c2)) := by focus (repeat (first | (with_reducible exact Below.refl _ _) | (with_reducible assumption) | ((with_reducible refine Below.setCell ?_ ?_ _); rotate_left; (focus (first | omega | (simp; done) | (simp; omega)))) | ((with_reducible refine Below.alloc ?_ ?_ _); rotate_left; (focus (first | omega | (simp; done) | (simp; omega)))) | (with_reducible refine Below.drew ?_) | (refine below_on ?_ (by assumption))))
        clear HS hB0 z0 x0 q0 hDz0 hB1 z1 x1 q1 hDz1 hB2 z2 x2 q2 q3 h2 hVa
        generalize (wb.setCell ⟨w1.heap.size, 0, none⟩ (.bool (ng (z * v)))).setCell ⟨w1.heap.size, 1, none⟩ (.slice A2 (dd (ab (z * v))).length c2) = wz at *
        have HD3 := Hd.mk h3
        have c3 := cell_at z3
        clear h3
        by_cases hov : ab (z * v) < 2 ^ 256
        · have HV := Hd.mk hov
          clear hov
          go_wp2_with fail
          refine (rto_ok (z * v) HV.out _ _ ⟨A2, c2, rfl, h1, HD3.out⟩).mono ?_
          rintro e wc ⟨rfl, hb⟩
          have z4 := heap_below hb z3
          have x4 := heap_below hb x3
          have hD4 := HD3.out.below hb
          have hB4 := below_on hB3 hb
          have hs4 := hB4.size
          clear hb c3 z3 x3 hB3 HD3
          go_wp2
          go_roundw
          case rel => exact ⟨k + 1, z * v, by omega, by go_num, HV.out, (mulF_step HP.out HV.out).trans HA.out, heap_old x4 _, ⟨A2, c2, heap_old z4 _, h1, hD4.below (by focus (repeat (first | (with_reducible exact Below.refl _ _) | (with_reducible assumption) | ((with_reducible refine Below.setCell ?_ ?_ _); rotate_left; (focus (first | omega | (simp; done) | (simp; omega)))) | ((with_reducible refine Below.alloc ?_ ?_ _); rotate_left; (focus (first | omega | (simp; done) | (simp; omega)))) | (with_reducible refine Below.drew ?_) | (refine below_on ?_ (by assumption)))))⟩, by focus (repeat (first | (with_reducible exact Below.refl _ _) | (with_reducible assumption) | ((with_reducible refine Below.setCell ?_ ?_ _); rotate_left; (focus (first | omega | (simp; done) | (simp; omega)))) | ((with_reducible refine Below.alloc ?_ ?_ _); rotate_left; (focus (first | omega | (simp; done) | (simp; omega)))) | (with_reducible refine Below.drew ?_) | (refine below_on ?_ (by assumption))))⟩
          case measure => simp [intOf]; omega
        · have hE := (mulF_over HP.out hov).symm.trans HA.out
          have HE : Hd (mulE zs = 110) := ⟨by unfold mulE; rw [← hE]; rfl⟩
          have HF : Hd (mulV zs = 0) := ⟨by unfold mulV; rw [← hE]; rfl⟩
          have HV := Hd.mk hov
          clear hov hE
          go_wp2_with fail
          refine (rto_no (z * v) HV.out _ _ ⟨A2, c2, rfl, h1, HD3.out⟩).mono ?_
          rintro e wc ⟨rfl, hb⟩
          have x4 := heap_below hb x3
          have hB4 := below_on hB3 hb
          clear hb c3 z3 x3 hB3 HD3
          have q4 := cell_at x4
          have q5 := frozen_at x4
          have hs4 := lt_of_block x4
          go_wp2
          rw [HE.out, HF.out]
          refine abs_post (fun W => W.heap[w.heap.size]? = some (.cells #[.bool (ng (0)), .int .u64 (dg (ab (0)) 0), .int .u64 (dg (ab (0)) 1), .int .u64 (dg (ab (0)) 2), .int .u64 (dg (ab (0)) 3)] 25 (0, 0)) ∧ Below w.heap.size w W) ?_ fun W ⟨k1, hB⟩ => ?_
          · obtain ⟨l1, l2, l3⟩ := laid_five w.heap.size wc (.bool false) (.int .u64 0) (.int .u64 0) (.int .u64 0) (.int .u64 0)
            exact ⟨by rw [zero_cells]; exact heap_old (l1 x4 rfl) _, Below.alloc (hB4.trans (l3 _ (by omega))) (by have := hB4.size; simp; omega) _⟩
          · have k2 := cell_at k1
            refine bodyPost_ret (by simp [results, Try.results36, go_sem, k2]) rfl ⟨rfl, hB⟩
    · obtain rfl : k = zs.length := by omega
      have hd1 : decide (zs.length < zs.length) = false := by simp
      have hadd := HA.out
      rw [List.drop_length] at hadd
      have HE : Hd (mulE zs = outE z) := ⟨by unfold mulE outE; rw [← hadd, if_pos HZB.out]; rfl⟩
      have HF : Hd (mulV zs = outV z) := ⟨by unfold mulV outV; rw [← hadd, if_pos HZB.out]; rfl⟩
      have c3 := cell_at yb
      have HD3 := Hd.mk hDz
      clear hadd hDz
      go_wp2_with fail
      refine (rout_any z _ _ ⟨A', c', rfl, hc', HD3.out⟩).mono ?_
      rintro e wc ⟨rfl, hb⟩
      have x4 := heap_below hb y0
      have hB4 := below_on hB hb
      have q4 := cell_at x4
      have q5 := frozen_at x4
      have hs4 := lt_of_block x4
      clear hb c3 yb y0 hB HD3
      go_wp2
      rw [HE.out, HF.out]
      refine abs_post (fun W => W.heap[w.heap.size]? = some (.cells #[.bool (ng (outV z)), .int .u64 (dg (ab (outV z)) 0), .int .u64 (dg (ab (outV z)) 1), .int .u64 (dg (ab (outV z)) 2), .int .u64 (dg (ab (outV z)) 3)] 25 (0, 0)) ∧ Below w.heap.size w W) ?_ fun W ⟨k1, hB⟩ => ?_
      · obtain ⟨l1, l2, l3⟩ := laid_five w.heap.size wc (.bool (ng (outV z))) (.int .u64 (dg (ab (outV z)) 0)) (.int .u64 (dg (ab (outV z)) 1)) (.int .u64 (dg (ab (outV z)) 2)) (.int .u64 (dg (ab (outV z)) 3))
        exact ⟨l1 x4 rfl, hB4.trans (l3 _ (by omega))⟩
      · have k2 := cell_at k1
        refine bodyPost_ret (by simp [results, Try.results36, go_sem, k2]) rfl ⟨rfl, hB⟩
end Go.Proofs.Yteibcklcegkbcaa
