/-
  wkt.Check, of any shape: the other ways. Conditions stand in each theorem.
-/
import Derived.Test.YtfchmikbebdflaaGreatDoorKw2
import Derived.Test.YtfchmikbebdflaaGreatDoorNd2
import Derived.Test.YtfchmikbebdflaaGreatDoorRgi
namespace Go.Proofs.YtfchmikbebdflaaGreatDoor
open Go.RowKit Go.BigFrame Go.Shelf
attribute [local go_sem] Oper.semAt_some

theorem total_take {Ls : List (List Nd)} {k : Nat} {l : List Nd} (h : Ls[k]? = some l) : total (Ls.take (k + 1)) = total (Ls.take k) + l.length := by
  unfold total
  rw [List.take_add_one, h]
  simp
theorem total_le (Ls : List (List Nd)) (k : Nat) : total (Ls.take k) ≤ total Ls := by
  unfold total
  conv => rhs; rw [← List.take_append_drop k Ls, List.map_append, List.sum_append]
  omega
theorem total_mem {Ls : List (List Nd)} {l : List Nd} (h : l ∈ Ls) : l.length ≤ total Ls := by
  unfold total
  induction Ls with
  | nil => cases h
  | cons m Ls ih =>
    rw [List.map_cons, List.sum_cons]
    rcases List.mem_cons.1 h with rfl | h
    · omega
    · have := ih h
      omega
theorem take_all {Ls : List (List Nd)} {P : List Nd → Prop} {k : Nat} {l : List Nd} (h : Ls[k]? = some l) (h1 : ∀ m ∈ Ls.take k, P m) (h2 : P l) : ∀ m ∈ Ls.take (k + 1), P m := by
  rw [List.take_add_one, h]
  intro m hm
  rcases List.mem_append.1 hm with hm | hm
  · exact h1 m hm
  · simp at hm
    rw [hm]
    exact h2
def ndSum (W : World) (r d : Nat) (x n : Int) : Prop := W.heap[r]? = some (.cells #[.int .i64 x] 31 (0, 0)) ∧ W.heap[d]? = some (.cells #[.int .i64 n] 3 (0, 0))
theorem ndSum.low {W W' : World} {r d B : Nat} {x n : Int} (h : ndSum W r d x n) (hr : r < B) (hd : d < B) (hb : Below B W W') : ndSum W' r d x n := ⟨(hb.block _ hr).trans h.1, (hb.block _ hd).trans h.2⟩
theorem ndSum.below {W W' : World} {r d : Nat} {x n : Int} (h : ndSum W r d x n) (hb : Below W.heap.size W W') : ndSum W' r d x n := ⟨heap_below hb h.1, heap_below hb h.2⟩
set_option maxRecDepth 100000 in
set_option maxHeartbeats 8000000 in
/-- Check where there are rings, and no segment. -/
theorem wcheck_rings (Ls : List (List Nd)) (hne : Ls ≠ []) (A : Option Addr) (c : Nat) (w : World) (hR : RingsIn w A Ls) (ht : total Ls ≤ 1100000) (hl : Ls.length ≤ 1100000) :
    Calls Tryz.prog 12 #[.agg (shV ⟨false, ((0, 0), (0, 0)), Ls⟩ A c)] w fun e w' => e = .returned (.int .i64 (checkV ⟨false, ((0, 0), (0, 0)), Ls⟩)) ∧ Below w.heap.size w w' := by
  obtain ⟨vs, hcl, hro⟩ := hR
  have hvl := hro.1
  have hpos : 0 < Ls.length := List.length_pos_iff.2 hne
  have hz0 : ((Ls.length : Int) == 0) = false := by simp; omega
  have HC1 : Hd ((∀ l ∈ Ls, RingOk l) → checkV ⟨false, ((0, 0), (0, 0)), Ls⟩ = if 512 < total Ls then 3 else 0) := ⟨checkV_ok hne⟩
  have HC2 : Hd ((¬ ∀ l ∈ Ls, RingOk l) → checkV ⟨false, ((0, 0), (0, 0)), Ls⟩ = 2) := ⟨checkV_bad hne⟩
  generalize checkV ⟨false, ((0, 0), (0, 0)), Ls⟩ = E at HC1 HC2 ⊢
  have HCL := Hd.mk hcl
  have HRO := Hd.mk hro
  have HT := Hd.mk ht
  have HRA := Hd.mk (rings_any ⟨false, ((0, 0), (0, 0)), Ls⟩ A c)
  have HRS := Hd.mk (fun hvl hlen n b n₀ w' hn hb hcl => rings_stops ⟨false, ((0, 0), (0, 0)), Ls⟩ A c vs hvl hlen n b n₀ w' hn hb hcl)
  unfold shV at HRA HRS ⊢
  clear hcl hro ht hne
  refine (callsIn_wide (n := 6)).1 ?_
  refine callsIn_of_wp_marks Tryz.func12 rfl trivial ?_ rfl
  simp only [Tryz.ntmps12, List.size_toArray, List.length_cons, List.length_nil, Nat.reduceAdd, Nat.reduceSub, Array.replicate_succ, Array.replicate_zero, List.push_toArray, List.append_toArray, List.nil_append, List.cons_append]
  refine (wpIn_wide (n := 6)).2 ?_
  go_upto_region 8 with (fail)
  refine abs_wp (fun W => (W.heap[w.heap.size]? = some (.cells #[.bool false, .int .i64 0, .int .i64 0, .int .i64 0, .int .i64 0, .slice A Ls.length c] 29 (0, 0)) ∧ ndSum W (w.heap.size + 1) (w.heap.size + 2) 0 0) ∧ Below w.heap.size w W) ⟨⟨heap_old (heap_old (heap_new _ _) _) _, heap_old (heap_at (by simp) _) _, heap_at (by simp) _⟩, by focus (repeat (first | (with_reducible exact Below.refl _ _) | (with_reducible assumption) | ((with_reducible refine Below.setCell ?_ ?_ _); rotate_left; (focus (first | omega | (simp; done) | (simp; omega)))) | ((with_reducible refine Below.alloc ?_ ?_ _); rotate_left; (focus (first | omega | (simp; done) | (simp; omega)))) | (with_reducible refine Below.drew ?_) | (refine below_on ?_ (by assumption))))⟩ fun W0 ⟨⟨y0, y1⟩, hB0⟩ => ?_
  have c0 := cell_at y0
  go_wp2_with fail
  refine (HRA.out W0).mono ?_
  rintro e W1 ⟨b, rfl, hbb, hge, hb⟩
  have z1 := y1.below hb
  have HB1 := Hd.mk (below_on hB0 hb)
  have hbl := lt_of_block hbb
  have hs0 := hb.size
  have hl0 := lt_of_block y1.2
  have HBB := Hd.mk hbb
  clear c0 y0 y1 hB0 hb hbb
  go_wp2
  refine (wpIn_wide (n := 6)).1 ?_
  refine range_l (by omega) (gf := 62) (lb := #[.pointer (some ⟨b, 0, none⟩)]) rfl (enters_of Tryz.func62 (by kernel_rfl) rfl)
    (HRS.out hvl (by omega) _ b w.heap.size W1 HB1.out.size HBB.out (fun W' hW' => HCL.out.below (HB1.out.trans hW'))) Below.trans (fun W' o => below_putObj W' _ o (by have := HB1.out.size; omega)) (fun _ => rfl)
    (fun pre W' => ndSum W' (w.heap.size + 1) (w.heap.size + 2) 0 (total (Ls.take pre.length) : Nat) ∧ (∀ l ∈ Ls.take pre.length, RingOk l) ∧ Below w.heap.size w W')
    (fun co _ W' => co = .ret ∧ W'.heap[w.heap.size + 1]? = some (.cells #[.int .i64 2] 31 (0, 0)) ∧ ¬ (∀ l ∈ Ls, RingOk l) ∧ Below w.heap.size w W')
    (fun pre A' C hs hb => ⟨hs.1.low (by omega) (by omega) hb, hs.2.1, hs.2.2.trans (hb.mono HB1.out.size)⟩)
    (fun co pre A' C hs hb => ⟨hs.1, (hb.block _ (by omega)).trans hs.2.1, hs.2.2.1, hs.2.2.2.trans (hb.mono HB1.out.size)⟩)
    ⟨by simpa [total] using z1, by simp, HB1.out⟩ ?round ?done ?stop
  case round =>
    rintro l' pre v Wr hpx ⟨hI, hok, hB⟩ hsr
    have hplt : pre.length < vs.length := by
      have := hpx.length_le
      simp at this
      omega
    have hv : vs[pre.length]? = some v := by
      obtain ⟨r, hr⟩ := hpx
      rw [← hr]
      simp
    obtain ⟨lr, hlr⟩ : ∃ lr, Ls[pre.length]? = some lr := ⟨_, List.getElem?_eq_getElem (by omega)⟩
    have hlm : lr ∈ Ls := List.mem_of_getElem? hlr
    have hlt := total_mem hlm
    have htot := HT.out
    obtain ⟨Ar, cr, rfl, hc1, hc2, hnd⟩ := HRO.out.2 _ v lr hv hlr
    have HLR := Hd.mk hlr
    have HLM := Hd.mk hlm
    have HOK := Hd.mk hok
    have hsB := HB1.out.size
    have hsum := total_take hlr
    have htk := total_le Ls (pre.length + 1)
    have hl0 : lr.length ≤ 1100000 := by omega
    have hs1 : total (Ls.take pre.length) ≤ 1100000 := by omega
    have HS := Hd.mk hsum
    clear hpx hv hlr hlm hok hsum htk htot
    gi_wp2
    refine ⟨Calm.refl _ _, Below.refl _ _, ⟨hI, HOK.out, hB⟩, ?_⟩
    rintro o ⟨hI2, _, hB2⟩
    generalize Wr.putObj (W1.heap.size + 1) o = Wp at hI2 hB2 ⊢
    have HND := Hd.mk (hnd.below hB2)
    have HI := Hd.mk hI2
    have HB2 := Hd.mk hB2
    have hwp := hB2.size
    have hrl := lt_of_block hI2.1
    clear hnd hB hI hI2 hB2
    by_cases h3 : lr.length < 3
    · have hd : decide ((lr.length : Int) < 3) = true := by simp; omega
      have hbad : Hd (¬ (∀ l ∈ Ls, RingOk l)) := ⟨fun h => by have := (h lr HLM.out).1; omega⟩
      have cr := cell_at HI.out.1
      have fr := frozen_at HI.out.1
      gi_wp2
      unfold roundEnd
      dsimp only
      exact ⟨Calm.setCell _ _ _ (by show _ < _; simp; omega), rfl, (heap_set HI.out.1 0 _).trans (by simp), hbad.out, HB2.out.setCell (by show _ ≤ _; simp) _⟩
    · have hd : decide ((lr.length : Int) < 3) = false := by simp; omega
      gi_wp2
      gi_loopw [35] (fun iv wr => ∃ k : Nat, iv = .int .i64 k ∧ k ≤ lr.length ∧ (∀ p ∈ lr.take k, nodeB p.1 p.2 = true) ∧ Below Wp.heap.size Wp wr) (fun iv _ => lr.length - (intOf iv).toNat)
      case atStart => exact ⟨0, rfl, Nat.zero_le _, by simp, Below.refl _ _⟩
      case round =>
        obtain ⟨k, rfl, hk, hgood, hB3⟩ := hrel
        have HG := Hd.mk hgood
        clear hgood
        by_cases hkl : k < lr.length
        · have hd1 : decide ((k : Int) < (lr.length : Int)) = true := by simp; omega
          have hd2 : decide (k < lr.length) = true := by simp; omega
          obtain ⟨bb, off, rfl, hcc⟩ := (HND.out.below hB3) (by omega)
          obtain ⟨⟨x, y⟩, hp⟩ : ∃ p, lr[k]? = some p := ⟨_, List.getElem?_eq_getElem hkl⟩
          obtain ⟨q1, q2⟩ := hcc k (x, y) hp
          have HP := Hd.mk hp
          have HB3 := Hd.mk hB3
          clear hcc hp hB3
          cases hq : nodeB x y with
          | true =>
            have HK : Hd (∀ w, Calls Tryz.prog 36 #[.agg #[.int .i64 x, .int .i64 y]] w fun e w' => e = .returned (.int .i64 0) ∧ Below w.heap.size w w') := ⟨fun w => by
              have h := pcheck_v x y true hq w
              exact h⟩
            have hgk : Hd (∀ p ∈ lr.take (k + 1), nodeB p.1 p.2 = true) := ⟨by
              intro p hp
              rw [List.take_add_one, HP.out] at hp
              rcases List.mem_append.1 hp with hp | hp
              · exact HG.out p hp
              · simp at hp
                rw [hp]
                exact hq⟩
            clear hq
            gi_wp2_with fail
            refine ⟨trivial, callsIn_round ((HK.out _).mono ?_)⟩
            rintro e w5 ⟨rfl, hb⟩
            have hB5 : Below Wp.heap.size Wp w5 := below_on (HB3.out.alloc HB3.out.size _) hb
            clear hb q1 q2
            gi_wp2
            go_roundw
            case rel => exact ⟨k + 1, by go_num, by omega, hgk.out, hB5⟩
            case measure => simp [intOf]; omega
          | false =>
            have HK : Hd (∀ w, Calls Tryz.prog 36 #[.agg #[.int .i64 x, .int .i64 y]] w fun e w' => e = .returned (.int .i64 2) ∧ Below w.heap.size w w') := ⟨fun w => by
              have h := pcheck_v x y false hq w
              exact h⟩
            have hbad : Hd (¬ (∀ l ∈ Ls, RingOk l)) := ⟨fun h => by
              have h1 := (h lr HLM.out).2 (x, y) (List.mem_of_getElem? HP.out)
              rw [hq] at h1
              cases h1⟩
            clear hq
            gi_wp2_with fail
            refine ⟨trivial, callsIn_round ((HK.out _).mono ?_)⟩
            rintro e w5 ⟨rfl, hb⟩
            have hB5 : Below Wp.heap.size Wp w5 := below_on (HB3.out.alloc HB3.out.size _) hb
            have hI5 := HI.out.below hB5
            have cr := cell_at hI5.1
            have fr := frozen_at hI5.1
            clear hb q1 q2
            gi_wp2
            unfold roundEnd
            dsimp only
            exact ⟨(Calm.of_below hB5 (by omega)).trans (Calm.setCell _ _ _ (by show _ < _; simp; omega)), rfl, (heap_set hI5.1 0 _).trans (by simp), hbad.out, (HB2.out.trans (hB5.mono hwp)).setCell (by show _ ≤ _; simp) _⟩
        · obtain rfl : k = lr.length := by omega
          have hd1 : decide (((lr.length : Nat) : Int) < (lr.length : Int)) = false := by simp
          have hI5 := HI.out.below hB3
          have cn := cell_at hI5.2
          have fn := frozen_at hI5.2
          have hgood : Hd (RingOk lr) := ⟨by omega, by have := HG.out; rwa [List.take_length] at this⟩
          have HB3 := Hd.mk hB3
          clear hB3
          gi_wp2
          unfold roundEnd
          dsimp only
          refine ⟨(Calm.of_below HB3.out (by omega)).trans (Calm.setCell _ _ _ (by show _ < _; simp; omega)), (HB3.out.mono hwp).trans ((Below.refl _ _).setCell (by show _ ≤ _; simp; omega) _), ⟨heap_set_other hI5.1 (by simp) _, ?_⟩, ?_, (HB2.out.trans (HB3.out.mono hwp)).setCell (by show _ ≤ _; simp; omega) _⟩
          · refine (heap_set hI5.2 0 _).trans ?_
            rw [List.length_append, List.length_cons, List.length_nil, HS.out]
            simp
          · rw [List.length_append, List.length_cons, List.length_nil]
            exact take_all HLR.out HOK.out hgood.out
  case done =>
    rintro Wx ⟨hI, hok, hB⟩ hM
    rw [hvl, List.take_length] at hI hok
    unfold Exit.inBlock Exit.then
    dsimp only
    have HQ := Hd.mk (And.intro hI (And.intro hB hM))
    have hsB := HB1.out.size
    have cn := cell_at hI.2
    have fr := frozen_at hI.1
    have cr := cell_at hI.1
    have he := HC1.out hok
    have hI1 := hI.1
    clear hI hok hB hM
    by_cases hbig : 512 < total Ls
    · have hd : decide (((total Ls : Nat) : Int) > 512) = true := by simp; omega
      rw [if_pos hbig] at he
      subst he
      go_wp2
      change LeavesInM Fence.wide 6 Tryz.prog _ _ _ (List.map coll [W1.heap.size]) .returning _
      refine leaves_marks W1.heap.size [W1.heap.size] _ (by simp) ?_ ?_
      · intro D hD
        obtain rfl : D = W1.heap.size := by simpa using hD
        exact ⟨Nat.le_refl _, heap_set_other HQ.out.2.2 (by show _ ≠ _; simp; omega) _⟩
      · intro Wy hWy
        have k2 := cell_at ((hWy.block _ (by omega)).trans ((heap_set hI1 0 (.int .i64 3)).trans (by rfl)))
        refine ⟨.int .i64 3, ?_, rfl, (HQ.out.2.1.setCell (by show _ ≤ _; simp) _).trans (hWy.mono hsB)⟩
        simp [results, Tryz.f12, go_sem, k2]
    · have hd : decide (((total Ls : Nat) : Int) > 512) = false := by simp; omega
      rw [if_neg hbig] at he
      subst he
      go_wp2
      change LeavesInM Fence.wide 6 Tryz.prog _ _ _ (List.map coll [W1.heap.size]) .returning _
      refine leaves_marks W1.heap.size [W1.heap.size] _ (by simp) ?_ ?_
      · intro D hD
        obtain rfl : D = W1.heap.size := by simpa using hD
        exact ⟨Nat.le_refl _, heap_set_other HQ.out.2.2 (by show _ ≠ _; simp; omega) _⟩
      · intro Wy hWy
        have k2 := cell_at ((hWy.block _ (by omega)).trans ((heap_set hI1 0 (.int .i64 0)).trans (by rfl)))
        refine ⟨.int .i64 0, ?_, rfl, (HQ.out.2.1.setCell (by show _ ≤ _; simp) _).trans (hWy.mono hsB)⟩
        simp [results, Tryz.f12, go_sem, k2]
  case stop =>
    rintro co pre Wx hsp ⟨rfl, h2, hbad, hB⟩ hM
    have he := HC2.out hbad
    subst he
    have hsB := HB1.out.size
    refine wpIn_ret ?_
    unfold Exit.inBlock Exit.then
    dsimp only
    change LeavesInM Fence.wide 6 Tryz.prog _ _ _ (List.map coll [W1.heap.size]) .returning _
    refine leaves_marks W1.heap.size [W1.heap.size] _ (by simp) ?_ ?_
    · intro D hD
      obtain rfl : D = W1.heap.size := by simpa using hD
      exact ⟨Nat.le_refl _, hM⟩
    · intro Wy hWy
      have k2 := cell_at ((hWy.block _ (by omega)).trans h2)
      refine ⟨.int .i64 2, ?_, rfl, hB.trans (hWy.mono hsB)⟩
      simp [results, Tryz.f12, go_sem, k2]
end Go.Proofs.YtfchmikbebdflaaGreatDoor

namespace Go.Proofs.YtfchmikbebdflaaGreatDoor
open Go.RowKit Go.BigFrame Go.Shelf
attribute [local go_sem] Oper.semAt_some

theorem eq_seg_zero {g : Sgm} (h : g ≠ ((0, 0), (0, 0))) : ((g.1.1 == 0 && g.1.2 == 0) && (g.2.1 == 0 && g.2.2 == 0)) = false := by
  obtain ⟨⟨a, b⟩, ⟨c, d⟩⟩ := g
  rw [Bool.eq_false_iff]
  intro e
  apply h
  simp only [Bool.and_eq_true, beq_iff_eq] at e
  obtain ⟨⟨e1, e2⟩, ⟨e3, e4⟩⟩ := e
  simp [e1, e2, e3, e4]
theorem abs_postM {F : Fence} {n : Nat} {P : Program} {fn : Func} {R : Ending → World → Prop} {e : Exit} {a : Act} {w : World} (I : World → Prop) (h0 : I w) (h : ∀ W, I W → bodyPostM F n P fn R e a W) : bodyPostM F n P fn R e a w := h w h0
theorem below_two (w : World) (o1 o2 : Obj) : Below w.heap.size w ((w.alloc o1).alloc o2) := ((Below.refl _ w).alloc (Nat.le_refl _) _).alloc (by simp) _
set_option maxRecDepth 100000 in
set_option maxHeartbeats 4000000 in
theorem wcheck_seg1 (g : Sgm) (Ls : List (List Nd)) (hne : Ls ≠ []) (A : Option Addr) (c : Nat) (w : World) (_hl : Ls.length ≤ 1100000) :
    Calls Tryz.prog 12 #[.agg (shV ⟨true, g, Ls⟩ A c)] w fun e w' => e = .returned (.int .i64 2) ∧ Below w.heap.size w w' := by
  have hpos : 0 < Ls.length := List.length_pos_iff.2 hne
  have hd1 : decide ((Ls.length : Int) > 0) = true := by simp; omega
  unfold shV
  refine (callsIn_wide (n := 6)).1 ?_
  refine callsIn_of_wp_marks Tryz.func12 rfl trivial ?_ rfl
  simp only [Tryz.ntmps12, List.size_toArray, List.length_cons, List.length_nil, Nat.reduceAdd, Nat.reduceSub, Array.replicate_succ, Array.replicate_zero, List.push_toArray, List.append_toArray, List.nil_append, List.cons_append]
  refine (wpIn_wide (n := 6)).2 ?_
  clear hne
  go_wp2
  have k2 := cell_at (heap_at (W := w.alloc (.cells #[.bool true, .int .i64 g.1.1, .int .i64 g.1.2, .int .i64 g.2.1, .int .i64 g.2.2, .slice A Ls.length c] 29)) (n := w.heap.size + 1) (by simp) (.cells #[.int .i64 2] 31))
  refine ⟨.int .i64 2, ?_, rfl, below_two w _ _⟩
  simp [results, Tryz.f12, go_sem, k2]
set_option maxRecDepth 100000 in
set_option maxHeartbeats 4000000 in
theorem wcheck_seg2 (g : Sgm) (A : Option Addr) (c : Nat) (w : World) :
    Calls Tryz.prog 12 #[.agg (shV ⟨true, g, []⟩ A c)] w fun e w' => e = .returned (.int .i64 (if sgB g = true then 0 else 2)) ∧ Below w.heap.size w w' := by
  have HK := Hd.mk (fun w => seg_check g.1.1 g.1.2 g.2.1 g.2.2 w)
  unfold sgB
  generalize segB g.1.1 g.1.2 g.2.1 g.2.2 = q at HK ⊢
  have HK2 : Hd (∀ w, Calls Tryz.prog 34 #[.agg #[.int .i64 g.1.1, .int .i64 g.1.2, .int .i64 g.2.1, .int .i64 g.2.2]] w fun e w' => e = .returned (.int .i64 (if q = true then 0 else 2)) ∧ Below w.heap.size w w') := HK
  generalize (if q = true then (0 : Int) else 2) = E at HK2 ⊢
  clear HK
  unfold shV
  refine (callsIn_wide (n := 6)).1 ?_
  refine callsIn_of_wp_marks Tryz.func12 rfl trivial ?_ rfl
  simp only [Tryz.ntmps12, List.size_toArray, List.length_cons, List.length_nil, Nat.reduceAdd, Nat.reduceSub, Array.replicate_succ, Array.replicate_zero, List.push_toArray, List.append_toArray, List.nil_append, List.cons_append]
  refine (wpIn_wide (n := 6)).2 ?_
  go_wp2_with fail
  refine (HK2.out _).mono ?_
  rintro e w1 ⟨rfl, hb⟩
  have z1 := heap_below hb (heap_at (n := w.heap.size + 1) (by simp) (.cells #[.int .i64 0] 31))
  have hB := below_on (below_two w _ _) hb
  have c1 := cell_at z1
  have f1 := frozen_at z1
  clear hb
  go_wp2
  have k2 := cell_at ((heap_set z1 0 (.int .i64 E)).trans (by rfl))
  refine ⟨.int .i64 E, ?_, rfl, hB.setCell (by show _ ≤ _; simp) _⟩
  simp [results, Tryz.f12, go_sem, k2]
set_option maxRecDepth 100000 in
set_option maxHeartbeats 4000000 in
theorem wcheck_both (g : Sgm) (Ls : List (List Nd)) (hg : g ≠ ((0, 0), (0, 0))) (A : Option Addr) (c : Nat) (w : World) :
    Calls Tryz.prog 12 #[.agg (shV ⟨false, g, Ls⟩ A c)] w fun e w' => e = .returned (.int .i64 2) ∧ Below w.heap.size w w' := by
  have hz := eq_seg_zero hg
  clear hg
  obtain ⟨⟨x, y⟩, ⟨u, v⟩⟩ := g
  simp only at hz
  unfold shV
  refine (callsIn_wide (n := 6)).1 ?_
  refine callsIn_of_wp_marks Tryz.func12 rfl trivial ?_ rfl
  simp only [Tryz.ntmps12, List.size_toArray, List.length_cons, List.length_nil, Nat.reduceAdd, Nat.reduceSub, Array.replicate_succ, Array.replicate_zero, List.push_toArray, List.append_toArray, List.nil_append, List.cons_append]
  refine (wpIn_wide (n := 6)).2 ?_
  go_wp2
  all_goals try (exfalso; subst_vars; cases hz; done)
  all_goals
    refine abs_postM (fun W => W.heap[w.heap.size + 1]? = some (.cells #[.int .i64 2] 31 (0, 0)) ∧ Below w.heap.size w W) ⟨heap_at (by simp) _, below_two w _ _⟩ fun W ⟨y0, hB⟩ => ?_
    have k2 := cell_at y0
    refine ⟨.int .i64 2, ?_, rfl, hB⟩
    simp [results, Tryz.f12, go_sem, k2]
set_option maxRecDepth 100000 in
set_option maxHeartbeats 4000000 in
theorem wcheck_none (A : Option Addr) (c : Nat) (w : World) :
    Calls Tryz.prog 12 #[.agg (shV ⟨false, ((0, 0), (0, 0)), []⟩ A c)] w fun e w' => e = .returned (.int .i64 2) ∧ Below w.heap.size w w' := by
  unfold shV
  refine (callsIn_wide (n := 6)).1 ?_
  refine callsIn_of_wp_marks Tryz.func12 rfl trivial ?_ rfl
  simp only [Tryz.ntmps12, List.size_toArray, List.length_cons, List.length_nil, Nat.reduceAdd, Nat.reduceSub, Array.replicate_succ, Array.replicate_zero, List.push_toArray, List.append_toArray, List.nil_append, List.cons_append]
  refine (wpIn_wide (n := 6)).2 ?_
  go_wp2
  have k2 := cell_at (heap_at (W := w.alloc (.cells #[.bool false, .int .i64 0, .int .i64 0, .int .i64 0, .int .i64 0, .slice A 0 c] 29)) (n := w.heap.size + 1) (by simp) (.cells #[.int .i64 2] 31))
  refine ⟨.int .i64 2, ?_, rfl, below_two w _ _⟩
  simp [results, Tryz.f12, go_sem, k2]
theorem wcheck_any (s : Shp) (A : Option Addr) (c : Nat) (w : World) (hR : RingsIn w A s.rs) (ht : total s.rs ≤ 1100000) (hl : s.rs.length ≤ 1100000) :
    Calls Tryz.prog 12 #[.agg (shV s A c)] w fun e w' => e = .returned (.int .i64 (checkV s)) ∧ Below w.heap.size w w' := by
  obtain ⟨is, g, Ls⟩ := s
  cases is with
  | true =>
    by_cases h : Ls = []
    · subst h
      have e : checkV ⟨true, g, []⟩ = if sgB g = true then 0 else 2 := by simp [checkV]
      rw [e]
      exact wcheck_seg2 g A c w
    · have e : checkV ⟨true, g, Ls⟩ = 2 := by simp [checkV, h]
      rw [e]
      exact wcheck_seg1 g Ls h A c w hl
  | false =>
    by_cases hg : g = ((0, 0), (0, 0))
    · subst hg
      by_cases h : Ls = []
      · subst h
        have e : checkV ⟨false, ((0, 0), (0, 0)), []⟩ = 2 := by simp [checkV]
        rw [e]
        exact wcheck_none A c w
      · exact wcheck_rings Ls h A c w hR ht hl
    · have e : checkV ⟨false, g, Ls⟩ = 2 := by simp [checkV, hg]
      rw [e]
      exact wcheck_both g Ls hg A c w
end Go.Proofs.YtfchmikbebdflaaGreatDoor
