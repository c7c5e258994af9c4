/-
  The walk of LimbSums, path by path (printed by gen/sums.py of this project). Conditions stand in each theorem.
-/
import Derived.Test.YteibcklcegkbcaaSu1
namespace Go.Proofs.Yteibcklcegkbcaa
open Go.RowKit Go.BigFrame

def okAll (ps : List (Bool × Nat)) : Bool := ps.all fun p => decide (okP p)
theorem take_ok {ps : List (Bool × Nat)} {k : Nat} {r : Bool × Nat} (h : ps[k]? = some r) : okAll (ps.take (k + 1)) = (okAll (ps.take k) && decide (okP r)) := by
  unfold okAll
  rw [List.take_add_one, h, List.all_append]
  simp
theorem okAll_iff (ps : List (Bool × Nat)) : okAll ps = true ↔ ∀ p ∈ ps, okP p := by
  unfold okAll
  simp
theorem rright_no (p : Bool × Nat) (hp : p.2 < 2 ^ 256) (h : ¬ okP p) (w : World) :
    Calls Try.prog 13 #[.agg #[.bool (p.1), .int .u64 (dg (p.2) 0), .int .u64 (dg (p.2) 1), .int .u64 (dg (p.2) 2), .int .u64 (dg (p.2) 3)]] w fun e w' => e = .returned (.bool false) ∧ Below w.heap.size w w' := by
  have h1 := rright_any p hp w
  rw [decide_eq_false h] at h1
  exact h1
theorem sub_at (x y : Int) (hx : ab x < 2 ^ 256) (hy : ab y < 2 ^ 256) (w : World) :
    Calls Try.prog 37 #[.agg #[.bool (ng (x)), .int .u64 (dg (ab (x)) 0), .int .u64 (dg (ab (x)) 1), .int .u64 (dg (ab (x)) 2), .int .u64 (dg (ab (x)) 3)], .agg #[.bool (ng (y)), .int .u64 (dg (ab (y)) 0), .int .u64 (dg (ab (y)) 1), .int .u64 (dg (ab (y)) 2), .int .u64 (dg (ab (y)) 3)]] w fun e w' => e = .returned (.tuple #[.agg #[.bool (ng (outV (x - y))), .int .u64 (dg (ab (outV (x - y))) 0), .int .u64 (dg (ab (outV (x - y))) 1), .int .u64 (dg (ab (outV (x - y))) 2), .int .u64 (dg (ab (outV (x - y))) 3)], .int .i64 (outE (x - y))]) ∧ Below w.heap.size w w' := by
  have h := sub_ok x y hx hy w
  have h1 : addF 0 [x, -y] = if ab (x - y) < 2 ^ 256 then some (x - y) else none := by
    rw [addF, Int.zero_add, if_pos hx, addF, ← Int.sub_eq_add_neg]
    rfl
  have h2 : addV [x, -y] = outV (x - y) := by unfold addV outV; rw [h1]; split <;> rfl
  have h3 : addE [x, -y] = outE (x - y) := by unfold addE outE; rw [h1]; split <;> rfl
  rw [h2, h3] at h
  exact h
set_option maxRecDepth 100000 in
set_option maxHeartbeats 4000000 in
theorem sums_bad (w : World) (A : Option Addr) (c : Nat) (ps : List (Bool × Nat)) (p q : Bool × Nat) (HNO : Hd (¬ ∀ p ∈ ps, okP p)) (HI : Hd (IntsAt w A ps)) (HL : Hd (ps.length ≤ 6)) (HALL : Hd (okAll (ps.take ps.length) = false)) :
    Calls Try.prog 8 #[.slice A ps.length c, .agg #[.bool (p.1), .int .u64 (dg (p.2) 0), .int .u64 (dg (p.2) 1), .int .u64 (dg (p.2) 2), .int .u64 (dg (p.2) 3)], .agg #[.bool (q.1), .int .u64 (dg (q.2) 0), .int .u64 (dg (q.2) 1), .int .u64 (dg (q.2) 2), .int .u64 (dg (q.2) 3)]] w fun e w' => e = .returned (.bool true) ∧ Below w.heap.size w w' := by
  have hl6 : decide ((ps.length : Int) > 6) = false := by have := HL.out; simp; omega
  have hl7 := HL.out
  go_enter Try.func8, Try.ntmps8
  have hB := Below.refl w.heap.size w
  have hsz := hB.size
  go_upto_region 3 with (fail)
  refine abs_wp (fun W => W.heap[w.heap.size]? = some (.cells #[.bool (p.1), .int .u64 (dg (p.2) 0), .int .u64 (dg (p.2) 1), .int .u64 (dg (p.2) 2), .int .u64 (dg (p.2) 3)] 25 (0, 0)) ∧ W.heap[w.heap.size + 1]? = some (.cells #[.bool (q.1), .int .u64 (dg (q.2) 0), .int .u64 (dg (q.2) 1), .int .u64 (dg (q.2) 2), .int .u64 (dg (q.2) 3)] 25 (0, 0)) ∧ Below w.heap.size w W) ⟨heap_old (heap_new _ _) _, heap_at (by simp) _, (by focus (repeat (first | (with_reducible exact Below.refl _ _) | (with_reducible assumption) | ((with_reducible refine Below.setCell ?_ ?_ _); rotate_left; (focus (first | omega | (simp; done) | (simp; omega)))) | ((with_reducible refine Below.alloc ?_ ?_ _); rotate_left; (focus (first | omega | (simp; done) | (simp; omega)))) | (with_reducible refine Below.drew ?_) | (refine below_on ?_ (by assumption)))))⟩ fun W1 ⟨g_a, g_b, gB⟩ => ?_
  clear hB hsz 
  have h_a := g_a
  have h_b := g_b
  have hB := gB
  clear gB g_a g_b
  go_wp2
  go_loopw [7, 8] (fun bv iv wr => ∃ k : Nat, k ≤ ps.length ∧ iv = .int .i64 k ∧ bv = .bool (okAll (ps.take k)) ∧ wr.heap[w.heap.size]? = some (.cells #[.bool (p.1), .int .u64 (dg (p.2) 0), .int .u64 (dg (p.2) 1), .int .u64 (dg (p.2) 2), .int .u64 (dg (p.2) 3)] 25 (0, 0)) ∧ wr.heap[w.heap.size + 1]? = some (.cells #[.bool (q.1), .int .u64 (dg (q.2) 0), .int .u64 (dg (q.2) 1), .int .u64 (dg (q.2) 2), .int .u64 (dg (q.2) 3)] 25 (0, 0)) ∧ Below w.heap.size w wr) (fun _ iv _ => ps.length - (intOf iv).toNat)
  case atStart => exact ⟨0, Nat.zero_le _, rfl, rfl, h_a, h_b, hB⟩
  case round =>
    clear h_a h_b hB
    obtain ⟨k, hk, rfl, rfl, h_a, h_b, hB⟩ := hrel
    have hsz := hB.size
    by_cases hlt : k < ps.length
    · have hd1 : decide (k < ps.length) = true := by simpa using hlt
      obtain ⟨r, hr⟩ : ∃ r, ps[k]? = some r := ⟨_, List.getElem?_eq_getElem (by simpa using hlt)⟩
      have HT := Hd.mk (take_ok hr)
      have hrb := HI.out.1 r (List.mem_of_getElem? hr)
      have HRB := Hd.mk hrb
      obtain ⟨b, off, rfl, hcell⟩ := (HI.out.below hB).2.2 (by first | omega | (simp; omega))
      have hfive := hcell k r hr
      have e0 : wr.cell? ⟨b, off + k * 5, none⟩ = some (.bool r.1) := hfive 0 (by omega)
      have e1 : wr.cell? ⟨b, off + k * 5 + 1, none⟩ = some (.int .u64 (dg r.2 0)) := hfive 1 (by omega)
      have e2 : wr.cell? ⟨b, off + k * 5 + 2, none⟩ = some (.int .u64 (dg r.2 1)) := hfive 2 (by omega)
      have e3 : wr.cell? ⟨b, off + k * 5 + 3, none⟩ = some (.int .u64 (dg r.2 2)) := hfive 3 (by omega)
      have e4 : wr.cell? ⟨b, off + k * 5 + 4, none⟩ = some (.int .u64 (dg r.2 3)) := hfive 4 (by omega)
      clear hr hrb hcell hfive
      cases hq : okAll (ps.take k)
      · have HQ := Hd.mk hq
        clear hq
        go_wp2
        go_roundw
        case rel => exact ⟨k + 1, by omega, by go_num, by rw [HT.out, HQ.out, Bool.false_and], h_a, h_b, hB⟩
        case measure => simp [intOf]; omega
      · have HQ := Hd.mk hq
        clear hq
        go_wp2_with fail
        refine (rright_any r HRB.out _).mono ?_
        rintro e w2 ⟨rfl, hb⟩
        have k_a := heap_below hb h_a
        have k_b := heap_below hb h_b
        have kB := below_on hB hb
        clear hb h_a h_b hB
        go_wp2
        go_roundw
        case rel => exact ⟨k + 1, by omega, by go_num, by rw [HT.out, HQ.out, Bool.true_and], k_a, k_b, kB⟩
        case measure => simp [intOf]; omega
    · obtain rfl : k = ps.length := by omega
      have hd1 : decide (ps.length < ps.length) = false := by simp
      rw [show okAll (ps.take ps.length) = false from HALL.out]
      go_wp2_with fail
      refine (add_bad A c ps _ (HI.out.below hB) HNO.out).mono ?_
      rintro e w2 ⟨rfl, hb⟩
      have k_a := heap_below hb h_a
      have k_b := heap_below hb h_b
      have kB : Below w.heap.size w w2 := by
        have hsz := hB.size
        focus (repeat (first | (with_reducible exact Below.refl _ _) | (with_reducible assumption) | ((with_reducible refine Below.setCell ?_ ?_ _); rotate_left; (focus (first | omega | (simp; done) | (simp; omega)))) | ((with_reducible refine Below.alloc ?_ ?_ _); rotate_left; (focus (first | omega | (simp; done) | (simp; omega)))) | (with_reducible refine Below.drew ?_) | (refine below_on ?_ (by assumption))))
      have sz_w2 := kB.size
      have sl_w2 := lt_of_block k_b
      clear hB hb h_a h_b
      have h_a := k_a
      have h_b := k_b
      have hB := kB
      clear kB k_a k_b
      have hsz := hB.size
      go_upto_region 9 with (fail)
      refine abs_wp (fun W => W.heap[w.heap.size]? = some (.cells #[.bool (p.1), .int .u64 (dg (p.2) 0), .int .u64 (dg (p.2) 1), .int .u64 (dg (p.2) 2), .int .u64 (dg (p.2) 3)] 25 (0, 0)) ∧ W.heap[w.heap.size + 1]? = some (.cells #[.bool (q.1), .int .u64 (dg (q.2) 0), .int .u64 (dg (q.2) 1), .int .u64 (dg (q.2) 2), .int .u64 (dg (q.2) 3)] 25 (0, 0)) ∧ W.heap[w2.heap.size]? = some (.cells #[.bool (ng (0)), .int .u64 (dg (ab (0)) 0), .int .u64 (dg (ab (0)) 1), .int .u64 (dg (ab (0)) 2), .int .u64 (dg (ab (0)) 3)] 25 (0, 0)) ∧ Below w.heap.size w W) ⟨heap_old (h_a) _, heap_old (h_b) _, heap_new _ _, (by focus (repeat (first | (with_reducible exact Below.refl _ _) | (with_reducible assumption) | ((with_reducible refine Below.setCell ?_ ?_ _); rotate_left; (focus (first | omega | (simp; done) | (simp; omega)))) | ((with_reducible refine Below.alloc ?_ ?_ _); rotate_left; (focus (first | omega | (simp; done) | (simp; omega)))) | (with_reducible refine Below.drew ?_) | (refine below_on ?_ (by assumption)))))⟩ fun W3 ⟨g_a, g_b, g_s, gB⟩ => ?_
      clear hB hsz h_a h_b
      have h_a := g_a
      have h_b := g_b
      have h_s := g_s
      have hB := gB
      clear gB g_a g_b g_s
      go_wp2_with fail
      refine (mul_bad A c ps _ (HI.out.below hB) HNO.out).mono ?_
      rintro e w4 ⟨rfl, hb⟩
      have k_a := heap_below hb h_a
      have k_b := heap_below hb h_b
      have k_s := heap_below hb h_s
      have kB : Below w.heap.size w w4 := by
        have hsz := hB.size
        focus (repeat (first | (with_reducible exact Below.refl _ _) | (with_reducible assumption) | ((with_reducible refine Below.setCell ?_ ?_ _); rotate_left; (focus (first | omega | (simp; done) | (simp; omega)))) | ((with_reducible refine Below.alloc ?_ ?_ _); rotate_left; (focus (first | omega | (simp; done) | (simp; omega)))) | (with_reducible refine Below.drew ?_) | (refine below_on ?_ (by assumption))))
      have sz_w4 := kB.size
      have sl_w4 := lt_of_block k_s
      clear hB hb h_a h_b h_s
      have h_a := k_a
      have h_b := k_b
      have h_s := k_s
      have hB := kB
      clear kB k_a k_b k_s
      have hsz := hB.size
      go_upto_region 10 with (fail)
      refine abs_wp (fun W => W.heap[w.heap.size]? = some (.cells #[.bool (p.1), .int .u64 (dg (p.2) 0), .int .u64 (dg (p.2) 1), .int .u64 (dg (p.2) 2), .int .u64 (dg (p.2) 3)] 25 (0, 0)) ∧ W.heap[w.heap.size + 1]? = some (.cells #[.bool (q.1), .int .u64 (dg (q.2) 0), .int .u64 (dg (q.2) 1), .int .u64 (dg (q.2) 2), .int .u64 (dg (q.2) 3)] 25 (0, 0)) ∧ W.heap[w2.heap.size]? = some (.cells #[.bool (ng (0)), .int .u64 (dg (ab (0)) 0), .int .u64 (dg (ab (0)) 1), .int .u64 (dg (ab (0)) 2), .int .u64 (dg (ab (0)) 3)] 25 (0, 0)) ∧ W.heap[w4.heap.size]? = some (.cells #[.bool (ng (0)), .int .u64 (dg (ab (0)) 0), .int .u64 (dg (ab (0)) 1), .int .u64 (dg (ab (0)) 2), .int .u64 (dg (ab (0)) 3)] 25 (0, 0)) ∧ Below w.heap.size w W) ⟨heap_old (h_a) _, heap_old (h_b) _, heap_old (h_s) _, heap_new _ _, (by focus (repeat (first | (with_reducible exact Below.refl _ _) | (with_reducible assumption) | ((with_reducible refine Below.setCell ?_ ?_ _); rotate_left; (focus (first | omega | (simp; done) | (simp; omega)))) | ((with_reducible refine Below.alloc ?_ ?_ _); rotate_left; (focus (first | omega | (simp; done) | (simp; omega)))) | (with_reducible refine Below.drew ?_) | (refine below_on ?_ (by assumption)))))⟩ fun W5 ⟨g_a, g_b, g_s, g_p, gB⟩ => ?_
      clear hB hsz h_a h_b h_s
      have h_a := g_a
      have h_b := g_b
      have h_s := g_s
      have h_p := g_p
      have hB := gB
      clear gB g_a g_b g_s g_p
      have c_s := cell_at h_s
      have c_p := cell_at h_p
      go_wp2_with ((go_at_call 14; refine (num_s _ _).mono ?_; rintro e w' ⟨rfl, rfl⟩))
      refine (works_any _).mono ?_
      rintro e wz ⟨rfl, hb⟩
      have hF := below_on hB hb
      go_wp2
      go_ret
      exact ⟨rfl, hF⟩
set_option maxRecDepth 100000 in
set_option maxHeartbeats 4000000 in
theorem sums_g1 (w : World) (A : Option Addr) (c : Nat) (zs : List Int) (p q : Bool × Nat) (HP : Hd (p.2 < 2 ^ 256)) (HQ : Hd (q.2 < 2 ^ 256)) (HO : Hd (¬ (okP p ∧ okP q))) (HO1 : Hd (¬ okP p)) (HI : Hd (IntsAt w A (zs.map pr))) (HL : Hd (zs.length ≤ 6)) (HALL : Hd (okAll ((zs.map pr).take zs.length) = true)) (HZS : Hd (∀ z ∈ zs, ab z < 2 ^ 256)) :
    Calls Try.prog 8 #[.slice A zs.length c, .agg #[.bool (p.1), .int .u64 (dg (p.2) 0), .int .u64 (dg (p.2) 1), .int .u64 (dg (p.2) 2), .int .u64 (dg (p.2) 3)], .agg #[.bool (q.1), .int .u64 (dg (q.2) 0), .int .u64 (dg (q.2) 1), .int .u64 (dg (q.2) 2), .int .u64 (dg (q.2) 3)]] w fun e w' => e = .returned (.bool true) ∧ Below w.heap.size w w' := by
  have hl6 : decide ((zs.length : Int) > 6) = false := by have := HL.out; simp; omega
  have hl7 := HL.out
  go_enter Try.func8, Try.ntmps8
  have hB := Below.refl w.heap.size w
  have hsz := hB.size
  go_upto_region 3 with (fail)
  refine abs_wp (fun W => W.heap[w.heap.size]? = some (.cells #[.bool (p.1), .int .u64 (dg (p.2) 0), .int .u64 (dg (p.2) 1), .int .u64 (dg (p.2) 2), .int .u64 (dg (p.2) 3)] 25 (0, 0)) ∧ W.heap[w.heap.size + 1]? = some (.cells #[.bool (q.1), .int .u64 (dg (q.2) 0), .int .u64 (dg (q.2) 1), .int .u64 (dg (q.2) 2), .int .u64 (dg (q.2) 3)] 25 (0, 0)) ∧ Below w.heap.size w W) ⟨heap_old (heap_new _ _) _, heap_at (by simp) _, (by focus (repeat (first | (with_reducible exact Below.refl _ _) | (with_reducible assumption) | ((with_reducible refine Below.setCell ?_ ?_ _); rotate_left; (focus (first | omega | (simp; done) | (simp; omega)))) | ((with_reducible refine Below.alloc ?_ ?_ _); rotate_left; (focus (first | omega | (simp; done) | (simp; omega)))) | (with_reducible refine Below.drew ?_) | (refine below_on ?_ (by assumption)))))⟩ fun W1 ⟨g_a, g_b, gB⟩ => ?_
  clear hB hsz 
  have h_a := g_a
  have h_b := g_b
  have hB := gB
  clear gB g_a g_b
  go_wp2
  go_loopw [7, 8] (fun bv iv wr => ∃ k : Nat, k ≤ zs.length ∧ iv = .int .i64 k ∧ bv = .bool (okAll ((zs.map pr).take k)) ∧ wr.heap[w.heap.size]? = some (.cells #[.bool (p.1), .int .u64 (dg (p.2) 0), .int .u64 (dg (p.2) 1), .int .u64 (dg (p.2) 2), .int .u64 (dg (p.2) 3)] 25 (0, 0)) ∧ wr.heap[w.heap.size + 1]? = some (.cells #[.bool (q.1), .int .u64 (dg (q.2) 0), .int .u64 (dg (q.2) 1), .int .u64 (dg (q.2) 2), .int .u64 (dg (q.2) 3)] 25 (0, 0)) ∧ Below w.heap.size w wr) (fun _ iv _ => zs.length - (intOf iv).toNat)
  case atStart => exact ⟨0, Nat.zero_le _, rfl, rfl, h_a, h_b, hB⟩
  case round =>
    clear h_a h_b hB
    obtain ⟨k, hk, rfl, rfl, h_a, h_b, hB⟩ := hrel
    have hsz := hB.size
    by_cases hlt : k < zs.length
    · have hd1 : decide (k < zs.length) = true := by simpa using hlt
      obtain ⟨r, hr⟩ : ∃ r, (zs.map pr)[k]? = some r := ⟨_, List.getElem?_eq_getElem (by simpa using hlt)⟩
      have HT := Hd.mk (take_ok hr)
      have hrb := HI.out.1 r (List.mem_of_getElem? hr)
      have HRB := Hd.mk hrb
      obtain ⟨b, off, rfl, hcell⟩ := (HI.out.below hB).2.2 (by first | omega | (simp; omega))
      have hfive := hcell k r hr
      have e0 : wr.cell? ⟨b, off + k * 5, none⟩ = some (.bool r.1) := hfive 0 (by omega)
      have e1 : wr.cell? ⟨b, off + k * 5 + 1, none⟩ = some (.int .u64 (dg r.2 0)) := hfive 1 (by omega)
      have e2 : wr.cell? ⟨b, off + k * 5 + 2, none⟩ = some (.int .u64 (dg r.2 1)) := hfive 2 (by omega)
      have e3 : wr.cell? ⟨b, off + k * 5 + 3, none⟩ = some (.int .u64 (dg r.2 2)) := hfive 3 (by omega)
      have e4 : wr.cell? ⟨b, off + k * 5 + 4, none⟩ = some (.int .u64 (dg r.2 3)) := hfive 4 (by omega)
      clear hr hrb hcell hfive
      cases hq : okAll ((zs.map pr).take k)
      · have HQ := Hd.mk hq
        clear hq
        go_wp2
        go_roundw
        case rel => exact ⟨k + 1, by omega, by go_num, by rw [HT.out, HQ.out, Bool.false_and], h_a, h_b, hB⟩
        case measure => simp [intOf]; omega
      · have HQ := Hd.mk hq
        clear hq
        go_wp2_with fail
        refine (rright_any r HRB.out _).mono ?_
        rintro e w2 ⟨rfl, hb⟩
        have k_a := heap_below hb h_a
        have k_b := heap_below hb h_b
        have kB := below_on hB hb
        clear hb h_a h_b hB
        go_wp2
        go_roundw
        case rel => exact ⟨k + 1, by omega, by go_num, by rw [HT.out, HQ.out, Bool.true_and], k_a, k_b, kB⟩
        case measure => simp [intOf]; omega
    · obtain rfl : k = zs.length := by omega
      have hd1 : decide (zs.length < zs.length) = false := by simp
      rw [show okAll ((zs.map pr).take zs.length) = true from HALL.out]
      go_wp2_with fail
      refine (add_ok A c zs _ (HI.out.below hB)).mono ?_
      rintro e w2 ⟨rfl, hb⟩
      have k_a := heap_below hb h_a
      have k_b := heap_below hb h_b
      have kB : Below w.heap.size w w2 := by
        have hsz := hB.size
        focus (repeat (first | (with_reducible exact Below.refl _ _) | (with_reducible assumption) | ((with_reducible refine Below.setCell ?_ ?_ _); rotate_left; (focus (first | omega | (simp; done) | (simp; omega)))) | ((with_reducible refine Below.alloc ?_ ?_ _); rotate_left; (focus (first | omega | (simp; done) | (simp; omega)))) | (with_reducible refine Below.drew ?_) | (refine below_on ?_ (by assumption))))
      have sz_w2 := kB.size
      have sl_w2 := lt_of_block k_b
      clear hB hb h_a h_b
      have h_a := k_a
      have h_b := k_b
      have hB := kB
      clear kB k_a k_b
      have hsz := hB.size
      go_upto_region 9 with (fail)
      refine abs_wp (fun W => W.heap[w.heap.size]? = some (.cells #[.bool (p.1), .int .u64 (dg (p.2) 0), .int .u64 (dg (p.2) 1), .int .u64 (dg (p.2) 2), .int .u64 (dg (p.2) 3)] 25 (0, 0)) ∧ W.heap[w.heap.size + 1]? = some (.cells #[.bool (q.1), .int .u64 (dg (q.2) 0), .int .u64 (dg (q.2) 1), .int .u64 (dg (q.2) 2), .int .u64 (dg (q.2) 3)] 25 (0, 0)) ∧ W.heap[w2.heap.size]? = some (.cells #[.bool (ng (addV zs)), .int .u64 (dg (ab (addV zs)) 0), .int .u64 (dg (ab (addV zs)) 1), .int .u64 (dg (ab (addV zs)) 2), .int .u64 (dg (ab (addV zs)) 3)] 25 (0, 0)) ∧ Below w.heap.size w W) ⟨heap_old (h_a) _, heap_old (h_b) _, heap_new _ _, (by focus (repeat (first | (with_reducible exact Below.refl _ _) | (with_reducible assumption) | ((with_reducible refine Below.setCell ?_ ?_ _); rotate_left; (focus (first | omega | (simp; done) | (simp; omega)))) | ((with_reducible refine Below.alloc ?_ ?_ _); rotate_left; (focus (first | omega | (simp; done) | (simp; omega)))) | (with_reducible refine Below.drew ?_) | (refine below_on ?_ (by assumption)))))⟩ fun W3 ⟨g_a, g_b, g_s, gB⟩ => ?_
      clear hB hsz h_a h_b
      have h_a := g_a
      have h_b := g_b
      have h_s := g_s
      have hB := gB
      clear gB g_a g_b g_s
      go_wp2_with fail
      refine (mul_ok A c zs _ (HI.out.below hB)).mono ?_
      rintro e w4 ⟨rfl, hb⟩
      have k_a := heap_below hb h_a
      have k_b := heap_below hb h_b
      have k_s := heap_below hb h_s
      have kB : Below w.heap.size w w4 := by
        have hsz := hB.size
        focus (repeat (first | (with_reducible exact Below.refl _ _) | (with_reducible assumption) | ((with_reducible refine Below.setCell ?_ ?_ _); rotate_left; (focus (first | omega | (simp; done) | (simp; omega)))) | ((with_reducible refine Below.alloc ?_ ?_ _); rotate_left; (focus (first | omega | (simp; done) | (simp; omega)))) | (with_reducible refine Below.drew ?_) | (refine below_on ?_ (by assumption))))
      have sz_w4 := kB.size
      have sl_w4 := lt_of_block k_s
      clear hB hb h_a h_b h_s
      have h_a := k_a
      have h_b := k_b
      have h_s := k_s
      have hB := kB
      clear kB k_a k_b k_s
      have hsz := hB.size
      go_upto_region 10 with (fail)
      refine abs_wp (fun W => W.heap[w.heap.size]? = some (.cells #[.bool (p.1), .int .u64 (dg (p.2) 0), .int .u64 (dg (p.2) 1), .int .u64 (dg (p.2) 2), .int .u64 (dg (p.2) 3)] 25 (0, 0)) ∧ W.heap[w.heap.size + 1]? = some (.cells #[.bool (q.1), .int .u64 (dg (q.2) 0), .int .u64 (dg (q.2) 1), .int .u64 (dg (q.2) 2), .int .u64 (dg (q.2) 3)] 25 (0, 0)) ∧ W.heap[w2.heap.size]? = some (.cells #[.bool (ng (addV zs)), .int .u64 (dg (ab (addV zs)) 0), .int .u64 (dg (ab (addV zs)) 1), .int .u64 (dg (ab (addV zs)) 2), .int .u64 (dg (ab (addV zs)) 3)] 25 (0, 0)) ∧ W.heap[w4.heap.size]? = some (.cells #[.bool (ng (mulV zs)), .int .u64 (dg (ab (mulV zs)) 0), .int .u64 (dg (ab (mulV zs)) 1), .int .u64 (dg (ab (mulV zs)) 2), .int .u64 (dg (ab (mulV zs)) 3)] 25 (0, 0)) ∧ Below w.heap.size w W) ⟨heap_old (h_a) _, heap_old (h_b) _, heap_old (h_s) _, heap_new _ _, (by focus (repeat (first | (with_reducible exact Below.refl _ _) | (with_reducible assumption) | ((with_reducible refine Below.setCell ?_ ?_ _); rotate_left; (focus (first | omega | (simp; done) | (simp; omega)))) | ((with_reducible refine Below.alloc ?_ ?_ _); rotate_left; (focus (first | omega | (simp; done) | (simp; omega)))) | (with_reducible refine Below.drew ?_) | (refine below_on ?_ (by assumption)))))⟩ fun W5 ⟨g_a, g_b, g_s, g_p, gB⟩ => ?_
      clear hB hsz h_a h_b h_s
      have h_a := g_a
      have h_b := g_b
      have h_s := g_s
      have h_p := g_p
      have hB := gB
      clear gB g_a g_b g_s g_p
      go_wp2_with fail
      refine (steps_false A c zs HZS.out _ (HI.out.below hB)).mono ?_
      rintro e w6 ⟨rfl, hb⟩
      have k_a := heap_below hb h_a
      have k_b := heap_below hb h_b
      have k_s := heap_below hb h_s
      have k_p := heap_below hb h_p
      have kB : Below w.heap.size w w6 := by
        have hsz := hB.size
        focus (repeat (first | (with_reducible exact Below.refl _ _) | (with_reducible assumption) | ((with_reducible refine Below.setCell ?_ ?_ _); rotate_left; (focus (first | omega | (simp; done) | (simp; omega)))) | ((with_reducible refine Below.alloc ?_ ?_ _); rotate_left; (focus (first | omega | (simp; done) | (simp; omega)))) | (with_reducible refine Below.drew ?_) | (refine below_on ?_ (by assumption))))
      have sz_w6 := kB.size
      have sl_w6 := lt_of_block k_p
      clear hB hb h_a h_b h_s h_p
      have h_a := k_a
      have h_b := k_b
      have h_s := k_s
      have h_p := k_p
      have hB := kB
      clear kB k_a k_b k_s k_p
      have hsz := hB.size
      go_upto_region 13 with (fail)
      refine abs_wp (fun W => W.heap[w.heap.size]? = some (.cells #[.bool (p.1), .int .u64 (dg (p.2) 0), .int .u64 (dg (p.2) 1), .int .u64 (dg (p.2) 2), .int .u64 (dg (p.2) 3)] 25 (0, 0)) ∧ W.heap[w.heap.size + 1]? = some (.cells #[.bool (q.1), .int .u64 (dg (q.2) 0), .int .u64 (dg (q.2) 1), .int .u64 (dg (q.2) 2), .int .u64 (dg (q.2) 3)] 25 (0, 0)) ∧ W.heap[w2.heap.size]? = some (.cells #[.bool (ng (addV zs)), .int .u64 (dg (ab (addV zs)) 0), .int .u64 (dg (ab (addV zs)) 1), .int .u64 (dg (ab (addV zs)) 2), .int .u64 (dg (ab (addV zs)) 3)] 25 (0, 0)) ∧ W.heap[w4.heap.size]? = some (.cells #[.bool (ng (mulV zs)), .int .u64 (dg (ab (mulV zs)) 0), .int .u64 (dg (ab (mulV zs)) 1), .int .u64 (dg (ab (mulV zs)) 2), .int .u64 (dg (ab (mulV zs)) 3)] 25 (0, 0)) ∧ W.heap[w6.heap.size]? = some (.cells #[.bool (ng (addV zs)), .int .u64 (dg (ab (addV zs)) 0), .int .u64 (dg (ab (addV zs)) 1), .int .u64 (dg (ab (addV zs)) 2), .int .u64 (dg (ab (addV zs)) 3)] 25 (0, 0)) ∧ Below w.heap.size w W) ⟨heap_old (h_a) _, heap_old (h_b) _, heap_old (h_s) _, heap_old (h_p) _, heap_new _ _, (by focus (repeat (first | (with_reducible exact Below.refl _ _) | (with_reducible assumption) | ((with_reducible refine Below.setCell ?_ ?_ _); rotate_left; (focus (first | omega | (simp; done) | (simp; omega)))) | ((with_reducible refine Below.alloc ?_ ?_ _); rotate_left; (focus (first | omega | (simp; done) | (simp; omega)))) | (with_reducible refine Below.drew ?_) | (refine below_on ?_ (by assumption)))))⟩ fun W7 ⟨g_a, g_b, g_s, g_p, g_want, gB⟩ => ?_
      clear hB hsz h_a h_b h_s h_p
      have h_a := g_a
      have h_b := g_b
      have h_s := g_s
      have h_p := g_p
      have h_want := g_want
      have hB := gB
      clear gB g_a g_b g_s g_p g_want
      go_wp2_with fail
      refine (steps_true A c zs HZS.out _ (HI.out.below hB)).mono ?_
      rintro e w8 ⟨rfl, hb⟩
      have k_a := heap_below hb h_a
      have k_b := heap_below hb h_b
      have k_s := heap_below hb h_s
      have k_p := heap_below hb h_p
      have k_want := heap_below hb h_want
      have kB : Below w.heap.size w w8 := by
        have hsz := hB.size
        focus (repeat (first | (with_reducible exact Below.refl _ _) | (with_reducible assumption) | ((with_reducible refine Below.setCell ?_ ?_ _); rotate_left; (focus (first | omega | (simp; done) | (simp; omega)))) | ((with_reducible refine Below.alloc ?_ ?_ _); rotate_left; (focus (first | omega | (simp; done) | (simp; omega)))) | (with_reducible refine Below.drew ?_) | (refine below_on ?_ (by assumption))))
      have sz_w8 := kB.size
      have sl_w8 := lt_of_block k_want
      clear hB hb h_a h_b h_s h_p h_want
      have h_a := k_a
      have h_b := k_b
      have h_s := k_s
      have h_p := k_p
      have h_want := k_want
      have hB := kB
      clear kB k_a k_b k_s k_p k_want
      have hsz := hB.size
      go_upto_region 14 with (fail)
      refine abs_wp (fun W => W.heap[w.heap.size]? = some (.cells #[.bool (p.1), .int .u64 (dg (p.2) 0), .int .u64 (dg (p.2) 1), .int .u64 (dg (p.2) 2), .int .u64 (dg (p.2) 3)] 25 (0, 0)) ∧ W.heap[w.heap.size + 1]? = some (.cells #[.bool (q.1), .int .u64 (dg (q.2) 0), .int .u64 (dg (q.2) 1), .int .u64 (dg (q.2) 2), .int .u64 (dg (q.2) 3)] 25 (0, 0)) ∧ W.heap[w2.heap.size]? = some (.cells #[.bool (ng (addV zs)), .int .u64 (dg (ab (addV zs)) 0), .int .u64 (dg (ab (addV zs)) 1), .int .u64 (dg (ab (addV zs)) 2), .int .u64 (dg (ab (addV zs)) 3)] 25 (0, 0)) ∧ W.heap[w4.heap.size]? = some (.cells #[.bool (ng (mulV zs)), .int .u64 (dg (ab (mulV zs)) 0), .int .u64 (dg (ab (mulV zs)) 1), .int .u64 (dg (ab (mulV zs)) 2), .int .u64 (dg (ab (mulV zs)) 3)] 25 (0, 0)) ∧ W.heap[w6.heap.size]? = some (.cells #[.bool (ng (addV zs)), .int .u64 (dg (ab (addV zs)) 0), .int .u64 (dg (ab (addV zs)) 1), .int .u64 (dg (ab (addV zs)) 2), .int .u64 (dg (ab (addV zs)) 3)] 25 (0, 0)) ∧ W.heap[w8.heap.size]? = some (.cells #[.bool (ng (mulV zs)), .int .u64 (dg (ab (mulV zs)) 0), .int .u64 (dg (ab (mulV zs)) 1), .int .u64 (dg (ab (mulV zs)) 2), .int .u64 (dg (ab (mulV zs)) 3)] 25 (0, 0)) ∧ Below w.heap.size w W) ⟨heap_old (h_a) _, heap_old (h_b) _, heap_old (h_s) _, heap_old (h_p) _, heap_old (h_want) _, heap_new _ _, (by focus (repeat (first | (with_reducible exact Below.refl _ _) | (with_reducible assumption) | ((with_reducible refine Below.setCell ?_ ?_ _); rotate_left; (focus (first | omega | (simp; done) | (simp; omega)))) | ((with_reducible refine Below.alloc ?_ ?_ _); rotate_left; (focus (first | omega | (simp; done) | (simp; omega)))) | (with_reducible refine Below.drew ?_) | (refine below_on ?_ (by assumption)))))⟩ fun W9 ⟨g_a, g_b, g_s, g_p, g_want, g_more, gB⟩ => ?_
      clear hB hsz h_a h_b h_s h_p h_want
      have h_a := g_a
      have h_b := g_b
      have h_s := g_s
      have h_p := g_p
      have h_want := g_want
      have h_more := g_more
      have hB := gB
      clear gB g_a g_b g_s g_p g_want g_more
      have c_s := cell_at h_s
      have c_p := cell_at h_p
      have c_want := cell_at h_want
      have c_more := cell_at h_more
      go_upto_region 16 with ((go_at_call 14; refine (num_s _ _).mono ?_; rintro e w' ⟨rfl, rfl⟩))
      refine abs_wp (fun W => W.heap[w.heap.size]? = some (.cells #[.bool (p.1), .int .u64 (dg (p.2) 0), .int .u64 (dg (p.2) 1), .int .u64 (dg (p.2) 2), .int .u64 (dg (p.2) 3)] 25 (0, 0)) ∧ W.heap[w.heap.size + 1]? = some (.cells #[.bool (q.1), .int .u64 (dg (q.2) 0), .int .u64 (dg (q.2) 1), .int .u64 (dg (q.2) 2), .int .u64 (dg (q.2) 3)] 25 (0, 0)) ∧ Below w.heap.size w W) ⟨h_a, h_b, (by focus (repeat (first | (with_reducible exact Below.refl _ _) | (with_reducible assumption) | ((with_reducible refine Below.setCell ?_ ?_ _); rotate_left; (focus (first | omega | (simp; done) | (simp; omega)))) | ((with_reducible refine Below.alloc ?_ ?_ _); rotate_left; (focus (first | omega | (simp; done) | (simp; omega)))) | (with_reducible refine Below.drew ?_) | (refine below_on ?_ (by assumption)))))⟩ fun W10 ⟨g_a, g_b, gB⟩ => ?_
      clear hB h_a h_b h_s h_p h_want h_more
      have h_a := g_a
      have h_b := g_b
      have hB := gB
      clear gB g_a g_b
      have c_a := cell_at h_a
      have c_b := cell_at h_b
      go_wp2_with fail
      refine (sub_bad p q HP.out HQ.out HO.out _).mono ?_
      rintro e w11 ⟨rfl, hb⟩
      have k_a := heap_below hb h_a
      have k_b := heap_below hb h_b
      have kB : Below w.heap.size w w11 := by
        have hsz := hB.size
        focus (repeat (first | (with_reducible exact Below.refl _ _) | (with_reducible assumption) | ((with_reducible refine Below.setCell ?_ ?_ _); rotate_left; (focus (first | omega | (simp; done) | (simp; omega)))) | ((with_reducible refine Below.alloc ?_ ?_ _); rotate_left; (focus (first | omega | (simp; done) | (simp; omega)))) | (with_reducible refine Below.drew ?_) | (refine below_on ?_ (by assumption))))
      have sz_w11 := kB.size
      have sl_w11 := lt_of_block k_b
      clear hB hb h_a h_b
      have h_a := k_a
      have h_b := k_b
      have hB := kB
      clear kB k_a k_b
      have hsz := hB.size
      go_upto_region 17 with (fail)
      refine abs_wp (fun W => W.heap[w.heap.size]? = some (.cells #[.bool (p.1), .int .u64 (dg (p.2) 0), .int .u64 (dg (p.2) 1), .int .u64 (dg (p.2) 2), .int .u64 (dg (p.2) 3)] 25 (0, 0)) ∧ W.heap[w.heap.size + 1]? = some (.cells #[.bool (q.1), .int .u64 (dg (q.2) 0), .int .u64 (dg (q.2) 1), .int .u64 (dg (q.2) 2), .int .u64 (dg (q.2) 3)] 25 (0, 0)) ∧ W.heap[w11.heap.size]? = some (.cells #[.bool (ng (0)), .int .u64 (dg (ab (0)) 0), .int .u64 (dg (ab (0)) 1), .int .u64 (dg (ab (0)) 2), .int .u64 (dg (ab (0)) 3)] 25 (0, 0)) ∧ Below w.heap.size w W) ⟨heap_old (h_a) _, heap_old (h_b) _, heap_new _ _, (by focus (repeat (first | (with_reducible exact Below.refl _ _) | (with_reducible assumption) | ((with_reducible refine Below.setCell ?_ ?_ _); rotate_left; (focus (first | omega | (simp; done) | (simp; omega)))) | ((with_reducible refine Below.alloc ?_ ?_ _); rotate_left; (focus (first | omega | (simp; done) | (simp; omega)))) | (with_reducible refine Below.drew ?_) | (refine below_on ?_ (by assumption)))))⟩ fun W12 ⟨g_a, g_b, g_d, gB⟩ => ?_
      clear hB hsz h_a h_b
      have h_a := g_a
      have h_b := g_b
      have h_d := g_d
      have hB := gB
      clear gB g_a g_b g_d
      have c_a := cell_at h_a
      go_wp2_with fail
      refine (neg_bad p HP.out HO1.out _).mono ?_
      rintro e w13 ⟨rfl, hb⟩
      have k_a := heap_below hb h_a
      have k_b := heap_below hb h_b
      have k_d := heap_below hb h_d
      have kB : Below w.heap.size w w13 := by
        have hsz := hB.size
        focus (repeat (first | (with_reducible exact Below.refl _ _) | (with_reducible assumption) | ((with_reducible refine Below.setCell ?_ ?_ _); rotate_left; (focus (first | omega | (simp; done) | (simp; omega)))) | ((with_reducible refine Below.alloc ?_ ?_ _); rotate_left; (focus (first | omega | (simp; done) | (simp; omega)))) | (with_reducible refine Below.drew ?_) | (refine below_on ?_ (by assumption))))
      have sz_w13 := kB.size
      have sl_w13 := lt_of_block k_d
      clear hB hb h_a h_b h_d
      have h_a := k_a
      have h_b := k_b
      have h_d := k_d
      have hB := kB
      clear kB k_a k_b k_d
      have hsz := hB.size
      go_upto_region 18 with (fail)
      refine abs_wp (fun W => W.heap[w.heap.size]? = some (.cells #[.bool (p.1), .int .u64 (dg (p.2) 0), .int .u64 (dg (p.2) 1), .int .u64 (dg (p.2) 2), .int .u64 (dg (p.2) 3)] 25 (0, 0)) ∧ W.heap[w.heap.size + 1]? = some (.cells #[.bool (q.1), .int .u64 (dg (q.2) 0), .int .u64 (dg (q.2) 1), .int .u64 (dg (q.2) 2), .int .u64 (dg (q.2) 3)] 25 (0, 0)) ∧ W.heap[w11.heap.size]? = some (.cells #[.bool (ng (0)), .int .u64 (dg (ab (0)) 0), .int .u64 (dg (ab (0)) 1), .int .u64 (dg (ab (0)) 2), .int .u64 (dg (ab (0)) 3)] 25 (0, 0)) ∧ W.heap[w13.heap.size]? = some (.cells #[.bool (ng (0)), .int .u64 (dg (ab (0)) 0), .int .u64 (dg (ab (0)) 1), .int .u64 (dg (ab (0)) 2), .int .u64 (dg (ab (0)) 3)] 25 (0, 0)) ∧ Below w.heap.size w W) ⟨heap_old (h_a) _, heap_old (h_b) _, heap_old (h_d) _, heap_new _ _, (by focus (repeat (first | (with_reducible exact Below.refl _ _) | (with_reducible assumption) | ((with_reducible refine Below.setCell ?_ ?_ _); rotate_left; (focus (first | omega | (simp; done) | (simp; omega)))) | ((with_reducible refine Below.alloc ?_ ?_ _); rotate_left; (focus (first | omega | (simp; done) | (simp; omega)))) | (with_reducible refine Below.drew ?_) | (refine below_on ?_ (by assumption)))))⟩ fun W14 ⟨g_a, g_b, g_d, g_n, gB⟩ => ?_
      clear hB hsz h_a h_b h_d
      have h_a := g_a
      have h_b := g_b
      have h_d := g_d
      have h_n := g_n
      have hB := gB
      clear gB g_a g_b g_d g_n
      have c_a := cell_at h_a
      go_wp2_with fail
      refine (rright_no p HP.out HO1.out _).mono ?_
      rintro e w15 ⟨rfl, hb⟩
      have k_a := heap_below hb h_a
      have k_b := heap_below hb h_b
      have k_d := heap_below hb h_d
      have k_n := heap_below hb h_n
      have kB : Below w.heap.size w w15 := by
        have hsz := hB.size
        focus (repeat (first | (with_reducible exact Below.refl _ _) | (with_reducible assumption) | ((with_reducible refine Below.setCell ?_ ?_ _); rotate_left; (focus (first | omega | (simp; done) | (simp; omega)))) | ((with_reducible refine Below.alloc ?_ ?_ _); rotate_left; (focus (first | omega | (simp; done) | (simp; omega)))) | (with_reducible refine Below.drew ?_) | (refine below_on ?_ (by assumption))))
      have sz_w15 := kB.size
      have sl_w15 := lt_of_block k_n
      clear hB hb h_a h_b h_d h_n
      have h_a := k_a
      have h_b := k_b
      have h_d := k_d
      have h_n := k_n
      have hB := kB
      clear kB k_a k_b k_d k_n
      go_upto_region 19 with (fail)
      refine abs_wp (fun W => W.heap[w.heap.size]? = some (.cells #[.bool (p.1), .int .u64 (dg (p.2) 0), .int .u64 (dg (p.2) 1), .int .u64 (dg (p.2) 2), .int .u64 (dg (p.2) 3)] 25 (0, 0)) ∧ W.heap[w.heap.size + 1]? = some (.cells #[.bool (q.1), .int .u64 (dg (q.2) 0), .int .u64 (dg (q.2) 1), .int .u64 (dg (q.2) 2), .int .u64 (dg (q.2) 3)] 25 (0, 0)) ∧ W.heap[w11.heap.size]? = some (.cells #[.bool (ng (0)), .int .u64 (dg (ab (0)) 0), .int .u64 (dg (ab (0)) 1), .int .u64 (dg (ab (0)) 2), .int .u64 (dg (ab (0)) 3)] 25 (0, 0)) ∧ W.heap[w13.heap.size]? = some (.cells #[.bool (ng (0)), .int .u64 (dg (ab (0)) 0), .int .u64 (dg (ab (0)) 1), .int .u64 (dg (ab (0)) 2), .int .u64 (dg (ab (0)) 3)] 25 (0, 0)) ∧ Below w.heap.size w W) ⟨h_a, h_b, h_d, h_n, (by focus (repeat (first | (with_reducible exact Below.refl _ _) | (with_reducible assumption) | ((with_reducible refine Below.setCell ?_ ?_ _); rotate_left; (focus (first | omega | (simp; done) | (simp; omega)))) | ((with_reducible refine Below.alloc ?_ ?_ _); rotate_left; (focus (first | omega | (simp; done) | (simp; omega)))) | (with_reducible refine Below.drew ?_) | (refine below_on ?_ (by assumption)))))⟩ fun W16 ⟨g_a, g_b, g_d, g_n, gB⟩ => ?_
      clear hB h_a h_b h_d h_n
      have h_a := g_a
      have h_b := g_b
      have h_d := g_d
      have h_n := g_n
      have hB := gB
      clear gB g_a g_b g_d g_n
      have c_d := cell_at h_d
      have c_n := cell_at h_n
      go_wp2_with ((go_at_call 14; refine (num_s _ _).mono ?_; rintro e w' ⟨rfl, rfl⟩))
      refine (works_any _).mono ?_
      rintro e wz ⟨rfl, hb⟩
      have hF := below_on hB hb
      go_wp2
      go_ret
      exact ⟨rfl, hF⟩
set_option maxRecDepth 100000 in
set_option maxHeartbeats 4000000 in
theorem sums_g2 (w : World) (A : Option Addr) (c : Nat) (zs : List Int) (x : Int) (q : Bool × Nat) (HX : Hd (ab x < 2 ^ 256)) (HXN : Hd (ab (-x) < 2 ^ 256)) (HQ : Hd (q.2 < 2 ^ 256)) (HO : Hd (¬ (okP (pr x) ∧ okP q))) (HO2 : Hd (¬ okP q)) (HI : Hd (IntsAt w A (zs.map pr))) (HL : Hd (zs.length ≤ 6)) (HALL : Hd (okAll ((zs.map pr).take zs.length) = true)) (HZS : Hd (∀ z ∈ zs, ab z < 2 ^ 256)) :
    Calls Try.prog 8 #[.slice A zs.length c, .agg #[.bool (ng (x)), .int .u64 (dg (ab (x)) 0), .int .u64 (dg (ab (x)) 1), .int .u64 (dg (ab (x)) 2), .int .u64 (dg (ab (x)) 3)], .agg #[.bool (q.1), .int .u64 (dg (q.2) 0), .int .u64 (dg (q.2) 1), .int .u64 (dg (q.2) 2), .int .u64 (dg (q.2) 3)]] w fun e w' => e = .returned (.bool true) ∧ Below w.heap.size w w' := by
  have hl6 : decide ((zs.length : Int) > 6) = false := by have := HL.out; simp; omega
  have hl7 := HL.out
  go_enter Try.func8, Try.ntmps8
  have hB := Below.refl w.heap.size w
  have hsz := hB.size
  go_upto_region 3 with (fail)
  refine abs_wp (fun W => W.heap[w.heap.size]? = some (.cells #[.bool (ng (x)), .int .u64 (dg (ab (x)) 0), .int .u64 (dg (ab (x)) 1), .int .u64 (dg (ab (x)) 2), .int .u64 (dg (ab (x)) 3)] 25 (0, 0)) ∧ W.heap[w.heap.size + 1]? = some (.cells #[.bool (q.1), .int .u64 (dg (q.2) 0), .int .u64 (dg (q.2) 1), .int .u64 (dg (q.2) 2), .int .u64 (dg (q.2) 3)] 25 (0, 0)) ∧ Below w.heap.size w W) ⟨heap_old (heap_new _ _) _, heap_at (by simp) _, (by focus (repeat (first | (with_reducible exact Below.refl _ _) | (with_reducible assumption) | ((with_reducible refine Below.setCell ?_ ?_ _); rotate_left; (focus (first | omega | (simp; done) | (simp; omega)))) | ((with_reducible refine Below.alloc ?_ ?_ _); rotate_left; (focus (first | omega | (simp; done) | (simp; omega)))) | (with_reducible refine Below.drew ?_) | (refine below_on ?_ (by assumption)))))⟩ fun W1 ⟨g_a, g_b, gB⟩ => ?_
  clear hB hsz 
  have h_a := g_a
  have h_b := g_b
  have hB := gB
  clear gB g_a g_b
  go_wp2
  go_loopw [7, 8] (fun bv iv wr => ∃ k : Nat, k ≤ zs.length ∧ iv = .int .i64 k ∧ bv = .bool (okAll ((zs.map pr).take k)) ∧ wr.heap[w.heap.size]? = some (.cells #[.bool (ng (x)), .int .u64 (dg (ab (x)) 0), .int .u64 (dg (ab (x)) 1), .int .u64 (dg (ab (x)) 2), .int .u64 (dg (ab (x)) 3)] 25 (0, 0)) ∧ wr.heap[w.heap.size + 1]? = some (.cells #[.bool (q.1), .int .u64 (dg (q.2) 0), .int .u64 (dg (q.2) 1), .int .u64 (dg (q.2) 2), .int .u64 (dg (q.2) 3)] 25 (0, 0)) ∧ Below w.heap.size w wr) (fun _ iv _ => zs.length - (intOf iv).toNat)
  case atStart => exact ⟨0, Nat.zero_le _, rfl, rfl, h_a, h_b, hB⟩
  case round =>
    clear h_a h_b hB
    obtain ⟨k, hk, rfl, rfl, h_a, h_b, hB⟩ := hrel
    have hsz := hB.size
    by_cases hlt : k < zs.length
    · have hd1 : decide (k < zs.length) = true := by simpa using hlt
      obtain ⟨r, hr⟩ : ∃ r, (zs.map pr)[k]? = some r := ⟨_, List.getElem?_eq_getElem (by simpa using hlt)⟩
      have HT := Hd.mk (take_ok hr)
      have hrb := HI.out.1 r (List.mem_of_getElem? hr)
      have HRB := Hd.mk hrb
      obtain ⟨b, off, rfl, hcell⟩ := (HI.out.below hB).2.2 (by first | omega | (simp; omega))
      have hfive := hcell k r hr
      have e0 : wr.cell? ⟨b, off + k * 5, none⟩ = some (.bool r.1) := hfive 0 (by omega)
      have e1 : wr.cell? ⟨b, off + k * 5 + 1, none⟩ = some (.int .u64 (dg r.2 0)) := hfive 1 (by omega)
      have e2 : wr.cell? ⟨b, off + k * 5 + 2, none⟩ = some (.int .u64 (dg r.2 1)) := hfive 2 (by omega)
      have e3 : wr.cell? ⟨b, off + k * 5 + 3, none⟩ = some (.int .u64 (dg r.2 2)) := hfive 3 (by omega)
      have e4 : wr.cell? ⟨b, off + k * 5 + 4, none⟩ = some (.int .u64 (dg r.2 3)) := hfive 4 (by omega)
      clear hr hrb hcell hfive
      cases hq : okAll ((zs.map pr).take k)
      · have HQ := Hd.mk hq
        clear hq
        go_wp2
        go_roundw
        case rel => exact ⟨k + 1, by omega, by go_num, by rw [HT.out, HQ.out, Bool.false_and], h_a, h_b, hB⟩
        case measure => simp [intOf]; omega
      · have HQ := Hd.mk hq
        clear hq
        go_wp2_with fail
        refine (rright_any r HRB.out _).mono ?_
        rintro e w2 ⟨rfl, hb⟩
        have k_a := heap_below hb h_a
        have k_b := heap_below hb h_b
        have kB := below_on hB hb
        clear hb h_a h_b hB
        go_wp2
        go_roundw
        case rel => exact ⟨k + 1, by omega, by go_num, by rw [HT.out, HQ.out, Bool.true_and], k_a, k_b, kB⟩
        case measure => simp [intOf]; omega
    · obtain rfl : k = zs.length := by omega
      have hd1 : decide (zs.length < zs.length) = false := by simp
      rw [show okAll ((zs.map pr).take zs.length) = true from HALL.out]
      go_wp2_with fail
      refine (add_ok A c zs _ (HI.out.below hB)).mono ?_
      rintro e w2 ⟨rfl, hb⟩
      have k_a := heap_below hb h_a
      have k_b := heap_below hb h_b
      have kB : Below w.heap.size w w2 := by
        have hsz := hB.size
        focus (repeat (first | (with_reducible exact Below.refl _ _) | (with_reducible assumption) | ((with_reducible refine Below.setCell ?_ ?_ _); rotate_left; (focus (first | omega | (simp; done) | (simp; omega)))) | ((with_reducible refine Below.alloc ?_ ?_ _); rotate_left; (focus (first | omega | (simp; done) | (simp; omega)))) | (with_reducible refine Below.drew ?_) | (refine below_on ?_ (by assumption))))
      have sz_w2 := kB.size
      have sl_w2 := lt_of_block k_b
      clear hB hb h_a h_b
      have h_a := k_a
      have h_b := k_b
      have hB := kB
      clear kB k_a k_b
      have hsz := hB.size
      go_upto_region 9 with (fail)
      refine abs_wp (fun W => W.heap[w.heap.size]? = some (.cells #[.bool (ng (x)), .int .u64 (dg (ab (x)) 0), .int .u64 (dg (ab (x)) 1), .int .u64 (dg (ab (x)) 2), .int .u64 (dg (ab (x)) 3)] 25 (0, 0)) ∧ W.heap[w.heap.size + 1]? = some (.cells #[.bool (q.1), .int .u64 (dg (q.2) 0), .int .u64 (dg (q.2) 1), .int .u64 (dg (q.2) 2), .int .u64 (dg (q.2) 3)] 25 (0, 0)) ∧ W.heap[w2.heap.size]? = some (.cells #[.bool (ng (addV zs)), .int .u64 (dg (ab (addV zs)) 0), .int .u64 (dg (ab (addV zs)) 1), .int .u64 (dg (ab (addV zs)) 2), .int .u64 (dg (ab (addV zs)) 3)] 25 (0, 0)) ∧ Below w.heap.size w W) ⟨heap_old (h_a) _, heap_old (h_b) _, heap_new _ _, (by focus (repeat (first | (with_reducible exact Below.refl _ _) | (with_reducible assumption) | ((with_reducible refine Below.setCell ?_ ?_ _); rotate_left; (focus (first | omega | (simp; done) | (simp; omega)))) | ((with_reducible refine Below.alloc ?_ ?_ _); rotate_left; (focus (first | omega | (simp; done) | (simp; omega)))) | (with_reducible refine Below.drew ?_) | (refine below_on ?_ (by assumption)))))⟩ fun W3 ⟨g_a, g_b, g_s, gB⟩ => ?_
      clear hB hsz h_a h_b
      have h_a := g_a
      have h_b := g_b
      have h_s := g_s
      have hB := gB
      clear gB g_a g_b g_s
      go_wp2_with fail
      refine (mul_ok A c zs _ (HI.out.below hB)).mono ?_
      rintro e w4 ⟨rfl, hb⟩
      have k_a := heap_below hb h_a
      have k_b := heap_below hb h_b
      have k_s := heap_below hb h_s
      have kB : Below w.heap.size w w4 := by
        have hsz := hB.size
        focus (repeat (first | (with_reducible exact Below.refl _ _) | (with_reducible assumption) | ((with_reducible refine Below.setCell ?_ ?_ _); rotate_left; (focus (first | omega | (simp; done) | (simp; omega)))) | ((with_reducible refine Below.alloc ?_ ?_ _); rotate_left; (focus (first | omega | (simp; done) | (simp; omega)))) | (with_reducible refine Below.drew ?_) | (refine below_on ?_ (by assumption))))
      have sz_w4 := kB.size
      have sl_w4 := lt_of_block k_s
      clear hB hb h_a h_b h_s
      have h_a := k_a
      have h_b := k_b
      have h_s := k_s
      have hB := kB
      clear kB k_a k_b k_s
      have hsz := hB.size
      go_upto_region 10 with (fail)
      refine abs_wp (fun W => W.heap[w.heap.size]? = some (.cells #[.bool (ng (x)), .int .u64 (dg (ab (x)) 0), .int .u64 (dg (ab (x)) 1), .int .u64 (dg (ab (x)) 2), .int .u64 (dg (ab (x)) 3)] 25 (0, 0)) ∧ W.heap[w.heap.size + 1]? = some (.cells #[.bool (q.1), .int .u64 (dg (q.2) 0), .int .u64 (dg (q.2) 1), .int .u64 (dg (q.2) 2), .int .u64 (dg (q.2) 3)] 25 (0, 0)) ∧ W.heap[w2.heap.size]? = some (.cells #[.bool (ng (addV zs)), .int .u64 (dg (ab (addV zs)) 0), .int .u64 (dg (ab (addV zs)) 1), .int .u64 (dg (ab (addV zs)) 2), .int .u64 (dg (ab (addV zs)) 3)] 25 (0, 0)) ∧ W.heap[w4.heap.size]? = some (.cells #[.bool (ng (mulV zs)), .int .u64 (dg (ab (mulV zs)) 0), .int .u64 (dg (ab (mulV zs)) 1), .int .u64 (dg (ab (mulV zs)) 2), .int .u64 (dg (ab (mulV zs)) 3)] 25 (0, 0)) ∧ Below w.heap.size w W) ⟨heap_old (h_a) _, heap_old (h_b) _, heap_old (h_s) _, heap_new _ _, (by focus (repeat (first | (with_reducible exact Below.refl _ _) | (with_reducible assumption) | ((with_reducible refine Below.setCell ?_ ?_ _); rotate_left; (focus (first | omega | (simp; done) | (simp; omega)))) | ((with_reducible refine Below.alloc ?_ ?_ _); rotate_left; (focus (first | omega | (simp; done) | (simp; omega)))) | (with_reducible refine Below.drew ?_) | (refine below_on ?_ (by assumption)))))⟩ fun W5 ⟨g_a, g_b, g_s, g_p, gB⟩ => ?_
      clear hB hsz h_a h_b h_s
      have h_a := g_a
      have h_b := g_b
      have h_s := g_s
      have h_p := g_p
      have hB := gB
      clear gB g_a g_b g_s g_p
      go_wp2_with fail
      refine (steps_false A c zs HZS.out _ (HI.out.below hB)).mono ?_
      rintro e w6 ⟨rfl, hb⟩
      have k_a := heap_below hb h_a
      have k_b := heap_below hb h_b
      have k_s := heap_below hb h_s
      have k_p := heap_below hb h_p
      have kB : Below w.heap.size w w6 := by
        have hsz := hB.size
        focus (repeat (first | (with_reducible exact Below.refl _ _) | (with_reducible assumption) | ((with_reducible refine Below.setCell ?_ ?_ _); rotate_left; (focus (first | omega | (simp; done) | (simp; omega)))) | ((with_reducible refine Below.alloc ?_ ?_ _); rotate_left; (focus (first | omega | (simp; done) | (simp; omega)))) | (with_reducible refine Below.drew ?_) | (refine below_on ?_ (by assumption))))
      have sz_w6 := kB.size
      have sl_w6 := lt_of_block k_p
      clear hB hb h_a h_b h_s h_p
      have h_a := k_a
      have h_b := k_b
      have h_s := k_s
      have h_p := k_p
      have hB := kB
      clear kB k_a k_b k_s k_p
      have hsz := hB.size
      go_upto_region 13 with (fail)
      refine abs_wp (fun W => W.heap[w.heap.size]? = some (.cells #[.bool (ng (x)), .int .u64 (dg (ab (x)) 0), .int .u64 (dg (ab (x)) 1), .int .u64 (dg (ab (x)) 2), .int .u64 (dg (ab (x)) 3)] 25 (0, 0)) ∧ W.heap[w.heap.size + 1]? = some (.cells #[.bool (q.1), .int .u64 (dg (q.2) 0), .int .u64 (dg (q.2) 1), .int .u64 (dg (q.2) 2), .int .u64 (dg (q.2) 3)] 25 (0, 0)) ∧ W.heap[w2.heap.size]? = some (.cells #[.bool (ng (addV zs)), .int .u64 (dg (ab (addV zs)) 0), .int .u64 (dg (ab (addV zs)) 1), .int .u64 (dg (ab (addV zs)) 2), .int .u64 (dg (ab (addV zs)) 3)] 25 (0, 0)) ∧ W.heap[w4.heap.size]? = some (.cells #[.bool (ng (mulV zs)), .int .u64 (dg (ab (mulV zs)) 0), .int .u64 (dg (ab (mulV zs)) 1), .int .u64 (dg (ab (mulV zs)) 2), .int .u64 (dg (ab (mulV zs)) 3)] 25 (0, 0)) ∧ W.heap[w6.heap.size]? = some (.cells #[.bool (ng (addV zs)), .int .u64 (dg (ab (addV zs)) 0), .int .u64 (dg (ab (addV zs)) 1), .int .u64 (dg (ab (addV zs)) 2), .int .u64 (dg (ab (addV zs)) 3)] 25 (0, 0)) ∧ Below w.heap.size w W) ⟨heap_old (h_a) _, heap_old (h_b) _, heap_old (h_s) _, heap_old (h_p) _, heap_new _ _, (by focus (repeat (first | (with_reducible exact Below.refl _ _) | (with_reducible assumption) | ((with_reducible refine Below.setCell ?_ ?_ _); rotate_left; (focus (first | omega | (simp; done) | (simp; omega)))) | ((with_reducible refine Below.alloc ?_ ?_ _); rotate_left; (focus (first | omega | (simp; done) | (simp; omega)))) | (with_reducible refine Below.drew ?_) | (refine below_on ?_ (by assumption)))))⟩ fun W7 ⟨g_a, g_b, g_s, g_p, g_want, gB⟩ => ?_
      clear hB hsz h_a h_b h_s h_p
      have h_a := g_a
      have h_b := g_b
      have h_s := g_s
      have h_p := g_p
      have h_want := g_want
      have hB := gB
      clear gB g_a g_b g_s g_p g_want
      go_wp2_with fail
      refine (steps_true A c zs HZS.out _ (HI.out.below hB)).mono ?_
      rintro e w8 ⟨rfl, hb⟩
      have k_a := heap_below hb h_a
      have k_b := heap_below hb h_b
      have k_s := heap_below hb h_s
      have k_p := heap_below hb h_p
      have k_want := heap_below hb h_want
      have kB : Below w.heap.size w w8 := by
        have hsz := hB.size
        focus (repeat (first | (with_reducible exact Below.refl _ _) | (with_reducible assumption) | ((with_reducible refine Below.setCell ?_ ?_ _); rotate_left; (focus (first | omega | (simp; done) | (simp; omega)))) | ((with_reducible refine Below.alloc ?_ ?_ _); rotate_left; (focus (first | omega | (simp; done) | (simp; omega)))) | (with_reducible refine Below.drew ?_) | (refine below_on ?_ (by assumption))))
      have sz_w8 := kB.size
      have sl_w8 := lt_of_block k_want
      clear hB hb h_a h_b h_s h_p h_want
      have h_a := k_a
      have h_b := k_b
      have h_s := k_s
      have h_p := k_p
      have h_want := k_want
      have hB := kB
      clear kB k_a k_b k_s k_p k_want
      have hsz := hB.size
      go_upto_region 14 with (fail)
      refine abs_wp (fun W => W.heap[w.heap.size]? = some (.cells #[.bool (ng (x)), .int .u64 (dg (ab (x)) 0), .int .u64 (dg (ab (x)) 1), .int .u64 (dg (ab (x)) 2), .int .u64 (dg (ab (x)) 3)] 25 (0, 0)) ∧ W.heap[w.heap.size + 1]? = some (.cells #[.bool (q.1), .int .u64 (dg (q.2) 0), .int .u64 (dg (q.2) 1), .int .u64 (dg (q.2) 2), .int .u64 (dg (q.2) 3)] 25 (0, 0)) ∧ W.heap[w2.heap.size]? = some (.cells #[.bool (ng (addV zs)), .int .u64 (dg (ab (addV zs)) 0), .int .u64 (dg (ab (addV zs)) 1), .int .u64 (dg (ab (addV zs)) 2), .int .u64 (dg (ab (addV zs)) 3)] 25 (0, 0)) ∧ W.heap[w4.heap.size]? = some (.cells #[.bool (ng (mulV zs)), .int .u64 (dg (ab (mulV zs)) 0), .int .u64 (dg (ab (mulV zs)) 1), .int .u64 (dg (ab (mulV zs)) 2), .int .u64 (dg (ab (mulV zs)) 3)] 25 (0, 0)) ∧ W.heap[w6.heap.size]? = some (.cells #[.bool (ng (addV zs)), .int .u64 (dg (ab (addV zs)) 0), .int .u64 (dg (ab (addV zs)) 1), .int .u64 (dg (ab (addV zs)) 2), .int .u64 (dg (ab (addV zs)) 3)] 25 (0, 0)) ∧ W.heap[w8.heap.size]? = some (.cells #[.bool (ng (mulV zs)), .int .u64 (dg (ab (mulV zs)) 0), .int .u64 (dg (ab (mulV zs)) 1), .int .u64 (dg (ab (mulV zs)) 2), .int .u64 (dg (ab (mulV zs)) 3)] 25 (0, 0)) ∧ Below w.heap.size w W) ⟨heap_old (h_a) _, heap_old (h_b) _, heap_old (h_s) _, heap_old (h_p) _, heap_old (h_want) _, heap_new _ _, (by focus (repeat (first | (with_reducible exact Below.refl _ _) | (with_reducible assumption) | ((with_reducible refine Below.setCell ?_ ?_ _); rotate_left; (focus (first | omega | (simp; done) | (simp; omega)))) | ((with_reducible refine Below.alloc ?_ ?_ _); rotate_left; (focus (first | omega | (simp; done) | (simp; omega)))) | (with_reducible refine Below.drew ?_) | (refine below_on ?_ (by assumption)))))⟩ fun W9 ⟨g_a, g_b, g_s, g_p, g_want, g_more, gB⟩ => ?_
      clear hB hsz h_a h_b h_s h_p h_want
      have h_a := g_a
      have h_b := g_b
      have h_s := g_s
      have h_p := g_p
      have h_want := g_want
      have h_more := g_more
      have hB := gB
      clear gB g_a g_b g_s g_p g_want g_more
      have c_s := cell_at h_s
      have c_p := cell_at h_p
      have c_want := cell_at h_want
      have c_more := cell_at h_more
      go_upto_region 16 with ((go_at_call 14; refine (num_s _ _).mono ?_; rintro e w' ⟨rfl, rfl⟩))
      refine abs_wp (fun W => W.heap[w.heap.size]? = some (.cells #[.bool (ng (x)), .int .u64 (dg (ab (x)) 0), .int .u64 (dg (ab (x)) 1), .int .u64 (dg (ab (x)) 2), .int .u64 (dg (ab (x)) 3)] 25 (0, 0)) ∧ W.heap[w.heap.size + 1]? = some (.cells #[.bool (q.1), .int .u64 (dg (q.2) 0), .int .u64 (dg (q.2) 1), .int .u64 (dg (q.2) 2), .int .u64 (dg (q.2) 3)] 25 (0, 0)) ∧ Below w.heap.size w W) ⟨h_a, h_b, (by focus (repeat (first | (with_reducible exact Below.refl _ _) | (with_reducible assumption) | ((with_reducible refine Below.setCell ?_ ?_ _); rotate_left; (focus (first | omega | (simp; done) | (simp; omega)))) | ((with_reducible refine Below.alloc ?_ ?_ _); rotate_left; (focus (first | omega | (simp; done) | (simp; omega)))) | (with_reducible refine Below.drew ?_) | (refine below_on ?_ (by assumption)))))⟩ fun W10 ⟨g_a, g_b, gB⟩ => ?_
      clear hB h_a h_b h_s h_p h_want h_more
      have h_a := g_a
      have h_b := g_b
      have hB := gB
      clear gB g_a g_b
      have c_a := cell_at h_a
      have c_b := cell_at h_b
      go_wp2_with fail
      refine (sub_bad (pr x) q HX.out HQ.out HO.out _).mono ?_
      rintro e w11 ⟨rfl, hb⟩
      have k_a := heap_below hb h_a
      have k_b := heap_below hb h_b
      have kB : Below w.heap.size w w11 := by
        have hsz := hB.size
        focus (repeat (first | (with_reducible exact Below.refl _ _) | (with_reducible assumption) | ((with_reducible refine Below.setCell ?_ ?_ _); rotate_left; (focus (first | omega | (simp; done) | (simp; omega)))) | ((with_reducible refine Below.alloc ?_ ?_ _); rotate_left; (focus (first | omega | (simp; done) | (simp; omega)))) | (with_reducible refine Below.drew ?_) | (refine below_on ?_ (by assumption))))
      have sz_w11 := kB.size
      have sl_w11 := lt_of_block k_b
      clear hB hb h_a h_b
      have h_a := k_a
      have h_b := k_b
      have hB := kB
      clear kB k_a k_b
      have hsz := hB.size
      go_upto_region 17 with (fail)
      refine abs_wp (fun W => W.heap[w.heap.size]? = some (.cells #[.bool (ng (x)), .int .u64 (dg (ab (x)) 0), .int .u64 (dg (ab (x)) 1), .int .u64 (dg (ab (x)) 2), .int .u64 (dg (ab (x)) 3)] 25 (0, 0)) ∧ W.heap[w.heap.size + 1]? = some (.cells #[.bool (q.1), .int .u64 (dg (q.2) 0), .int .u64 (dg (q.2) 1), .int .u64 (dg (q.2) 2), .int .u64 (dg (q.2) 3)] 25 (0, 0)) ∧ W.heap[w11.heap.size]? = some (.cells #[.bool (ng (0)), .int .u64 (dg (ab (0)) 0), .int .u64 (dg (ab (0)) 1), .int .u64 (dg (ab (0)) 2), .int .u64 (dg (ab (0)) 3)] 25 (0, 0)) ∧ Below w.heap.size w W) ⟨heap_old (h_a) _, heap_old (h_b) _, heap_new _ _, (by focus (repeat (first | (with_reducible exact Below.refl _ _) | (with_reducible assumption) | ((with_reducible refine Below.setCell ?_ ?_ _); rotate_left; (focus (first | omega | (simp; done) | (simp; omega)))) | ((with_reducible refine Below.alloc ?_ ?_ _); rotate_left; (focus (first | omega | (simp; done) | (simp; omega)))) | (with_reducible refine Below.drew ?_) | (refine below_on ?_ (by assumption)))))⟩ fun W12 ⟨g_a, g_b, g_d, gB⟩ => ?_
      clear hB hsz h_a h_b
      have h_a := g_a
      have h_b := g_b
      have h_d := g_d
      have hB := gB
      clear gB g_a g_b g_d
      have c_a := cell_at h_a
      go_wp2_with fail
      refine (neg_ok x HX.out _).mono ?_
      rintro e w13 ⟨rfl, hb⟩
      have k_a := heap_below hb h_a
      have k_b := heap_below hb h_b
      have k_d := heap_below hb h_d
      have kB : Below w.heap.size w w13 := by
        have hsz := hB.size
        focus (repeat (first | (with_reducible exact Below.refl _ _) | (with_reducible assumption) | ((with_reducible refine Below.setCell ?_ ?_ _); rotate_left; (focus (first | omega | (simp; done) | (simp; omega)))) | ((with_reducible refine Below.alloc ?_ ?_ _); rotate_left; (focus (first | omega | (simp; done) | (simp; omega)))) | (with_reducible refine Below.drew ?_) | (refine below_on ?_ (by assumption))))
      have sz_w13 := kB.size
      have sl_w13 := lt_of_block k_d
      clear hB hb h_a h_b h_d
      have h_a := k_a
      have h_b := k_b
      have h_d := k_d
      have hB := kB
      clear kB k_a k_b k_d
      have hsz := hB.size
      go_upto_region 18 with (fail)
      refine abs_wp (fun W => W.heap[w.heap.size]? = some (.cells #[.bool (ng (x)), .int .u64 (dg (ab (x)) 0), .int .u64 (dg (ab (x)) 1), .int .u64 (dg (ab (x)) 2), .int .u64 (dg (ab (x)) 3)] 25 (0, 0)) ∧ W.heap[w.heap.size + 1]? = some (.cells #[.bool (q.1), .int .u64 (dg (q.2) 0), .int .u64 (dg (q.2) 1), .int .u64 (dg (q.2) 2), .int .u64 (dg (q.2) 3)] 25 (0, 0)) ∧ W.heap[w11.heap.size]? = some (.cells #[.bool (ng (0)), .int .u64 (dg (ab (0)) 0), .int .u64 (dg (ab (0)) 1), .int .u64 (dg (ab (0)) 2), .int .u64 (dg (ab (0)) 3)] 25 (0, 0)) ∧ W.heap[w13.heap.size]? = some (.cells #[.bool (ng (-x)), .int .u64 (dg (ab (-x)) 0), .int .u64 (dg (ab (-x)) 1), .int .u64 (dg (ab (-x)) 2), .int .u64 (dg (ab (-x)) 3)] 25 (0, 0)) ∧ Below w.heap.size w W) ⟨heap_old (h_a) _, heap_old (h_b) _, heap_old (h_d) _, heap_new _ _, (by focus (repeat (first | (with_reducible exact Below.refl _ _) | (with_reducible assumption) | ((with_reducible refine Below.setCell ?_ ?_ _); rotate_left; (focus (first | omega | (simp; done) | (simp; omega)))) | ((with_reducible refine Below.alloc ?_ ?_ _); rotate_left; (focus (first | omega | (simp; done) | (simp; omega)))) | (with_reducible refine Below.drew ?_) | (refine below_on ?_ (by assumption)))))⟩ fun W14 ⟨g_a, g_b, g_d, g_n, gB⟩ => ?_
      clear hB hsz h_a h_b h_d
      have h_a := g_a
      have h_b := g_b
      have h_d := g_d
      have h_n := g_n
      have hB := gB
      clear gB g_a g_b g_d g_n
      have c_a := cell_at h_a
      go_wp2_with fail
      refine (rright_ok x HX.out _).mono ?_
      rintro e w15 ⟨rfl, hb⟩
      have k_a := heap_below hb h_a
      have k_b := heap_below hb h_b
      have k_d := heap_below hb h_d
      have k_n := heap_below hb h_n
      have kB : Below w.heap.size w w15 := by
        have hsz := hB.size
        focus (repeat (first | (with_reducible exact Below.refl _ _) | (with_reducible assumption) | ((with_reducible refine Below.setCell ?_ ?_ _); rotate_left; (focus (first | omega | (simp; done) | (simp; omega)))) | ((with_reducible refine Below.alloc ?_ ?_ _); rotate_left; (focus (first | omega | (simp; done) | (simp; omega)))) | (with_reducible refine Below.drew ?_) | (refine below_on ?_ (by assumption))))
      have sz_w15 := kB.size
      have sl_w15 := lt_of_block k_n
      clear hB hb h_a h_b h_d h_n
      have h_a := k_a
      have h_b := k_b
      have h_d := k_d
      have h_n := k_n
      have hB := kB
      clear kB k_a k_b k_d k_n
      go_upto_region 20 with (fail)
      refine abs_wp (fun W => W.heap[w.heap.size]? = some (.cells #[.bool (ng (x)), .int .u64 (dg (ab (x)) 0), .int .u64 (dg (ab (x)) 1), .int .u64 (dg (ab (x)) 2), .int .u64 (dg (ab (x)) 3)] 25 (0, 0)) ∧ W.heap[w.heap.size + 1]? = some (.cells #[.bool (q.1), .int .u64 (dg (q.2) 0), .int .u64 (dg (q.2) 1), .int .u64 (dg (q.2) 2), .int .u64 (dg (q.2) 3)] 25 (0, 0)) ∧ W.heap[w11.heap.size]? = some (.cells #[.bool (ng (0)), .int .u64 (dg (ab (0)) 0), .int .u64 (dg (ab (0)) 1), .int .u64 (dg (ab (0)) 2), .int .u64 (dg (ab (0)) 3)] 25 (0, 0)) ∧ W.heap[w13.heap.size]? = some (.cells #[.bool (ng (-x)), .int .u64 (dg (ab (-x)) 0), .int .u64 (dg (ab (-x)) 1), .int .u64 (dg (ab (-x)) 2), .int .u64 (dg (ab (-x)) 3)] 25 (0, 0)) ∧ Below w.heap.size w W) ⟨h_a, h_b, h_d, h_n, (by focus (repeat (first | (with_reducible exact Below.refl _ _) | (with_reducible assumption) | ((with_reducible refine Below.setCell ?_ ?_ _); rotate_left; (focus (first | omega | (simp; done) | (simp; omega)))) | ((with_reducible refine Below.alloc ?_ ?_ _); rotate_left; (focus (first | omega | (simp; done) | (simp; omega)))) | (with_reducible refine Below.drew ?_) | (refine below_on ?_ (by assumption)))))⟩ fun W16 ⟨g_a, g_b, g_d, g_n, gB⟩ => ?_
      clear hB h_a h_b h_d h_n
      have h_a := g_a
      have h_b := g_b
      have h_d := g_d
      have h_n := g_n
      have hB := gB
      clear gB g_a g_b g_d g_n
      have c_a := cell_at h_a
      go_wp2_with fail
      refine (from_z x HX.out _).mono ?_
      rintro e w17 ⟨v, rfl, hV, hb⟩
      have k_a := heap_below hb h_a
      have k_b := heap_below hb h_b
      have k_d := heap_below hb h_d
      have k_n := heap_below hb h_n
      have kB : Below w.heap.size w w17 := by
        have hsz := hB.size
        focus (repeat (first | (with_reducible exact Below.refl _ _) | (with_reducible assumption) | ((with_reducible refine Below.setCell ?_ ?_ _); rotate_left; (focus (first | omega | (simp; done) | (simp; omega)))) | ((with_reducible refine Below.alloc ?_ ?_ _); rotate_left; (focus (first | omega | (simp; done) | (simp; omega)))) | (with_reducible refine Below.drew ?_) | (refine below_on ?_ (by assumption))))
      have sz_w17 := kB.size
      have sl_w17 := lt_of_block k_n
      clear hB hb h_a h_b h_d h_n
      have h_a := k_a
      have h_b := k_b
      have h_d := k_d
      have h_n := k_n
      have hB := kB
      clear kB k_a k_b k_d k_n
      go_wp2_with fail
      refine (rneg_any x (-x) rfl _ _ hV).mono ?_
      rintro e w18 ⟨v2, rfl, hV2, hb⟩
      have k_a := heap_below hb h_a
      have k_b := heap_below hb h_b
      have k_d := heap_below hb h_d
      have k_n := heap_below hb h_n
      have kB : Below w.heap.size w w18 := by
        have hsz := hB.size
        focus (repeat (first | (with_reducible exact Below.refl _ _) | (with_reducible assumption) | ((with_reducible refine Below.setCell ?_ ?_ _); rotate_left; (focus (first | omega | (simp; done) | (simp; omega)))) | ((with_reducible refine Below.alloc ?_ ?_ _); rotate_left; (focus (first | omega | (simp; done) | (simp; omega)))) | (with_reducible refine Below.drew ?_) | (refine below_on ?_ (by assumption))))
      have sz_w18 := kB.size
      have sl_w18 := lt_of_block k_n
      clear hB hb h_a h_b h_d h_n
      have h_a := k_a
      have h_b := k_b
      have h_d := k_d
      have h_n := k_n
      have hB := kB
      clear kB k_a k_b k_d k_n
      clear hV
      go_wp2_with fail
      refine (rout_ok (-x) HXN.out _ _ hV2).mono ?_
      rintro e w19 ⟨rfl, hb⟩
      have k_a := heap_below hb h_a
      have k_b := heap_below hb h_b
      have k_d := heap_below hb h_d
      have k_n := heap_below hb h_n
      have kB : Below w.heap.size w w19 := by
        have hsz := hB.size
        focus (repeat (first | (with_reducible exact Below.refl _ _) | (with_reducible assumption) | ((with_reducible refine Below.setCell ?_ ?_ _); rotate_left; (focus (first | omega | (simp; done) | (simp; omega)))) | ((with_reducible refine Below.alloc ?_ ?_ _); rotate_left; (focus (first | omega | (simp; done) | (simp; omega)))) | (with_reducible refine Below.drew ?_) | (refine below_on ?_ (by assumption))))
      have sz_w19 := kB.size
      have sl_w19 := lt_of_block k_n
      clear hB hb h_a h_b h_d h_n
      have h_a := k_a
      have h_b := k_b
      have h_d := k_d
      have h_n := k_n
      have hB := kB
      clear kB k_a k_b k_d k_n
      clear hV2
      have hsz := hB.size
      go_upto_region 21 with (fail)
      refine abs_wp (fun W => W.heap[w.heap.size]? = some (.cells #[.bool (ng (x)), .int .u64 (dg (ab (x)) 0), .int .u64 (dg (ab (x)) 1), .int .u64 (dg (ab (x)) 2), .int .u64 (dg (ab (x)) 3)] 25 (0, 0)) ∧ W.heap[w.heap.size + 1]? = some (.cells #[.bool (q.1), .int .u64 (dg (q.2) 0), .int .u64 (dg (q.2) 1), .int .u64 (dg (q.2) 2), .int .u64 (dg (q.2) 3)] 25 (0, 0)) ∧ W.heap[w11.heap.size]? = some (.cells #[.bool (ng (0)), .int .u64 (dg (ab (0)) 0), .int .u64 (dg (ab (0)) 1), .int .u64 (dg (ab (0)) 2), .int .u64 (dg (ab (0)) 3)] 25 (0, 0)) ∧ W.heap[w13.heap.size]? = some (.cells #[.bool (ng (-x)), .int .u64 (dg (ab (-x)) 0), .int .u64 (dg (ab (-x)) 1), .int .u64 (dg (ab (-x)) 2), .int .u64 (dg (ab (-x)) 3)] 25 (0, 0)) ∧ W.heap[w19.heap.size]? = some (.cells #[.bool (ng (-x)), .int .u64 (dg (ab (-x)) 0), .int .u64 (dg (ab (-x)) 1), .int .u64 (dg (ab (-x)) 2), .int .u64 (dg (ab (-x)) 3)] 25 (0, 0)) ∧ Below w.heap.size w W) ⟨heap_old (h_a) _, heap_old (h_b) _, heap_old (h_d) _, heap_old (h_n) _, heap_new _ _, (by focus (repeat (first | (with_reducible exact Below.refl _ _) | (with_reducible assumption) | ((with_reducible refine Below.setCell ?_ ?_ _); rotate_left; (focus (first | omega | (simp; done) | (simp; omega)))) | ((with_reducible refine Below.alloc ?_ ?_ _); rotate_left; (focus (first | omega | (simp; done) | (simp; omega)))) | (with_reducible refine Below.drew ?_) | (refine below_on ?_ (by assumption)))))⟩ fun W20 ⟨g_a, g_b, g_d, g_n, g_neg, gB⟩ => ?_
      clear hB hsz h_a h_b h_d h_n
      have h_a := g_a
      have h_b := g_b
      have h_d := g_d
      have h_n := g_n
      have h_neg := g_neg
      have hB := gB
      clear gB g_a g_b g_d g_n g_neg
      have c_n := cell_at h_n
      have c_neg := cell_at h_neg
      go_upto_region 23 with ((go_at_call 14; refine (num_s _ _).mono ?_; rintro e w' ⟨rfl, rfl⟩))
      refine abs_wp (fun W => W.heap[w.heap.size]? = some (.cells #[.bool (ng (x)), .int .u64 (dg (ab (x)) 0), .int .u64 (dg (ab (x)) 1), .int .u64 (dg (ab (x)) 2), .int .u64 (dg (ab (x)) 3)] 25 (0, 0)) ∧ W.heap[w.heap.size + 1]? = some (.cells #[.bool (q.1), .int .u64 (dg (q.2) 0), .int .u64 (dg (q.2) 1), .int .u64 (dg (q.2) 2), .int .u64 (dg (q.2) 3)] 25 (0, 0)) ∧ W.heap[w11.heap.size]? = some (.cells #[.bool (ng (0)), .int .u64 (dg (ab (0)) 0), .int .u64 (dg (ab (0)) 1), .int .u64 (dg (ab (0)) 2), .int .u64 (dg (ab (0)) 3)] 25 (0, 0)) ∧ Below w.heap.size w W) ⟨h_a, h_b, h_d, (by focus (repeat (first | (with_reducible exact Below.refl _ _) | (with_reducible assumption) | ((with_reducible refine Below.setCell ?_ ?_ _); rotate_left; (focus (first | omega | (simp; done) | (simp; omega)))) | ((with_reducible refine Below.alloc ?_ ?_ _); rotate_left; (focus (first | omega | (simp; done) | (simp; omega)))) | (with_reducible refine Below.drew ?_) | (refine below_on ?_ (by assumption)))))⟩ fun W21 ⟨g_a, g_b, g_d, gB⟩ => ?_
      clear hB h_a h_b h_d h_n h_neg
      have h_a := g_a
      have h_b := g_b
      have h_d := g_d
      have hB := gB
      clear gB g_a g_b g_d
      have c_b := cell_at h_b
      go_wp2_with fail
      refine (rright_no q HQ.out HO2.out _).mono ?_
      rintro e w22 ⟨rfl, hb⟩
      have k_a := heap_below hb h_a
      have k_b := heap_below hb h_b
      have k_d := heap_below hb h_d
      have kB : Below w.heap.size w w22 := by
        have hsz := hB.size
        focus (repeat (first | (with_reducible exact Below.refl _ _) | (with_reducible assumption) | ((with_reducible refine Below.setCell ?_ ?_ _); rotate_left; (focus (first | omega | (simp; done) | (simp; omega)))) | ((with_reducible refine Below.alloc ?_ ?_ _); rotate_left; (focus (first | omega | (simp; done) | (simp; omega)))) | (with_reducible refine Below.drew ?_) | (refine below_on ?_ (by assumption))))
      have sz_w22 := kB.size
      have sl_w22 := lt_of_block k_d
      clear hB hb h_a h_b h_d
      have h_a := k_a
      have h_b := k_b
      have h_d := k_d
      have hB := kB
      clear kB k_a k_b k_d
      go_upto_region 24 with (fail)
      refine abs_wp (fun W => W.heap[w.heap.size]? = some (.cells #[.bool (ng (x)), .int .u64 (dg (ab (x)) 0), .int .u64 (dg (ab (x)) 1), .int .u64 (dg (ab (x)) 2), .int .u64 (dg (ab (x)) 3)] 25 (0, 0)) ∧ W.heap[w.heap.size + 1]? = some (.cells #[.bool (q.1), .int .u64 (dg (q.2) 0), .int .u64 (dg (q.2) 1), .int .u64 (dg (q.2) 2), .int .u64 (dg (q.2) 3)] 25 (0, 0)) ∧ W.heap[w11.heap.size]? = some (.cells #[.bool (ng (0)), .int .u64 (dg (ab (0)) 0), .int .u64 (dg (ab (0)) 1), .int .u64 (dg (ab (0)) 2), .int .u64 (dg (ab (0)) 3)] 25 (0, 0)) ∧ Below w.heap.size w W) ⟨h_a, h_b, h_d, (by focus (repeat (first | (with_reducible exact Below.refl _ _) | (with_reducible assumption) | ((with_reducible refine Below.setCell ?_ ?_ _); rotate_left; (focus (first | omega | (simp; done) | (simp; omega)))) | ((with_reducible refine Below.alloc ?_ ?_ _); rotate_left; (focus (first | omega | (simp; done) | (simp; omega)))) | (with_reducible refine Below.drew ?_) | (refine below_on ?_ (by assumption)))))⟩ fun W23 ⟨g_a, g_b, g_d, gB⟩ => ?_
      clear hB h_a h_b h_d
      have h_a := g_a
      have h_b := g_b
      have h_d := g_d
      have hB := gB
      clear gB g_a g_b g_d
      have c_d := cell_at h_d
      go_wp2_with ((go_at_call 14; refine (num_s _ _).mono ?_; rintro e w' ⟨rfl, rfl⟩))
      refine (works_any _).mono ?_
      rintro e wz ⟨rfl, hb⟩
      have hF := below_on hB hb
      go_wp2
      go_ret
      exact ⟨rfl, hF⟩
set_option maxRecDepth 100000 in
set_option maxHeartbeats 4000000 in
theorem sums_g3 (w : World) (A : Option Addr) (c : Nat) (zs : List Int) (x y : Int) (HX : Hd (ab x < 2 ^ 256)) (HXN : Hd (ab (-x) < 2 ^ 256)) (HY : Hd (ab y < 2 ^ 256)) (HI : Hd (IntsAt w A (zs.map pr))) (HL : Hd (zs.length ≤ 6)) (HALL : Hd (okAll ((zs.map pr).take zs.length) = true)) (HZS : Hd (∀ z ∈ zs, ab z < 2 ^ 256)) :
    Calls Try.prog 8 #[.slice A zs.length c, .agg #[.bool (ng (x)), .int .u64 (dg (ab (x)) 0), .int .u64 (dg (ab (x)) 1), .int .u64 (dg (ab (x)) 2), .int .u64 (dg (ab (x)) 3)], .agg #[.bool (ng (y)), .int .u64 (dg (ab (y)) 0), .int .u64 (dg (ab (y)) 1), .int .u64 (dg (ab (y)) 2), .int .u64 (dg (ab (y)) 3)]] w fun e w' => e = .returned (.bool true) ∧ Below w.heap.size w w' := by
  have hl6 : decide ((zs.length : Int) > 6) = false := by have := HL.out; simp; omega
  have hl7 := HL.out
  go_enter Try.func8, Try.ntmps8
  have hB := Below.refl w.heap.size w
  have hsz := hB.size
  go_upto_region 3 with (fail)
  refine abs_wp (fun W => W.heap[w.heap.size]? = some (.cells #[.bool (ng (x)), .int .u64 (dg (ab (x)) 0), .int .u64 (dg (ab (x)) 1), .int .u64 (dg (ab (x)) 2), .int .u64 (dg (ab (x)) 3)] 25 (0, 0)) ∧ W.heap[w.heap.size + 1]? = some (.cells #[.bool (ng (y)), .int .u64 (dg (ab (y)) 0), .int .u64 (dg (ab (y)) 1), .int .u64 (dg (ab (y)) 2), .int .u64 (dg (ab (y)) 3)] 25 (0, 0)) ∧ Below w.heap.size w W) ⟨heap_old (heap_new _ _) _, heap_at (by simp) _, (by focus (repeat (first | (with_reducible exact Below.refl _ _) | (with_reducible assumption) | ((with_reducible refine Below.setCell ?_ ?_ _); rotate_left; (focus (first | omega | (simp; done) | (simp; omega)))) | ((with_reducible refine Below.alloc ?_ ?_ _); rotate_left; (focus (first | omega | (simp; done) | (simp; omega)))) | (with_reducible refine Below.drew ?_) | (refine below_on ?_ (by assumption)))))⟩ fun W1 ⟨g_a, g_b, gB⟩ => ?_
  clear hB hsz 
  have h_a := g_a
  have h_b := g_b
  have hB := gB
  clear gB g_a g_b
  go_wp2
  go_loopw [7, 8] (fun bv iv wr => ∃ k : Nat, k ≤ zs.length ∧ iv = .int .i64 k ∧ bv = .bool (okAll ((zs.map pr).take k)) ∧ wr.heap[w.heap.size]? = some (.cells #[.bool (ng (x)), .int .u64 (dg (ab (x)) 0), .int .u64 (dg (ab (x)) 1), .int .u64 (dg (ab (x)) 2), .int .u64 (dg (ab (x)) 3)] 25 (0, 0)) ∧ wr.heap[w.heap.size + 1]? = some (.cells #[.bool (ng (y)), .int .u64 (dg (ab (y)) 0), .int .u64 (dg (ab (y)) 1), .int .u64 (dg (ab (y)) 2), .int .u64 (dg (ab (y)) 3)] 25 (0, 0)) ∧ Below w.heap.size w wr) (fun _ iv _ => zs.length - (intOf iv).toNat)
  case atStart => exact ⟨0, Nat.zero_le _, rfl, rfl, h_a, h_b, hB⟩
  case round =>
    clear h_a h_b hB
    obtain ⟨k, hk, rfl, rfl, h_a, h_b, hB⟩ := hrel
    have hsz := hB.size
    by_cases hlt : k < zs.length
    · have hd1 : decide (k < zs.length) = true := by simpa using hlt
      obtain ⟨r, hr⟩ : ∃ r, (zs.map pr)[k]? = some r := ⟨_, List.getElem?_eq_getElem (by simpa using hlt)⟩
      have HT := Hd.mk (take_ok hr)
      have hrb := HI.out.1 r (List.mem_of_getElem? hr)
      have HRB := Hd.mk hrb
      obtain ⟨b, off, rfl, hcell⟩ := (HI.out.below hB).2.2 (by first | omega | (simp; omega))
      have hfive := hcell k r hr
      have e0 : wr.cell? ⟨b, off + k * 5, none⟩ = some (.bool r.1) := hfive 0 (by omega)
      have e1 : wr.cell? ⟨b, off + k * 5 + 1, none⟩ = some (.int .u64 (dg r.2 0)) := hfive 1 (by omega)
      have e2 : wr.cell? ⟨b, off + k * 5 + 2, none⟩ = some (.int .u64 (dg r.2 1)) := hfive 2 (by omega)
      have e3 : wr.cell? ⟨b, off + k * 5 + 3, none⟩ = some (.int .u64 (dg r.2 2)) := hfive 3 (by omega)
      have e4 : wr.cell? ⟨b, off + k * 5 + 4, none⟩ = some (.int .u64 (dg r.2 3)) := hfive 4 (by omega)
      clear hr hrb hcell hfive
      cases hq : okAll ((zs.map pr).take k)
      · have HQ := Hd.mk hq
        clear hq
        go_wp2
        go_roundw
        case rel => exact ⟨k + 1, by omega, by go_num, by rw [HT.out, HQ.out, Bool.false_and], h_a, h_b, hB⟩
        case measure => simp [intOf]; omega
      · have HQ := Hd.mk hq
        clear hq
        go_wp2_with fail
        refine (rright_any r HRB.out _).mono ?_
        rintro e w2 ⟨rfl, hb⟩
        have k_a := heap_below hb h_a
        have k_b := heap_below hb h_b
        have kB := below_on hB hb
        clear hb h_a h_b hB
        go_wp2
        go_roundw
        case rel => exact ⟨k + 1, by omega, by go_num, by rw [HT.out, HQ.out, Bool.true_and], k_a, k_b, kB⟩
        case measure => simp [intOf]; omega
    · obtain rfl : k = zs.length := by omega
      have hd1 : decide (zs.length < zs.length) = false := by simp
      rw [show okAll ((zs.map pr).take zs.length) = true from HALL.out]
      go_wp2_with fail
      refine (add_ok A c zs _ (HI.out.below hB)).mono ?_
      rintro e w2 ⟨rfl, hb⟩
      have k_a := heap_below hb h_a
      have k_b := heap_below hb h_b
      have kB : Below w.heap.size w w2 := by
        have hsz := hB.size
        focus (repeat (first | (with_reducible exact Below.refl _ _) | (with_reducible assumption) | ((with_reducible refine Below.setCell ?_ ?_ _); rotate_left; (focus (first | omega | (simp; done) | (simp; omega)))) | ((with_reducible refine Below.alloc ?_ ?_ _); rotate_left; (focus (first | omega | (simp; done) | (simp; omega)))) | (with_reducible refine Below.drew ?_) | (refine below_on ?_ (by assumption))))
      have sz_w2 := kB.size
      have sl_w2 := lt_of_block k_b
      clear hB hb h_a h_b
      have h_a := k_a
      have h_b := k_b
      have hB := kB
      clear kB k_a k_b
      have hsz := hB.size
      go_upto_region 9 with (fail)
      refine abs_wp (fun W => W.heap[w.heap.size]? = some (.cells #[.bool (ng (x)), .int .u64 (dg (ab (x)) 0), .int .u64 (dg (ab (x)) 1), .int .u64 (dg (ab (x)) 2), .int .u64 (dg (ab (x)) 3)] 25 (0, 0)) ∧ W.heap[w.heap.size + 1]? = some (.cells #[.bool (ng (y)), .int .u64 (dg (ab (y)) 0), .int .u64 (dg (ab (y)) 1), .int .u64 (dg (ab (y)) 2), .int .u64 (dg (ab (y)) 3)] 25 (0, 0)) ∧ W.heap[w2.heap.size]? = some (.cells #[.bool (ng (addV zs)), .int .u64 (dg (ab (addV zs)) 0), .int .u64 (dg (ab (addV zs)) 1), .int .u64 (dg (ab (addV zs)) 2), .int .u64 (dg (ab (addV zs)) 3)] 25 (0, 0)) ∧ Below w.heap.size w W) ⟨heap_old (h_a) _, heap_old (h_b) _, heap_new _ _, (by focus (repeat (first | (with_reducible exact Below.refl _ _) | (with_reducible assumption) | ((with_reducible refine Below.setCell ?_ ?_ _); rotate_left; (focus (first | omega | (simp; done) | (simp; omega)))) | ((with_reducible refine Below.alloc ?_ ?_ _); rotate_left; (focus (first | omega | (simp; done) | (simp; omega)))) | (with_reducible refine Below.drew ?_) | (refine below_on ?_ (by assumption)))))⟩ fun W3 ⟨g_a, g_b, g_s, gB⟩ => ?_
      clear hB hsz h_a h_b
      have h_a := g_a
      have h_b := g_b
      have h_s := g_s
      have hB := gB
      clear gB g_a g_b g_s
      go_wp2_with fail
      refine (mul_ok A c zs _ (HI.out.below hB)).mono ?_
      rintro e w4 ⟨rfl, hb⟩
      have k_a := heap_below hb h_a
      have k_b := heap_below hb h_b
      have k_s := heap_below hb h_s
      have kB : Below w.heap.size w w4 := by
        have hsz := hB.size
        focus (repeat (first | (with_reducible exact Below.refl _ _) | (with_reducible assumption) | ((with_reducible refine Below.setCell ?_ ?_ _); rotate_left; (focus (first | omega | (simp; done) | (simp; omega)))) | ((with_reducible refine Below.alloc ?_ ?_ _); rotate_left; (focus (first | omega | (simp; done) | (simp; omega)))) | (with_reducible refine Below.drew ?_) | (refine below_on ?_ (by assumption))))
      have sz_w4 := kB.size
      have sl_w4 := lt_of_block k_s
      clear hB hb h_a h_b h_s
      have h_a := k_a
      have h_b := k_b
      have h_s := k_s
      have hB := kB
      clear kB k_a k_b k_s
      have hsz := hB.size
      go_upto_region 10 with (fail)
      refine abs_wp (fun W => W.heap[w.heap.size]? = some (.cells #[.bool (ng (x)), .int .u64 (dg (ab (x)) 0), .int .u64 (dg (ab (x)) 1), .int .u64 (dg (ab (x)) 2), .int .u64 (dg (ab (x)) 3)] 25 (0, 0)) ∧ W.heap[w.heap.size + 1]? = some (.cells #[.bool (ng (y)), .int .u64 (dg (ab (y)) 0), .int .u64 (dg (ab (y)) 1), .int .u64 (dg (ab (y)) 2), .int .u64 (dg (ab (y)) 3)] 25 (0, 0)) ∧ W.heap[w2.heap.size]? = some (.cells #[.bool (ng (addV zs)), .int .u64 (dg (ab (addV zs)) 0), .int .u64 (dg (ab (addV zs)) 1), .int .u64 (dg (ab (addV zs)) 2), .int .u64 (dg (ab (addV zs)) 3)] 25 (0, 0)) ∧ W.heap[w4.heap.size]? = some (.cells #[.bool (ng (mulV zs)), .int .u64 (dg (ab (mulV zs)) 0), .int .u64 (dg (ab (mulV zs)) 1), .int .u64 (dg (ab (mulV zs)) 2), .int .u64 (dg (ab (mulV zs)) 3)] 25 (0, 0)) ∧ Below w.heap.size w W) ⟨heap_old (h_a) _, heap_old (h_b) _, heap_old (h_s) _, heap_new _ _, (by focus (repeat (first | (with_reducible exact Below.refl _ _) | (with_reducible assumption) | ((with_reducible refine Below.setCell ?_ ?_ _); rotate_left; (focus (first | omega | (simp; done) | (simp; omega)))) | ((with_reducible refine Below.alloc ?_ ?_ _); rotate_left; (focus (first | omega | (simp; done) | (simp; omega)))) | (with_reducible refine Below.drew ?_) | (refine below_on ?_ (by assumption)))))⟩ fun W5 ⟨g_a, g_b, g_s, g_p, gB⟩ => ?_
      clear hB hsz h_a h_b h_s
      have h_a := g_a
      have h_b := g_b
      have h_s := g_s
      have h_p := g_p
      have hB := gB
      clear gB g_a g_b g_s g_p
      go_wp2_with fail
      refine (steps_false A c zs HZS.out _ (HI.out.below hB)).mono ?_
      rintro e w6 ⟨rfl, hb⟩
      have k_a := heap_below hb h_a
      have k_b := heap_below hb h_b
      have k_s := heap_below hb h_s
      have k_p := heap_below hb h_p
      have kB : Below w.heap.size w w6 := by
        have hsz := hB.size
        focus (repeat (first | (with_reducible exact Below.refl _ _) | (with_reducible assumption) | ((with_reducible refine Below.setCell ?_ ?_ _); rotate_left; (focus (first | omega | (simp; done) | (simp; omega)))) | ((with_reducible refine Below.alloc ?_ ?_ _); rotate_left; (focus (first | omega | (simp; done) | (simp; omega)))) | (with_reducible refine Below.drew ?_) | (refine below_on ?_ (by assumption))))
      have sz_w6 := kB.size
      have sl_w6 := lt_of_block k_p
      clear hB hb h_a h_b h_s h_p
      have h_a := k_a
      have h_b := k_b
      have h_s := k_s
      have h_p := k_p
      have hB := kB
      clear kB k_a k_b k_s k_p
      have hsz := hB.size
      go_upto_region 13 with (fail)
      refine abs_wp (fun W => W.heap[w.heap.size]? = some (.cells #[.bool (ng (x)), .int .u64 (dg (ab (x)) 0), .int .u64 (dg (ab (x)) 1), .int .u64 (dg (ab (x)) 2), .int .u64 (dg (ab (x)) 3)] 25 (0, 0)) ∧ W.heap[w.heap.size + 1]? = some (.cells #[.bool (ng (y)), .int .u64 (dg (ab (y)) 0), .int .u64 (dg (ab (y)) 1), .int .u64 (dg (ab (y)) 2), .int .u64 (dg (ab (y)) 3)] 25 (0, 0)) ∧ W.heap[w2.heap.size]? = some (.cells #[.bool (ng (addV zs)), .int .u64 (dg (ab (addV zs)) 0), .int .u64 (dg (ab (addV zs)) 1), .int .u64 (dg (ab (addV zs)) 2), .int .u64 (dg (ab (addV zs)) 3)] 25 (0, 0)) ∧ W.heap[w4.heap.size]? = some (.cells #[.bool (ng (mulV zs)), .int .u64 (dg (ab (mulV zs)) 0), .int .u64 (dg (ab (mulV zs)) 1), .int .u64 (dg (ab (mulV zs)) 2), .int .u64 (dg (ab (mulV zs)) 3)] 25 (0, 0)) ∧ W.heap[w6.heap.size]? = some (.cells #[.bool (ng (addV zs)), .int .u64 (dg (ab (addV zs)) 0), .int .u64 (dg (ab (addV zs)) 1), .int .u64 (dg (ab (addV zs)) 2), .int .u64 (dg (ab (addV zs)) 3)] 25 (0, 0)) ∧ Below w.heap.size w W) ⟨heap_old (h_a) _, heap_old (h_b) _, heap_old (h_s) _, heap_old (h_p) _, heap_new _ _, (by focus (repeat (first | (with_reducible exact Below.refl _ _) | (with_reducible assumption) | ((with_reducible refine Below.setCell ?_ ?_ _); rotate_left; (focus (first | omega | (simp; done) | (simp; omega)))) | ((with_reducible refine Below.alloc ?_ ?_ _); rotate_left; (focus (first | omega | (simp; done) | (simp; omega)))) | (with_reducible refine Below.drew ?_) | (refine below_on ?_ (by assumption)))))⟩ fun W7 ⟨g_a, g_b, g_s, g_p, g_want, gB⟩ => ?_
      clear hB hsz h_a h_b h_s h_p
      have h_a := g_a
      have h_b := g_b
      have h_s := g_s
      have h_p := g_p
      have h_want := g_want
      have hB := gB
      clear gB g_a g_b g_s g_p g_want
      go_wp2_with fail
      refine (steps_true A c zs HZS.out _ (HI.out.below hB)).mono ?_
      rintro e w8 ⟨rfl, hb⟩
      have k_a := heap_below hb h_a
      have k_b := heap_below hb h_b
      have k_s := heap_below hb h_s
      have k_p := heap_below hb h_p
      have k_want := heap_below hb h_want
      have kB : Below w.heap.size w w8 := by
        have hsz := hB.size
        focus (repeat (first | (with_reducible exact Below.refl _ _) | (with_reducible assumption) | ((with_reducible refine Below.setCell ?_ ?_ _); rotate_left; (focus (first | omega | (simp; done) | (simp; omega)))) | ((with_reducible refine Below.alloc ?_ ?_ _); rotate_left; (focus (first | omega | (simp; done) | (simp; omega)))) | (with_reducible refine Below.drew ?_) | (refine below_on ?_ (by assumption))))
      have sz_w8 := kB.size
      have sl_w8 := lt_of_block k_want
      clear hB hb h_a h_b h_s h_p h_want
      have h_a := k_a
      have h_b := k_b
      have h_s := k_s
      have h_p := k_p
      have h_want := k_want
      have hB := kB
      clear kB k_a k_b k_s k_p k_want
      have hsz := hB.size
      go_upto_region 14 with (fail)
      refine abs_wp (fun W => W.heap[w.heap.size]? = some (.cells #[.bool (ng (x)), .int .u64 (dg (ab (x)) 0), .int .u64 (dg (ab (x)) 1), .int .u64 (dg (ab (x)) 2), .int .u64 (dg (ab (x)) 3)] 25 (0, 0)) ∧ W.heap[w.heap.size + 1]? = some (.cells #[.bool (ng (y)), .int .u64 (dg (ab (y)) 0), .int .u64 (dg (ab (y)) 1), .int .u64 (dg (ab (y)) 2), .int .u64 (dg (ab (y)) 3)] 25 (0, 0)) ∧ W.heap[w2.heap.size]? = some (.cells #[.bool (ng (addV zs)), .int .u64 (dg (ab (addV zs)) 0), .int .u64 (dg (ab (addV zs)) 1), .int .u64 (dg (ab (addV zs)) 2), .int .u64 (dg (ab (addV zs)) 3)] 25 (0, 0)) ∧ W.heap[w4.heap.size]? = some (.cells #[.bool (ng (mulV zs)), .int .u64 (dg (ab (mulV zs)) 0), .int .u64 (dg (ab (mulV zs)) 1), .int .u64 (dg (ab (mulV zs)) 2), .int .u64 (dg (ab (mulV zs)) 3)] 25 (0, 0)) ∧ W.heap[w6.heap.size]? = some (.cells #[.bool (ng (addV zs)), .int .u64 (dg (ab (addV zs)) 0), .int .u64 (dg (ab (addV zs)) 1), .int .u64 (dg (ab (addV zs)) 2), .int .u64 (dg (ab (addV zs)) 3)] 25 (0, 0)) ∧ W.heap[w8.heap.size]? = some (.cells #[.bool (ng (mulV zs)), .int .u64 (dg (ab (mulV zs)) 0), .int .u64 (dg (ab (mulV zs)) 1), .int .u64 (dg (ab (mulV zs)) 2), .int .u64 (dg (ab (mulV zs)) 3)] 25 (0, 0)) ∧ Below w.heap.size w W) ⟨heap_old (h_a) _, heap_old (h_b) _, heap_old (h_s) _, heap_old (h_p) _, heap_old (h_want) _, heap_new _ _, (by focus (repeat (first | (with_reducible exact Below.refl _ _) | (with_reducible assumption) | ((with_reducible refine Below.setCell ?_ ?_ _); rotate_left; (focus (first | omega | (simp; done) | (simp; omega)))) | ((with_reducible refine Below.alloc ?_ ?_ _); rotate_left; (focus (first | omega | (simp; done) | (simp; omega)))) | (with_reducible refine Below.drew ?_) | (refine below_on ?_ (by assumption)))))⟩ fun W9 ⟨g_a, g_b, g_s, g_p, g_want, g_more, gB⟩ => ?_
      clear hB hsz h_a h_b h_s h_p h_want
      have h_a := g_a
      have h_b := g_b
      have h_s := g_s
      have h_p := g_p
      have h_want := g_want
      have h_more := g_more
      have hB := gB
      clear gB g_a g_b g_s g_p g_want g_more
      have c_s := cell_at h_s
      have c_p := cell_at h_p
      have c_want := cell_at h_want
      have c_more := cell_at h_more
      go_upto_region 16 with ((go_at_call 14; refine (num_s _ _).mono ?_; rintro e w' ⟨rfl, rfl⟩))
      refine abs_wp (fun W => W.heap[w.heap.size]? = some (.cells #[.bool (ng (x)), .int .u64 (dg (ab (x)) 0), .int .u64 (dg (ab (x)) 1), .int .u64 (dg (ab (x)) 2), .int .u64 (dg (ab (x)) 3)] 25 (0, 0)) ∧ W.heap[w.heap.size + 1]? = some (.cells #[.bool (ng (y)), .int .u64 (dg (ab (y)) 0), .int .u64 (dg (ab (y)) 1), .int .u64 (dg (ab (y)) 2), .int .u64 (dg (ab (y)) 3)] 25 (0, 0)) ∧ Below w.heap.size w W) ⟨h_a, h_b, (by focus (repeat (first | (with_reducible exact Below.refl _ _) | (with_reducible assumption) | ((with_reducible refine Below.setCell ?_ ?_ _); rotate_left; (focus (first | omega | (simp; done) | (simp; omega)))) | ((with_reducible refine Below.alloc ?_ ?_ _); rotate_left; (focus (first | omega | (simp; done) | (simp; omega)))) | (with_reducible refine Below.drew ?_) | (refine below_on ?_ (by assumption)))))⟩ fun W10 ⟨g_a, g_b, gB⟩ => ?_
      clear hB h_a h_b h_s h_p h_want h_more
      have h_a := g_a
      have h_b := g_b
      have hB := gB
      clear gB g_a g_b
      have c_a := cell_at h_a
      have c_b := cell_at h_b
      go_wp2_with fail
      refine (sub_at x y HX.out HY.out _).mono ?_
      rintro e w11 ⟨rfl, hb⟩
      have k_a := heap_below hb h_a
      have k_b := heap_below hb h_b
      have kB : Below w.heap.size w w11 := by
        have hsz := hB.size
        focus (repeat (first | (with_reducible exact Below.refl _ _) | (with_reducible assumption) | ((with_reducible refine Below.setCell ?_ ?_ _); rotate_left; (focus (first | omega | (simp; done) | (simp; omega)))) | ((with_reducible refine Below.alloc ?_ ?_ _); rotate_left; (focus (first | omega | (simp; done) | (simp; omega)))) | (with_reducible refine Below.drew ?_) | (refine below_on ?_ (by assumption))))
      have sz_w11 := kB.size
      have sl_w11 := lt_of_block k_b
      clear hB hb h_a h_b
      have h_a := k_a
      have h_b := k_b
      have hB := kB
      clear kB k_a k_b
      have hsz := hB.size
      go_upto_region 17 with (fail)
      refine abs_wp (fun W => W.heap[w.heap.size]? = some (.cells #[.bool (ng (x)), .int .u64 (dg (ab (x)) 0), .int .u64 (dg (ab (x)) 1), .int .u64 (dg (ab (x)) 2), .int .u64 (dg (ab (x)) 3)] 25 (0, 0)) ∧ W.heap[w.heap.size + 1]? = some (.cells #[.bool (ng (y)), .int .u64 (dg (ab (y)) 0), .int .u64 (dg (ab (y)) 1), .int .u64 (dg (ab (y)) 2), .int .u64 (dg (ab (y)) 3)] 25 (0, 0)) ∧ W.heap[w11.heap.size]? = some (.cells #[.bool (ng (outV (x - y))), .int .u64 (dg (ab (outV (x - y))) 0), .int .u64 (dg (ab (outV (x - y))) 1), .int .u64 (dg (ab (outV (x - y))) 2), .int .u64 (dg (ab (outV (x - y))) 3)] 25 (0, 0)) ∧ Below w.heap.size w W) ⟨heap_old (h_a) _, heap_old (h_b) _, heap_new _ _, (by focus (repeat (first | (with_reducible exact Below.refl _ _) | (with_reducible assumption) | ((with_reducible refine Below.setCell ?_ ?_ _); rotate_left; (focus (first | omega | (simp; done) | (simp; omega)))) | ((with_reducible refine Below.alloc ?_ ?_ _); rotate_left; (focus (first | omega | (simp; done) | (simp; omega)))) | (with_reducible refine Below.drew ?_) | (refine below_on ?_ (by assumption)))))⟩ fun W12 ⟨g_a, g_b, g_d, gB⟩ => ?_
      clear hB hsz h_a h_b
      have h_a := g_a
      have h_b := g_b
      have h_d := g_d
      have hB := gB
      clear gB g_a g_b g_d
      have c_a := cell_at h_a
      go_wp2_with fail
      refine (neg_ok x HX.out _).mono ?_
      rintro e w13 ⟨rfl, hb⟩
      have k_a := heap_below hb h_a
      have k_b := heap_below hb h_b
      have k_d := heap_below hb h_d
      have kB : Below w.heap.size w w13 := by
        have hsz := hB.size
        focus (repeat (first | (with_reducible exact Below.refl _ _) | (with_reducible assumption) | ((with_reducible refine Below.setCell ?_ ?_ _); rotate_left; (focus (first | omega | (simp; done) | (simp; omega)))) | ((with_reducible refine Below.alloc ?_ ?_ _); rotate_left; (focus (first | omega | (simp; done) | (simp; omega)))) | (with_reducible refine Below.drew ?_) | (refine below_on ?_ (by assumption))))
      have sz_w13 := kB.size
      have sl_w13 := lt_of_block k_d
      clear hB hb h_a h_b h_d
      have h_a := k_a
      have h_b := k_b
      have h_d := k_d
      have hB := kB
      clear kB k_a k_b k_d
      have hsz := hB.size
      go_upto_region 18 with (fail)
      refine abs_wp (fun W => W.heap[w.heap.size]? = some (.cells #[.bool (ng (x)), .int .u64 (dg (ab (x)) 0), .int .u64 (dg (ab (x)) 1), .int .u64 (dg (ab (x)) 2), .int .u64 (dg (ab (x)) 3)] 25 (0, 0)) ∧ W.heap[w.heap.size + 1]? = some (.cells #[.bool (ng (y)), .int .u64 (dg (ab (y)) 0), .int .u64 (dg (ab (y)) 1), .int .u64 (dg (ab (y)) 2), .int .u64 (dg (ab (y)) 3)] 25 (0, 0)) ∧ W.heap[w11.heap.size]? = some (.cells #[.bool (ng (outV (x - y))), .int .u64 (dg (ab (outV (x - y))) 0), .int .u64 (dg (ab (outV (x - y))) 1), .int .u64 (dg (ab (outV (x - y))) 2), .int .u64 (dg (ab (outV (x - y))) 3)] 25 (0, 0)) ∧ W.heap[w13.heap.size]? = some (.cells #[.bool (ng (-x)), .int .u64 (dg (ab (-x)) 0), .int .u64 (dg (ab (-x)) 1), .int .u64 (dg (ab (-x)) 2), .int .u64 (dg (ab (-x)) 3)] 25 (0, 0)) ∧ Below w.heap.size w W) ⟨heap_old (h_a) _, heap_old (h_b) _, heap_old (h_d) _, heap_new _ _, (by focus (repeat (first | (with_reducible exact Below.refl _ _) | (with_reducible assumption) | ((with_reducible refine Below.setCell ?_ ?_ _); rotate_left; (focus (first | omega | (simp; done) | (simp; omega)))) | ((with_reducible refine Below.alloc ?_ ?_ _); rotate_left; (focus (first | omega | (simp; done) | (simp; omega)))) | (with_reducible refine Below.drew ?_) | (refine below_on ?_ (by assumption)))))⟩ fun W14 ⟨g_a, g_b, g_d, g_n, gB⟩ => ?_
      clear hB hsz h_a h_b h_d
      have h_a := g_a
      have h_b := g_b
      have h_d := g_d
      have h_n := g_n
      have hB := gB
      clear gB g_a g_b g_d g_n
      have c_a := cell_at h_a
      go_wp2_with fail
      refine (rright_ok x HX.out _).mono ?_
      rintro e w15 ⟨rfl, hb⟩
      have k_a := heap_below hb h_a
      have k_b := heap_below hb h_b
      have k_d := heap_below hb h_d
      have k_n := heap_below hb h_n
      have kB : Below w.heap.size w w15 := by
        have hsz := hB.size
        focus (repeat (first | (with_reducible exact Below.refl _ _) | (with_reducible assumption) | ((with_reducible refine Below.setCell ?_ ?_ _); rotate_left; (focus (first | omega | (simp; done) | (simp; omega)))) | ((with_reducible refine Below.alloc ?_ ?_ _); rotate_left; (focus (first | omega | (simp; done) | (simp; omega)))) | (with_reducible refine Below.drew ?_) | (refine below_on ?_ (by assumption))))
      have sz_w15 := kB.size
      have sl_w15 := lt_of_block k_n
      clear hB hb h_a h_b h_d h_n
      have h_a := k_a
      have h_b := k_b
      have h_d := k_d
      have h_n := k_n
      have hB := kB
      clear kB k_a k_b k_d k_n
      go_upto_region 20 with (fail)
      refine abs_wp (fun W => W.heap[w.heap.size]? = some (.cells #[.bool (ng (x)), .int .u64 (dg (ab (x)) 0), .int .u64 (dg (ab (x)) 1), .int .u64 (dg (ab (x)) 2), .int .u64 (dg (ab (x)) 3)] 25 (0, 0)) ∧ W.heap[w.heap.size + 1]? = some (.cells #[.bool (ng (y)), .int .u64 (dg (ab (y)) 0), .int .u64 (dg (ab (y)) 1), .int .u64 (dg (ab (y)) 2), .int .u64 (dg (ab (y)) 3)] 25 (0, 0)) ∧ W.heap[w11.heap.size]? = some (.cells #[.bool (ng (outV (x - y))), .int .u64 (dg (ab (outV (x - y))) 0), .int .u64 (dg (ab (outV (x - y))) 1), .int .u64 (dg (ab (outV (x - y))) 2), .int .u64 (dg (ab (outV (x - y))) 3)] 25 (0, 0)) ∧ W.heap[w13.heap.size]? = some (.cells #[.bool (ng (-x)), .int .u64 (dg (ab (-x)) 0), .int .u64 (dg (ab (-x)) 1), .int .u64 (dg (ab (-x)) 2), .int .u64 (dg (ab (-x)) 3)] 25 (0, 0)) ∧ Below w.heap.size w W) ⟨h_a, h_b, h_d, h_n, (by focus (repeat (first | (with_reducible exact Below.refl _ _) | (with_reducible assumption) | ((with_reducible refine Below.setCell ?_ ?_ _); rotate_left; (focus (first | omega | (simp; done) | (simp; omega)))) | ((with_reducible refine Below.alloc ?_ ?_ _); rotate_left; (focus (first | omega | (simp; done) | (simp; omega)))) | (with_reducible refine Below.drew ?_) | (refine below_on ?_ (by assumption)))))⟩ fun W16 ⟨g_a, g_b, g_d, g_n, gB⟩ => ?_
      clear hB h_a h_b h_d h_n
      have h_a := g_a
      have h_b := g_b
      have h_d := g_d
      have h_n := g_n
      have hB := gB
      clear gB g_a g_b g_d g_n
      have c_a := cell_at h_a
      go_wp2_with fail
      refine (from_z x HX.out _).mono ?_
      rintro e w17 ⟨v, rfl, hV, hb⟩
      have k_a := heap_below hb h_a
      have k_b := heap_below hb h_b
      have k_d := heap_below hb h_d
      have k_n := heap_below hb h_n
      have kB : Below w.heap.size w w17 := by
        have hsz := hB.size
        focus (repeat (first | (with_reducible exact Below.refl _ _) | (with_reducible assumption) | ((with_reducible refine Below.setCell ?_ ?_ _); rotate_left; (focus (first | omega | (simp; done) | (simp; omega)))) | ((with_reducible refine Below.alloc ?_ ?_ _); rotate_left; (focus (first | omega | (simp; done) | (simp; omega)))) | (with_reducible refine Below.drew ?_) | (refine below_on ?_ (by assumption))))
      have sz_w17 := kB.size
      have sl_w17 := lt_of_block k_n
      clear hB hb h_a h_b h_d h_n
      have h_a := k_a
      have h_b := k_b
      have h_d := k_d
      have h_n := k_n
      have hB := kB
      clear kB k_a k_b k_d k_n
      go_wp2_with fail
      refine (rneg_any x (-x) rfl _ _ hV).mono ?_
      rintro e w18 ⟨v2, rfl, hV2, hb⟩
      have k_a := heap_below hb h_a
      have k_b := heap_below hb h_b
      have k_d := heap_below hb h_d
      have k_n := heap_below hb h_n
      have kB : Below w.heap.size w w18 := by
        have hsz := hB.size
        focus (repeat (first | (with_reducible exact Below.refl _ _) | (with_reducible assumption) | ((with_reducible refine Below.setCell ?_ ?_ _); rotate_left; (focus (first | omega | (simp; done) | (simp; omega)))) | ((with_reducible refine Below.alloc ?_ ?_ _); rotate_left; (focus (first | omega | (simp; done) | (simp; omega)))) | (with_reducible refine Below.drew ?_) | (refine below_on ?_ (by assumption))))
      have sz_w18 := kB.size
      have sl_w18 := lt_of_block k_n
      clear hB hb h_a h_b h_d h_n
      have h_a := k_a
      have h_b := k_b
      have h_d := k_d
      have h_n := k_n
      have hB := kB
      clear kB k_a k_b k_d k_n
      clear hV
      go_wp2_with fail
      refine (rout_ok (-x) HXN.out _ _ hV2).mono ?_
      rintro e w19 ⟨rfl, hb⟩
      have k_a := heap_below hb h_a
      have k_b := heap_below hb h_b
      have k_d := heap_below hb h_d
      have k_n := heap_below hb h_n
      have kB : Below w.heap.size w w19 := by
        have hsz := hB.size
        focus (repeat (first | (with_reducible exact Below.refl _ _) | (with_reducible assumption) | ((with_reducible refine Below.setCell ?_ ?_ _); rotate_left; (focus (first | omega | (simp; done) | (simp; omega)))) | ((with_reducible refine Below.alloc ?_ ?_ _); rotate_left; (focus (first | omega | (simp; done) | (simp; omega)))) | (with_reducible refine Below.drew ?_) | (refine below_on ?_ (by assumption))))
      have sz_w19 := kB.size
      have sl_w19 := lt_of_block k_n
      clear hB hb h_a h_b h_d h_n
      have h_a := k_a
      have h_b := k_b
      have h_d := k_d
      have h_n := k_n
      have hB := kB
      clear kB k_a k_b k_d k_n
      clear hV2
      have hsz := hB.size
      go_upto_region 21 with (fail)
      refine abs_wp (fun W => W.heap[w.heap.size]? = some (.cells #[.bool (ng (x)), .int .u64 (dg (ab (x)) 0), .int .u64 (dg (ab (x)) 1), .int .u64 (dg (ab (x)) 2), .int .u64 (dg (ab (x)) 3)] 25 (0, 0)) ∧ W.heap[w.heap.size + 1]? = some (.cells #[.bool (ng (y)), .int .u64 (dg (ab (y)) 0), .int .u64 (dg (ab (y)) 1), .int .u64 (dg (ab (y)) 2), .int .u64 (dg (ab (y)) 3)] 25 (0, 0)) ∧ W.heap[w11.heap.size]? = some (.cells #[.bool (ng (outV (x - y))), .int .u64 (dg (ab (outV (x - y))) 0), .int .u64 (dg (ab (outV (x - y))) 1), .int .u64 (dg (ab (outV (x - y))) 2), .int .u64 (dg (ab (outV (x - y))) 3)] 25 (0, 0)) ∧ W.heap[w13.heap.size]? = some (.cells #[.bool (ng (-x)), .int .u64 (dg (ab (-x)) 0), .int .u64 (dg (ab (-x)) 1), .int .u64 (dg (ab (-x)) 2), .int .u64 (dg (ab (-x)) 3)] 25 (0, 0)) ∧ W.heap[w19.heap.size]? = some (.cells #[.bool (ng (-x)), .int .u64 (dg (ab (-x)) 0), .int .u64 (dg (ab (-x)) 1), .int .u64 (dg (ab (-x)) 2), .int .u64 (dg (ab (-x)) 3)] 25 (0, 0)) ∧ Below w.heap.size w W) ⟨heap_old (h_a) _, heap_old (h_b) _, heap_old (h_d) _, heap_old (h_n) _, heap_new _ _, (by focus (repeat (first | (with_reducible exact Below.refl _ _) | (with_reducible assumption) | ((with_reducible refine Below.setCell ?_ ?_ _); rotate_left; (focus (first | omega | (simp; done) | (simp; omega)))) | ((with_reducible refine Below.alloc ?_ ?_ _); rotate_left; (focus (first | omega | (simp; done) | (simp; omega)))) | (with_reducible refine Below.drew ?_) | (refine below_on ?_ (by assumption)))))⟩ fun W20 ⟨g_a, g_b, g_d, g_n, g_neg, gB⟩ => ?_
      clear hB hsz h_a h_b h_d h_n
      have h_a := g_a
      have h_b := g_b
      have h_d := g_d
      have h_n := g_n
      have h_neg := g_neg
      have hB := gB
      clear gB g_a g_b g_d g_n g_neg
      have c_n := cell_at h_n
      have c_neg := cell_at h_neg
      go_upto_region 23 with ((go_at_call 14; refine (num_s _ _).mono ?_; rintro e w' ⟨rfl, rfl⟩))
      refine abs_wp (fun W => W.heap[w.heap.size]? = some (.cells #[.bool (ng (x)), .int .u64 (dg (ab (x)) 0), .int .u64 (dg (ab (x)) 1), .int .u64 (dg (ab (x)) 2), .int .u64 (dg (ab (x)) 3)] 25 (0, 0)) ∧ W.heap[w.heap.size + 1]? = some (.cells #[.bool (ng (y)), .int .u64 (dg (ab (y)) 0), .int .u64 (dg (ab (y)) 1), .int .u64 (dg (ab (y)) 2), .int .u64 (dg (ab (y)) 3)] 25 (0, 0)) ∧ W.heap[w11.heap.size]? = some (.cells #[.bool (ng (outV (x - y))), .int .u64 (dg (ab (outV (x - y))) 0), .int .u64 (dg (ab (outV (x - y))) 1), .int .u64 (dg (ab (outV (x - y))) 2), .int .u64 (dg (ab (outV (x - y))) 3)] 25 (0, 0)) ∧ Below w.heap.size w W) ⟨h_a, h_b, h_d, (by focus (repeat (first | (with_reducible exact Below.refl _ _) | (with_reducible assumption) | ((with_reducible refine Below.setCell ?_ ?_ _); rotate_left; (focus (first | omega | (simp; done) | (simp; omega)))) | ((with_reducible refine Below.alloc ?_ ?_ _); rotate_left; (focus (first | omega | (simp; done) | (simp; omega)))) | (with_reducible refine Below.drew ?_) | (refine below_on ?_ (by assumption)))))⟩ fun W21 ⟨g_a, g_b, g_d, gB⟩ => ?_
      clear hB h_a h_b h_d h_n h_neg
      have h_a := g_a
      have h_b := g_b
      have h_d := g_d
      have hB := gB
      clear gB g_a g_b g_d
      have c_b := cell_at h_b
      go_wp2_with fail
      refine (rright_ok y HY.out _).mono ?_
      rintro e w22 ⟨rfl, hb⟩
      have k_a := heap_below hb h_a
      have k_b := heap_below hb h_b
      have k_d := heap_below hb h_d
      have kB : Below w.heap.size w w22 := by
        have hsz := hB.size
        focus (repeat (first | (with_reducible exact Below.refl _ _) | (with_reducible assumption) | ((with_reducible refine Below.setCell ?_ ?_ _); rotate_left; (focus (first | omega | (simp; done) | (simp; omega)))) | ((with_reducible refine Below.alloc ?_ ?_ _); rotate_left; (focus (first | omega | (simp; done) | (simp; omega)))) | (with_reducible refine Below.drew ?_) | (refine below_on ?_ (by assumption))))
      have sz_w22 := kB.size
      have sl_w22 := lt_of_block k_d
      clear hB hb h_a h_b h_d
      have h_a := k_a
      have h_b := k_b
      have h_d := k_d
      have hB := kB
      clear kB k_a k_b k_d
      go_upto_region 25 with (fail)
      have HS : Hd (∀ W', Below w22.heap.size w22 W' → (W'.cell? ⟨w.heap.size, 0, none⟩ = some (.bool (ng (x))) ∧ W'.cell? ⟨w.heap.size, 1, none⟩ = some (.int .u64 (dg (ab (x)) 0)) ∧ W'.cell? ⟨w.heap.size, 2, none⟩ = some (.int .u64 (dg (ab (x)) 1)) ∧ W'.cell? ⟨w.heap.size, 3, none⟩ = some (.int .u64 (dg (ab (x)) 2)) ∧ W'.cell? ⟨w.heap.size, 4, none⟩ = some (.int .u64 (dg (ab (x)) 3))) ∧ W'.cell? ⟨w.heap.size + 1, 0, none⟩ = some (.bool (ng (y))) ∧ W'.cell? ⟨w.heap.size + 1, 1, none⟩ = some (.int .u64 (dg (ab (y)) 0)) ∧ W'.cell? ⟨w.heap.size + 1, 2, none⟩ = some (.int .u64 (dg (ab (y)) 1)) ∧ W'.cell? ⟨w.heap.size + 1, 3, none⟩ = some (.int .u64 (dg (ab (y)) 2)) ∧ W'.cell? ⟨w.heap.size + 1, 4, none⟩ = some (.int .u64 (dg (ab (y)) 3))) := ⟨fun W' h => ⟨(z_at h_a).below h, (z_at h_b).below h⟩⟩
      have hD : Below w22.heap.size w22 w22.drew := Below.drew (Below.refl _ _)
      have hDz := hD.size
      have HB := Hd.mk hB
      have HDD := Hd.mk h_d
      clear hB h_d h_a h_b
      go_region_held3 (fun W' => (W'.cell? ⟨w.heap.size, 0, none⟩ = some (.bool (ng (x))) ∧ W'.cell? ⟨w.heap.size, 1, none⟩ = some (.int .u64 (dg (ab (x)) 0)) ∧ W'.cell? ⟨w.heap.size, 2, none⟩ = some (.int .u64 (dg (ab (x)) 1)) ∧ W'.cell? ⟨w.heap.size, 3, none⟩ = some (.int .u64 (dg (ab (x)) 2)) ∧ W'.cell? ⟨w.heap.size, 4, none⟩ = some (.int .u64 (dg (ab (x)) 3))) ∧ W'.cell? ⟨w.heap.size + 1, 0, none⟩ = some (.bool (ng (y))) ∧ W'.cell? ⟨w.heap.size + 1, 1, none⟩ = some (.int .u64 (dg (ab (y)) 0)) ∧ W'.cell? ⟨w.heap.size + 1, 2, none⟩ = some (.int .u64 (dg (ab (y)) 1)) ∧ W'.cell? ⟨w.heap.size + 1, 3, none⟩ = some (.int .u64 (dg (ab (y)) 2)) ∧ W'.cell? ⟨w.heap.size + 1, 4, none⟩ = some (.int .u64 (dg (ab (y)) 3))) ((exact HS.out _ (by focus (repeat (first | (with_reducible exact Below.refl _ _) | (with_reducible assumption) | ((with_reducible refine Below.setCell ?_ ?_ _); rotate_left; (focus (first | omega | (simp; done) | (simp; omega)))) | ((with_reducible refine Below.alloc ?_ ?_ _); rotate_left; (focus (first | omega | (simp; done) | (simp; omega)))) | (with_reducible refine Below.drew ?_) | (refine below_on ?_ (by assumption)))))))
        ((first
          | (go_at_call 18; have hq := hVa; clear hq; refine (from_z y HY.out _).mono ?_; rintro e wb ⟨vb, rfl, hVb, hb⟩; have hVa2 := BigAt.below hVa (below_on (by focus (repeat (first | (with_reducible exact Below.refl _ _) | (with_reducible assumption) | ((with_reducible refine Below.setCell ?_ ?_ _); rotate_left; (focus (first | omega | (simp; done) | (simp; omega)))) | ((with_reducible refine Below.alloc ?_ ?_ _); rotate_left; (focus (first | omega | (simp; done) | (simp; omega)))) | (with_reducible refine Below.drew ?_) | (refine below_on ?_ (by assumption))))) hb); have hD : Below w22.heap.size w22 wb := below_on (by focus (repeat (first | (with_reducible exact Below.refl _ _) | (with_reducible assumption) | ((with_reducible refine Below.setCell ?_ ?_ _); rotate_left; (focus (first | omega | (simp; done) | (simp; omega)))) | ((with_reducible refine Below.alloc ?_ ?_ _); rotate_left; (focus (first | omega | (simp; done) | (simp; omega)))) | (with_reducible refine Below.drew ?_) | (refine below_on ?_ (by assumption))))) hb; have hDz := hD.size; (first | (have zN := heap_below hb zN; have qN := cell_at zN; have fN := frozen_at zN; have lN := lt_of_block zN) | (have zN := heap_below hb (heap_new _ (.cells #[.bool false, .int .u64 0, .int .u64 0, .int .u64 0, .int .u64 0] 25)); have qN := cell_at zN; have fN := frozen_at zN; have lN := lt_of_block zN) | skip); clear hb)
          | (go_at_call 18; refine (from_z x HX.out _).mono ?_; rintro e wa ⟨va, rfl, hVa, hb⟩; have hD : Below w22.heap.size w22 wa := below_on (by focus (repeat (first | (with_reducible exact Below.refl _ _) | (with_reducible assumption) | ((with_reducible refine Below.setCell ?_ ?_ _); rotate_left; (focus (first | omega | (simp; done) | (simp; omega)))) | ((with_reducible refine Below.alloc ?_ ?_ _); rotate_left; (focus (first | omega | (simp; done) | (simp; omega)))) | (with_reducible refine Below.drew ?_) | (refine below_on ?_ (by assumption))))) hb; have hDz := hD.size; (first | (have zN := heap_below hb zN; have qN := cell_at zN; have fN := frozen_at zN; have lN := lt_of_block zN) | (have zN := heap_below hb (heap_new _ (.cells #[.bool false, .int .u64 0, .int .u64 0, .int .u64 0, .int .u64 0] 25)); have qN := cell_at zN; have fN := frozen_at zN; have lN := lt_of_block zN) | skip); clear hb)
          | (go_at_call 39; refine (rsub_any x y _ _ (dd_small HX.out) (dd_small HY.out) _ (hVa2.below (by focus (repeat (first | (with_reducible exact Below.refl _ _) | (with_reducible assumption) | ((with_reducible refine Below.setCell ?_ ?_ _); rotate_left; (focus (first | omega | (simp; done) | (simp; omega)))) | ((with_reducible refine Below.alloc ?_ ?_ _); rotate_left; (focus (first | omega | (simp; done) | (simp; omega)))) | (with_reducible refine Below.drew ?_) | (refine below_on ?_ (by assumption)))))) (hVb.below (by focus (repeat (first | (with_reducible exact Below.refl _ _) | (with_reducible assumption) | ((with_reducible refine Below.setCell ?_ ?_ _); rotate_left; (focus (first | omega | (simp; done) | (simp; omega)))) | ((with_reducible refine Below.alloc ?_ ?_ _); rotate_left; (focus (first | omega | (simp; done) | (simp; omega)))) | (with_reducible refine Below.drew ?_) | (refine below_on ?_ (by assumption))))))).mono ?_; rintro e wc ⟨vc, rfl, hVc, hb⟩; have hD : Below w22.heap.size w22 wc := below_on (by focus (repeat (first | (with_reducible exact Below.refl _ _) | (with_reducible assumption) | ((with_reducible refine Below.setCell ?_ ?_ _); rotate_left; (focus (first | omega | (simp; done) | (simp; omega)))) | ((with_reducible refine Below.alloc ?_ ?_ _); rotate_left; (focus (first | omega | (simp; done) | (simp; omega)))) | (with_reducible refine Below.drew ?_) | (refine below_on ?_ (by assumption))))) hb; have hDz := hD.size; (first | (have zN := heap_below hb zN; have qN := cell_at zN; have fN := frozen_at zN; have lN := lt_of_block zN) | (have zN := heap_below hb (heap_new _ (.cells #[.bool false, .int .u64 0, .int .u64 0, .int .u64 0, .int .u64 0] 25)); have qN := cell_at zN; have fN := frozen_at zN; have lN := lt_of_block zN) | skip); clear hb)
          | (go_at_call 16; refine (rout_any (x - y) _ _ (hVc.below (by focus (repeat (first | (with_reducible exact Below.refl _ _) | (with_reducible assumption) | ((with_reducible refine Below.setCell ?_ ?_ _); rotate_left; (focus (first | omega | (simp; done) | (simp; omega)))) | ((with_reducible refine Below.alloc ?_ ?_ _); rotate_left; (focus (first | omega | (simp; done) | (simp; omega)))) | (with_reducible refine Below.drew ?_) | (refine below_on ?_ (by assumption))))))).mono ?_; rintro e wd ⟨rfl, hb⟩; have hD : Below w22.heap.size w22 wd := below_on (by focus (repeat (first | (with_reducible exact Below.refl _ _) | (with_reducible assumption) | ((with_reducible refine Below.setCell ?_ ?_ _); rotate_left; (focus (first | omega | (simp; done) | (simp; omega)))) | ((with_reducible refine Below.alloc ?_ ?_ _); rotate_left; (focus (first | omega | (simp; done) | (simp; omega)))) | (with_reducible refine Below.drew ?_) | (refine below_on ?_ (by assumption))))) hb; have hDz := hD.size; (first | (have zN := heap_below hb zN; have qN := cell_at zN; have fN := frozen_at zN; have lN := lt_of_block zN) | (have zN := heap_below hb (heap_new _ (.cells #[.bool false, .int .u64 0, .int .u64 0, .int .u64 0, .int .u64 0] 25)); have qN := cell_at zN; have fN := frozen_at zN; have lN := lt_of_block zN) | skip); clear hb)))
      all_goals first
        | (obtain ⟨l1, l2, l3⟩ := laid_five _ wd (.bool (ng (outV (x - y)))) (.int .u64 (dg (ab (outV (x - y))) 0)) (.int .u64 (dg (ab (outV (x - y))) 1)) (.int .u64 (dg (ab (outV (x - y))) 2)) (.int .u64 (dg (ab (outV (x - y))) 3)); have zz := l1 zN rfl; have hF := hD.trans (l3 _ (by omega)); clear l1 l2 l3; have h_d := (hF.block _ (lt_of_block HDD.out)).trans HDD.out; have c_d := cell_at h_d; have c_m := cell_at zz; have hBF := Hd.mk (below_on HB.out hF); clear hF h_d zz; go_wp2_with ((go_at_call 14; refine (num_s _ _).mono ?_; rintro e w' ⟨rfl, rfl⟩)); refine (works_any _).mono ?_; rintro e wz ⟨rfl, hb⟩; have hF := below_on hBF.out hb; go_wp2; go_ret; exact ⟨rfl, hF⟩)
        | (have zz := heap_new wd (.cells #[.bool (ng (outV (x - y))), .int .u64 (dg (ab (outV (x - y))) 0), .int .u64 (dg (ab (outV (x - y))) 1), .int .u64 (dg (ab (outV (x - y))) 2), .int .u64 (dg (ab (outV (x - y))) 3)] 25); have hF := Below.alloc hD (by omega) (.cells #[.bool (ng (outV (x - y))), .int .u64 (dg (ab (outV (x - y))) 0), .int .u64 (dg (ab (outV (x - y))) 1), .int .u64 (dg (ab (outV (x - y))) 2), .int .u64 (dg (ab (outV (x - y))) 3)] 25); have h_d := (hF.block _ (lt_of_block HDD.out)).trans HDD.out; have c_d := cell_at h_d; have c_m := cell_at zz; have hBF := Hd.mk (below_on HB.out hF); clear hF h_d zz; go_wp2_with ((go_at_call 14; refine (num_s _ _).mono ?_; rintro e w' ⟨rfl, rfl⟩)); refine (works_any _).mono ?_; rintro e wz ⟨rfl, hb⟩; have hF := below_on hBF.out hb; go_wp2; go_ret; exact ⟨rfl, hF⟩)
end Go.Proofs.Yteibcklcegkbcaa
