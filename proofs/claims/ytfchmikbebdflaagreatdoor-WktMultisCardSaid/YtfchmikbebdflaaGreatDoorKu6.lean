/-
  joined, of points, of rings and of parts. Conditions stand in each theorem.
-/
import Derived.Deep.MidRow
import Derived.Great.BuildSlice
import Derived.Test.YtfchmikbebdflaaGreatDoorKt2
import Derived.Test.YtfchmikbebdflaaGreatDoorKu2
namespace Go.Proofs.YtfchmikbebdflaaGreatDoor
open Go.RowKit Go.BigFrame Go.Shelf
attribute [-go_sem] Builtin.append_

theorem pqC_len (x : Pq) : (pqC x).length = 20 := rfl
theorem pqC_one (x : Pq) : ∀ u ∈ pqC x, u.oneCell' = true := by
  intro u hu
  simp only [pqC, List.mem_cons, List.not_mem_nil, or_false] at hu
  rcases hu with rfl | rfl | rfl | rfl | rfl | rfl | rfl | rfl | rfl | rfl | rfl | rfl | rfl | rfl | rfl | rfl | rfl | rfl | rfl | rfl <;> rfl
def pqsC (l : List Pq) : List Value := l.flatMap pqC
theorem pqsC_append (a b : List Pq) : pqsC (a ++ b) = pqsC a ++ pqsC b := by unfold pqsC; rw [List.flatMap_append]
theorem pqsC_len (l : List Pq) : (pqsC l).length = l.length * 20 := by
  unfold pqsC
  induction l with
  | nil => rfl
  | cons p l ih =>
    rw [List.flatMap_cons, List.length_append, ih, pqC_len, List.length_cons]
    omega
theorem pqsC_one (l : List Pq) : ∀ u ∈ pqsC l, u.oneCell' = true := by
  unfold pqsC
  intro u hu
  obtain ⟨p, _, hp⟩ := List.mem_flatMap.1 hu
  exact pqC_one p u hp
theorem pqsC_at : ∀ (l : List Pq) (j : Nat) (x : Pq), l[j]? = some x → ∀ i, i < 20 → (pqsC l)[j * 20 + i]? = (pqC x)[i]?
  | [], j, x, h, _, _ => by simp at h
  | p :: l, 0, x, h, i, hi => by
    obtain rfl : p = x := by simpa using h
    have e : pqsC (p :: l) = pqC p ++ pqsC l := rfl
    rw [e, Nat.zero_mul, Nat.zero_add, List.getElem?_append_left (by rw [pqC_len]; exact hi)]
  | p :: l, j + 1, x, h, i, hi => by
    have h1 := pqsC_at l j x (by simpa using h) i hi
    have e : pqsC (p :: l) = pqC p ++ pqsC l := rfl
    rw [e, List.getElem?_append_right (by rw [pqC_len]; omega), pqC_len, ← h1]
    congr 1
    omega
/-- A row of points that is read. -/
def PqsIn (W : World) (A : Option Addr) (l : List Pq) : Prop := 0 < l.length → ∃ b off, A = some ⟨b, off, none⟩ ∧ ∀ j x, l[j]? = some x → W.rangeAt b (off + j * 20) (pqC x)
theorem range_below {W W' : World} {b o : Nat} {cs : List Value} (h : W.rangeAt b o cs) (hb : Below W.heap.size W W') : W'.rangeAt b o cs := fun j v hj =>
  (hb.cell (World.block_lt_of_cell? W _ (h j v hj))).trans (h j v hj)
theorem PqsIn.below {W W' : World} {A : Option Addr} {l : List Pq} (h : PqsIn W A l) (hb : Below W.heap.size W W') : PqsIn W' A l := fun h0 => by
  obtain ⟨b, off, e, hc⟩ := h h0
  exact ⟨b, off, e, fun j x hj => range_below (hc j x hj) hb⟩
/-- A ring of points. -/
def RingP (W : World) (v : Value) (l : List Pq) : Prop := ∃ A c, v = .slice A l.length c ∧ l.length ≤ c ∧ c ≤ maxLen ∧ PqsIn W A l
theorem RingP.below {W W' : World} {v : Value} {l : List Pq} (h : RingP W v l) (hb : Below W.heap.size W W') : RingP W' v l := by
  obtain ⟨A, c, e, h1, h2, h3⟩ := h
  exact ⟨A, c, e, h1, h2, h3.below hb⟩
theorem pqs_cells {W : World} {b off : Nat} {l : List Pq} (h : ∀ (j : Nat) (x : Pq), l[j]? = some x → W.rangeAt b (off + j * 20) (pqC x)) :
    ∀ (j : Nat) (u : Value), (pqsC l)[j]? = some u → W.cell? ((⟨b, off, none⟩ : Addr).add j) = some u := by
  intro j u hj
  rw [Addr.add_mid]
  have hlen := pqsC_len l
  have hjl := (List.getElem?_eq_some_iff.1 hj).1
  obtain ⟨x, hx⟩ : ∃ x, l[j / 20]? = some x := ⟨_, List.getElem?_eq_getElem (by omega)⟩
  have e1 := pqsC_at l (j / 20) x hx (j % 20) (Nat.mod_lt _ (by decide))
  have ej : j / 20 * 20 + j % 20 = j := by omega
  rw [ej, hj] at e1
  have h1 := h (j / 20) x hx (j % 20) u e1.symm
  rw [show off + j = off + j / 20 * 20 + j % 20 by omega]
  exact h1
theorem own_pqs {W : World} {base : Nat} {v : Value} {l : List Pq} (h : W.ownsRow base 93 20 v l.length (pqsC l)) : ∃ A c, v = .slice A l.length c ∧ PqsIn W A l := by
  rcases h.2 with ⟨rfl, h0⟩ | ⟨g, cap, cur, rfl, _, hg, hc, hm, hs, ht⟩
  · exact ⟨none, 0, by rw [h0], fun h => by omega⟩
  · refine ⟨_, cap, rfl, fun _ => ⟨g, 0, rfl, fun j x hj i u hu => ?_⟩⟩
    have hi : i < 20 := by have := (List.getElem?_eq_some_iff.1 hu).1; rw [pqC_len] at this; exact this
    have hjl : j < l.length := (List.getElem?_eq_some_iff.1 hj).1
    have h1 := pqsC_at l j x hj i hi
    rw [hu, ← ht, List.getElem?_take, if_pos (by omega)] at h1
    rw [Nat.zero_add, cell_at hg]
    simpa using h1
theorem wpList_load_row {ops : Array Oper} {rest : List Oper} {o : Oper} {a : Act} {w : World} {Q : Exit → Act → World → Prop} (hgd : o.guard = none) (x : Operand) (ho : o.op = .load 93 x)
    (b off : Nat) (hx : a.eval x = .pointer (some ⟨b, off, none⟩)) (cs : List Value) (hc : w.rangeAt b off cs) (hs : cs.length = 20)
    (h : wpList Tryz.prog ops Q rest (a.put o.dst (.agg cs.toArray)) w) : wpList Tryz.prog ops Q (o :: rest) a w :=
  wpList_load_mid hgd _ x ho b off hx cs _ hc Tryz.underlying93 rfl (by rw [hs]; kernel_rfl) h
/-- What is given up with where a point may not be. -/
def GiveUp (n : Int) : Ending := .panicked [{ v := .iface 31 (.int .i64 n), recovered := false }]
set_option maxRecDepth 20000 in
set_option maxHeartbeats 1000000 in
theorem mat_ok (x : Pq) (hl : ltX x) (ho : okX x) (w : World) :
    Calls Tryz.prog 43 #[.agg (pqC x).toArray] w fun e w' => e = .returned (.string (bs (ptL x))) ∧ Below w.heap.size w w' := by
  have HT := Hd.mk (fun w => ptext_ok x hl ho w)
  have hP : (pqC x).toArray.size = 20 := rfl
  generalize (pqC x).toArray = P at *
  clear hl ho
  go_enter Tryz.func43, Tryz.ntmps43
  go_upto_region 1 with (fail)
  refine abs_wp (fun W => W.heap[w.heap.size]? = some (.cells P 93 (0, 0)) ∧ Below w.heap.size w W) ⟨heap_new w _, by focus (repeat (first | (with_reducible exact Below.refl _ _) | (with_reducible assumption) | ((with_reducible refine Below.setCell ?_ ?_ _); rotate_left; (focus (first | omega | (simp; done) | (simp; omega)))) | ((with_reducible refine Below.alloc ?_ ?_ _); rotate_left; (focus (first | omega | (simp; done) | (simp; omega)))) | (with_reducible refine Below.drew ?_) | (refine below_on ?_ (by assumption))))⟩ fun W ⟨z0, hB⟩ => ?_
  go_wp2_with (refine wpList_load_point (.tmp 1) rfl rfl _ rfl z0 hP ?_)
  refine (HT.out _).mono ?_
  rintro e wa ⟨rfl, hb⟩
  have hB1 := below_on hB hb
  clear hb HT z0 hB
  go_wp2_with (go_at_call 28; refine (wkt_must_ok _ _).mono ?_; rintro e w4 ⟨rfl, rfl⟩)
  go_ret
  exact ⟨rfl, hB1⟩
set_option maxRecDepth 20000 in
set_option maxHeartbeats 1000000 in
theorem mat_no (x : Pq) (hl : ltX x) (ho : ¬ okX x) (w : World) :
    Calls Tryz.prog 43 #[.agg (pqC x).toArray] w fun e w' => e = GiveUp 2 ∧ Below w.heap.size w w' := by
  have HT := Hd.mk (fun w => ptext_no x hl ho w)
  have hP : (pqC x).toArray.size = 20 := rfl
  generalize (pqC x).toArray = P at *
  clear hl ho
  unfold GiveUp
  go_enter Tryz.func43, Tryz.ntmps43
  go_upto_region 1 with (fail)
  refine abs_wp (fun W => W.heap[w.heap.size]? = some (.cells P 93 (0, 0)) ∧ Below w.heap.size w W) ⟨heap_new w _, by focus (repeat (first | (with_reducible exact Below.refl _ _) | (with_reducible assumption) | ((with_reducible refine Below.setCell ?_ ?_ _); rotate_left; (focus (first | omega | (simp; done) | (simp; omega)))) | ((with_reducible refine Below.alloc ?_ ?_ _); rotate_left; (focus (first | omega | (simp; done) | (simp; omega)))) | (with_reducible refine Below.drew ?_) | (refine below_on ?_ (by assumption))))⟩ fun W ⟨z0, hB⟩ => ?_
  go_wp2_with (refine wpList_load_point (.tmp 1) rfl rfl _ rfl z0 hP ?_)
  refine (HT.out _).mono ?_
  rintro e wa ⟨rfl, hb⟩
  have hB1 := below_on hB hb
  clear hb HT z0 hB
  go_wp2_with (go_at_call 28; refine (wkt_must_no _ _).mono ?_; rintro e w4 ⟨rfl, rfl⟩)
  exact ⟨rfl, rfl, hB1⟩
end Go.Proofs.YtfchmikbebdflaaGreatDoor

namespace Go.Proofs.YtfchmikbebdflaaGreatDoor
open Go.RowKit Go.BigFrame Go.Shelf
attribute [-go_sem] Builtin.append_

theorem infoPntW : (Tryz.prog.info? 93).map (fun i => (i.zero, i.size, i.bytes)) = some (some (.agg #[.bool false, .int .u64 0, .int .u64 0, .int .u64 0, .int .u64 0, .bool false, .int .u64 0, .int .u64 0, .int .u64 0, .int .u64 0, .bool false, .int .u64 0, .int .u64 0, .int .u64 0, .int .u64 0, .bool false, .int .u64 0, .int .u64 0, .int .u64 0, .int .u64 0]), 20, 160) := by kernel_rfl
theorem build_point (P : Array Value) (hP : P.size = 20) (w : World) : (Instr.buildSlice 47 1 #[(0, .agg P)]).run Tryz.prog w = .ok (.slice (some ⟨w.heap.size, 0, none⟩) 1 1) (w.alloc (.cells P 93)) := by
  obtain ⟨i0, hi, hz0, hz1, hz2⟩ := info_parts infoPntW
  have hu : Tryz.prog.underlying 47 = some (.slice 93) := by kernel_rfl
  refine run_buildSlice w _ _ 1 _ P i0 _ hu hi hz0 (by rw [hz1]; decide) (by rw [hz1]; decide) ?_
  rw [hz1]
  generalize (Value.agg #[.bool false, .int .u64 0, .int .u64 0, .int .u64 0, .int .u64 0, .bool false, .int .u64 0, .int .u64 0, .int .u64 0, .int .u64 0, .bool false, .int .u64 0, .int .u64 0, .int .u64 0, .int .u64 0, .bool false, .int .u64 0, .int .u64 0, .int .u64 0, .int .u64 0]) = z
  have h := Great.fill_whole (s := 20) (by decide) [.agg P] ((Array.range (1 * 20)).map (z.cells[· % z.cells.size]!)) (fun v hv => by rw [List.mem_singleton] at hv; subst hv; exact hP) (by simp)
  have e : ([Value.agg P].flatMap fun v => v.cells.toList).toArray = P := by simp [Value.cells]
  rw [e] at h
  exact h
theorem load_twenty {w : World} {b o : Nat} {cs : List Value} (hc : w.rangeAt b o cs) (hs : cs.length = 20) : (loadCells ⟨b, o, none⟩ 20).run Tryz.prog w = .ok cs.toArray w := by
  rw [← hs]
  exact run_loadCells_list w ⟨b, o, none⟩ cs (fun j v hv => by rw [Addr.add_mid]; exact hc j v hv)
attribute [-go_sem] loadCells Instr.buildSlice
set_option maxRecDepth 100000 in
set_option maxHeartbeats 4000000 in
theorem closed_pqs (A : Option Addr) (c : Nat) (l : List Pq) (hpos : 0 < l.length) (hl : l.length ≤ 10000) (hc : l.length ≤ c) (w : World) (hN : PqsIn w A l) :
    Calls Tryz.prog 47 #[.slice A l.length c] w fun e w' => ∃ A' c', e = .returned (.slice A' (l ++ l.take 1).length c') ∧ PqsIn w' A' (l ++ l.take 1) ∧ Below w.heap.size w w' := by
  obtain ⟨b, off, rfl, hcc⟩ := hN hpos
  obtain ⟨x, hx⟩ : ∃ x, l[0]? = some x := ⟨_, List.getElem?_eq_getElem hpos⟩
  have h0 := hcc 0 _ hx
  rw [Nat.zero_mul, Nat.add_zero] at h0
  have hbl := World.block_lt_of_cell? w _ (h0 0 _ rfl)
  have hld := load_twenty (range_below h0 (Below.drew (Below.refl w.heap.size w))) rfl
  have hbs := build_point (pqC x).toArray rfl
  have htk : l.take 1 = [x] := by
    cases l with
    | nil => simp at hpos
    | cons p l => simpa using hx
  have hcells := pqs_cells hcc
  have hone : ∀ (j : Nat) (u : Value), (pqC x)[j]? = some u → ((w.alloc (.cells (pqC x).toArray 93)).drew).cell? ((⟨w.heap.size, 0, none⟩ : Addr).add j) = some u := fun j u hj => by
    rw [Addr.add_mid, Nat.zero_add]
    have z : ((w.alloc (.cells (pqC x).toArray 93)).drew).heap[w.heap.size]? = some (.cells (pqC x).toArray 93 (0, 0)) := heap_new w _
    rw [cell_at z]
    simpa using hj
  obtain ⟨i0, hi, hz0, hz1, hz2⟩ := info_parts infoPntW
  have hu : Tryz.prog.underlying 47 = some (.slice 93) := by kernel_rfl
  have hb1 : Below w.heap.size w ((w.alloc (.cells (pqC x).toArray 93)).drew) := ((Below.refl _ w).alloc (Nat.le_refl _) _).drew
  obtain ⟨v', w1, hr, hown, hgrow⟩ := run_append_arg_grows (P := Tryz.prog) (w := (w.alloc (.cells (pqC x).toArray 93)).drew) 47 47 93 i0 _ 20 160 hu hi hz0 hz1 hz2 rfl (by decide)
    ⟨b, off, none⟩ l.length l.length (pqsC l) (pqsC_len l) (fun j u hj => by
      have h := hcells j u hj
      exact (hb1.cell (World.block_lt_of_cell? w _ h)).trans h) ⟨w.heap.size, 0, none⟩ 1 1 (pqC x) rfl hone (by omega) (by unfold maxLen; omega) (by omega)
  have hrow : ∃ A' c', v' = .slice A' (l ++ l.take 1).length c' ∧ PqsIn w1 A' (l ++ l.take 1) := by
    refine own_pqs (base := w.heap.size + 1) ?_
    rw [htk, pqsC_append, List.length_append]
    have e : ((w.alloc (.cells (pqC x).toArray 93)).drew).heap.size = w.heap.size + 1 := by simp
    rw [e] at hown
    have e2 : pqsC [x] = pqC x := by unfold pqsC; simp
    rw [e2]
    exact hown
  have hbw : Below w.heap.size w w1 := hb1.trans (below_grown hgrow (fun k hk => by cases hk) (by simp))
  have HF := Hd.mk (And.intro hrow hbw)
  have hi1 : (l.length : Int) ≤ (c : Int) := by omega
  have hle : l.length ≤ l.length := Nat.le_refl _
  have hPs : (pqC x).toArray.size = 20 := rfl
  clear hrow hbw hown hgrow hcells hcc hb1 hi hz0 hz1 hz2 hu h0 hx htk hN hone
  generalize (pqC x).toArray = P at *
  go_enter Tryz.func47, Tryz.ntmps47
  go_wp2
  refine region_abs_w (fun a0 a' w' => ∃ vv : Nat → Value, (w' = w1) ∧ (a' = Act.put (Act.put (Act.put (Act.put (Act.put (Act.put (Act.put (Act.put (Act.put (Act.put (Act.put (Act.put a0 (some 3) (vv 3)) (some 4) (vv 4)) (some 5) (vv 5)) (some 6) (vv 6)) (some 7) (vv 7)) (some 8) (vv 8)) (some 9) (vv 9)) (some 10) (vv 10)) (some 11) (vv 11)) (some 12) (vv 12)) (some 13) (vv 13)) (some 2) v')) (fun KR hKR => ?_) ?_
  · go_region
    all_goals exact ⟨rfl, hKR _ _ (ex_putw4 ⟨rfl, by kernel_rfl⟩)⟩
  rintro a' w9 ⟨vv, rfl, rfl⟩
  simp only [Act.put, List.setIfInBounds_toArray, List.set_cons_succ, List.set_cons_zero]
  go_wp2
  go_ret
  obtain ⟨⟨A', c', e, h3⟩, h4⟩ := HF.out
  exact ⟨A', c', by rw [← e]; rfl, h3, h4⟩
end Go.Proofs.YtfchmikbebdflaaGreatDoor

namespace Go.Proofs.YtfchmikbebdflaaGreatDoor
open Go.RowKit Go.BigFrame Go.Shelf
attribute [-go_sem] Builtin.append_

theorem all_take {α : Type} {ok : α → Prop} {l : List α} {k : Nat} {x : α} (h : ∀ y ∈ l.take k, ok y) (hx : l[k]? = some x) (hk : ok x) : ∀ y ∈ l.take (k + 1), ok y := by
  intro y hy
  rw [List.take_add_one, hx] at hy
  rcases List.mem_append.1 hy with h1 | h1
  · exact h y h1
  · simp at h1; subst h1; exact hk
/-- What joined answers. -/
def JoinPost (good : Prop) (t : Bs) (w : World) (e : Ending) (w' : World) : Prop := (good → e = .returned (.string (bs t))) ∧ (¬ good → e = GiveUp 2) ∧ Below w.heap.size w w'
set_option maxRecDepth 100000 in
set_option maxHeartbeats 4000000 in
theorem joined_ringsP {α : Type} (A : Option Addr) (c : Nat) (vs : List Value) (Ls : List α) (T : α → Bs) (ok : α → Prop) (b : Nat) (w : World) (hne : Ls ≠ []) (hl : Ls.length ≤ 9000) (hlen : ∀ x ∈ Ls, (T x).length ≤ 1000000) (hvl : vs.length = Ls.length) (hcl : CellsIn w A vs)
    (hF : ∀ (j : Nat) v x, vs[j]? = some v → Ls[j]? = some x → ∀ W, Below w.heap.size w W → Calls Tryz.prog 45 #[v, .pointer (some ⟨b, 0, none⟩)] W fun e w' => (ok x → e = .returned (.string (bs (T x)))) ∧ (¬ ok x → e = GiveUp 2) ∧ Below W.heap.size W w') :
    Calls Tryz.prog 50 #[.slice A Ls.length c, .func (.func 45) #[] #[.pointer (some ⟨b, 0, none⟩)]] w (JoinPost (∀ x ∈ Ls, ok x) (40 :: (Lib.join (Ls.map T) [44] ++ [41])) w) := by
  unfold JoinPost
  unfold GiveUp at *
  have HJ : Hd (∀ v W, W.ownsRow w.heap.size 9 1 v (Ls).length ((Ls).map fun p => Value.string (bs (T p))) → Calls Tryz.prog 54 #[v, .string ⟨#[44]⟩] W fun e w' => e = .returned (.string (bs (Lib.join ((Ls).map T) [44]))) ∧ Below W.heap.size W w') := ⟨fun v W h => by
    refine wjoin_own (base := w.heap.size) (ps := (Ls).map T) (by simpa using hne) (by rw [List.length_map]; omega) (fun p hp => ?_) (by rw [List.length_map, List.map_map]; exact h)
    obtain ⟨q, hq, rfl⟩ := List.mem_map.1 hp
    have := hlen q hq
    omega⟩
  have HLN : Hd ((Lib.join ((Ls).map T) [44]).length ≤ 10000000000) := ⟨by
    have h1 := join_le (B := 1000000) (ps := (Ls).map T) (fun p hp => by
      obtain ⟨q, hq, rfl⟩ := List.mem_map.1 hp
      exact hlen q hq)
    rw [List.length_map] at h1
    have h2 : (Ls).length * (1000000 + 1) ≤ 9000 * (1000000 + 1) := Nat.mul_le_mul_right _ hl
    omega⟩
  generalize hT : Lib.join ((Ls).map T) [44] = TT at HJ HLN ⊢
  have r1 := fun w => run_bs_add (P := Tryz.prog) [40] TT (40 :: TT) (by have := HLN.out; rw [List.length_singleton]; omega) rfl w
  have r2 := fun w => run_bs_add (P := Tryz.prog) (40 :: TT) [41] (40 :: (TT ++ [41])) (by have := HLN.out; rw [List.length_cons, List.length_singleton]; omega) rfl w
  have HF := Hd.mk hF
  have HC := Hd.mk hcl
  clear hF hcl hT hne hlen
  go_enter Tryz.func50, Tryz.ntmps50
  go_wp2
  go_loopw [5, 10] (fun v iv wr => ∃ k : Nat, iv = .int .i64 k ∧ k ≤ Ls.length ∧ Hd (∀ x ∈ Ls.take k, ok x) ∧ Hd (wr.ownsRow w.heap.size 9 1 v k ((Ls.map fun p => Value.string (bs (T p))).take k)) ∧ Below w.heap.size w wr) (fun _ iv _ => Ls.length - (intOf iv).toNat)
  case atStart => exact ⟨0, rfl, Nat.zero_le _, ⟨by simp⟩, ⟨⟨rfl, .inl ⟨rfl, rfl⟩⟩⟩, Below.refl _ _⟩
  case round =>
    obtain ⟨k, rfl, hk, HK, HO, hB⟩ := hrel
    by_cases hlt : k < Ls.length
    · have hd1 : decide ((k : Int) < (Ls.length : Int)) = true := by simp; omega
      have hd2 : decide (k < Ls.length) = true := by simp; omega
      obtain ⟨bb, off, rfl, hcc⟩ := HC.out.below hB (by omega)
      obtain ⟨p, hp⟩ : ∃ p, Ls[k]? = some p := ⟨_, List.getElem?_eq_getElem hlt⟩
      obtain ⟨v, hv⟩ : ∃ v, vs[k]? = some v := ⟨_, List.getElem?_eq_getElem (by omega)⟩
      have q1 := hcc k v hv
      have HCL := Hd.mk (HF.out k v p hv hp)
      have HS := Hd.mk (strs_snoc T hp)
      have HB := Hd.mk hB
      by_cases hok : ok p
      · have HOK := Hd.mk (all_take HK.out hp hok)
        have HCR : Hd (∀ W, Below w.heap.size w W → Calls Tryz.prog 45 #[v, .pointer (some ⟨b, 0, none⟩)] W fun e w' => e = .returned (.string (bs (T p))) ∧ Below W.heap.size W w') := ⟨fun W h => (HCL.out W h).mono fun e w' h2 => ⟨h2.1 hok, h2.2.2⟩⟩
        clear hcc hp hv hok HCL
        go_wp2_with fail
        refine (HCR.out _ HB.out).mono ?_
        rintro e w5 ⟨rfl, hb⟩
        have HO5 := Hd.mk (own_below HO.out hb)
        have hB5 := below_on hB hb
        have hsz := hB5.size
        clear hb q1
        obtain ⟨i0, hi, hz0, hz1, hz2⟩ := info_parts infoStrW
        have hu : Tryz.prog.underlying 104 = some (.slice 9) := by kernel_rfl
        go_wp2_with (at_builtin; refine wpList_append_own_at _ rfl (.tmp 14) (.tmp 18) 104 rfl w.heap.size 9 i0 (.string ByteArray.empty) 1 16 hu hi hz0 hz1 hz2 rfl (by decide) _ k _ rfl (HO5.out.alloc _) ⟨w5.heap.size, 0, none⟩ 1 1 [.string (bs (T p))] rfl rfl (cell_one_new _ _ _) ?c2 ?b1 ?b2 ?b3 ?go)
        case c2 => intro u hu; simp at hu; subst hu; rfl
        case b1 => unfold maxLen; omega
        case b2 => omega
        case b3 => simp; omega
        case go =>
          intro v' w6 hown' hgrow _ hat
          have hr : ∀ k, u5.ownBlock = some k → w.heap.size ≤ k := fun k hk => own_ge HO5.out hk
          have hb6 : Below w.heap.size w w6 := (hB5.alloc hB5.size _).trans (below_grown hgrow (fun k hk => hr k hk) (by simp; omega))
          have HO6 := Hd.mk hown'
          clear hown' hgrow hat hr hi hz0 hz1 hz2 hu HO HO5
          go_wp2
          go_roundw
          case rel => exact ⟨k + 1, by go_num, by omega, HOK, ⟨by rw [HS.out]; exact HO6.out⟩, hb6⟩
          case measure => simp [intOf]; omega
      · have HNO : Hd (¬ ∀ x ∈ Ls, ok x) := ⟨fun h => hok (h p (List.mem_of_getElem? hp))⟩
        have HCR : Hd (∀ W, Below w.heap.size w W → Calls Tryz.prog 45 #[v, .pointer (some ⟨b, 0, none⟩)] W fun e w' => e = .panicked [{ v := .iface 31 (.int .i64 2), recovered := false }] ∧ Below W.heap.size W w') := ⟨fun W h => (HCL.out W h).mono fun e w' h2 => ⟨h2.2.1 hok, h2.2.2⟩⟩
        clear hcc hp hv hok HCL
        go_wp2_with fail
        refine (HCR.out _ HB.out).mono ?_
        rintro e w5 ⟨rfl, hb⟩
        have hB5 := below_on hB hb
        clear hb q1
        go_wp2
        exact ⟨rfl, fun h => absurd h HNO.out, fun _ => rfl, hB5⟩
    · skip
      obtain rfl : k = (Ls).length := by omega
      have hd1 : decide ((((Ls).length : Nat) : Int) < ((Ls).length : Int)) = false := by simp
      have HO2 : Hd (wr.ownsRow w.heap.size 9 1 u5 (Ls).length ((Ls).map fun p => Value.string (bs (T p)))) := ⟨by have := HO.out; rwa [List.take_of_length_le (by simp)] at this⟩
      have HG : Hd (∀ x ∈ Ls, ok x) := ⟨by have := HK.out; rwa [List.take_length] at this⟩
      clear HO HK
      go_wp2_with fail
      refine (HJ.out _ _ HO2.out).mono ?_
      rintro e w5 ⟨rfl, hb⟩
      have hB5 := below_on hB hb
      clear hb
      go_wp2
      go_ret
      exact ⟨fun _ => rfl, fun h => absurd HG.out h, hB5⟩
set_option maxRecDepth 100000 in
set_option maxHeartbeats 4000000 in
theorem joined_partsP {α : Type} (A : Option Addr) (c : Nat) (vs : List Value) (Ls : List α) (T : α → Bs) (ok : α → Prop) (b : Nat) (w : World) (hne : Ls ≠ []) (hl : Ls.length ≤ 9000) (hlen : ∀ x ∈ Ls, (T x).length ≤ 1000000) (hvl : vs.length = Ls.length) (hcl : CellsIn w A vs)
    (hF : ∀ (j : Nat) v x, vs[j]? = some v → Ls[j]? = some x → ∀ W, Below w.heap.size w W → Calls Tryz.prog 49 #[v, .pointer (some ⟨b, 0, none⟩)] W fun e w' => (ok x → e = .returned (.string (bs (T x)))) ∧ (¬ ok x → e = GiveUp 2) ∧ Below W.heap.size W w') :
    Calls Tryz.prog 48 #[.slice A Ls.length c, .func (.func 49) #[] #[.pointer (some ⟨b, 0, none⟩)]] w (JoinPost (∀ x ∈ Ls, ok x) (40 :: (Lib.join (Ls.map T) [44] ++ [41])) w) := by
  unfold JoinPost
  unfold GiveUp at *
  have HJ : Hd (∀ v W, W.ownsRow w.heap.size 9 1 v (Ls).length ((Ls).map fun p => Value.string (bs (T p))) → Calls Tryz.prog 54 #[v, .string ⟨#[44]⟩] W fun e w' => e = .returned (.string (bs (Lib.join ((Ls).map T) [44]))) ∧ Below W.heap.size W w') := ⟨fun v W h => by
    refine wjoin_own (base := w.heap.size) (ps := (Ls).map T) (by simpa using hne) (by rw [List.length_map]; omega) (fun p hp => ?_) (by rw [List.length_map, List.map_map]; exact h)
    obtain ⟨q, hq, rfl⟩ := List.mem_map.1 hp
    have := hlen q hq
    omega⟩
  have HLN : Hd ((Lib.join ((Ls).map T) [44]).length ≤ 10000000000) := ⟨by
    have h1 := join_le (B := 1000000) (ps := (Ls).map T) (fun p hp => by
      obtain ⟨q, hq, rfl⟩ := List.mem_map.1 hp
      exact hlen q hq)
    rw [List.length_map] at h1
    have h2 : (Ls).length * (1000000 + 1) ≤ 9000 * (1000000 + 1) := Nat.mul_le_mul_right _ hl
    omega⟩
  generalize hT : Lib.join ((Ls).map T) [44] = TT at HJ HLN ⊢
  have r1 := fun w => run_bs_add (P := Tryz.prog) [40] TT (40 :: TT) (by have := HLN.out; rw [List.length_singleton]; omega) rfl w
  have r2 := fun w => run_bs_add (P := Tryz.prog) (40 :: TT) [41] (40 :: (TT ++ [41])) (by have := HLN.out; rw [List.length_cons, List.length_singleton]; omega) rfl w
  have HF := Hd.mk hF
  have HC := Hd.mk hcl
  clear hF hcl hT hne hlen
  go_enter Tryz.func48, Tryz.ntmps48
  go_wp2
  go_loopw [5, 10] (fun v iv wr => ∃ k : Nat, iv = .int .i64 k ∧ k ≤ Ls.length ∧ Hd (∀ x ∈ Ls.take k, ok x) ∧ Hd (wr.ownsRow w.heap.size 9 1 v k ((Ls.map fun p => Value.string (bs (T p))).take k)) ∧ Below w.heap.size w wr) (fun _ iv _ => Ls.length - (intOf iv).toNat)
  case atStart => exact ⟨0, rfl, Nat.zero_le _, ⟨by simp⟩, ⟨⟨rfl, .inl ⟨rfl, rfl⟩⟩⟩, Below.refl _ _⟩
  case round =>
    obtain ⟨k, rfl, hk, HK, HO, hB⟩ := hrel
    by_cases hlt : k < Ls.length
    · have hd1 : decide ((k : Int) < (Ls.length : Int)) = true := by simp; omega
      have hd2 : decide (k < Ls.length) = true := by simp; omega
      obtain ⟨bb, off, rfl, hcc⟩ := HC.out.below hB (by omega)
      obtain ⟨p, hp⟩ : ∃ p, Ls[k]? = some p := ⟨_, List.getElem?_eq_getElem hlt⟩
      obtain ⟨v, hv⟩ : ∃ v, vs[k]? = some v := ⟨_, List.getElem?_eq_getElem (by omega)⟩
      have q1 := hcc k v hv
      have HCL := Hd.mk (HF.out k v p hv hp)
      have HS := Hd.mk (strs_snoc T hp)
      have HB := Hd.mk hB
      by_cases hok : ok p
      · have HOK := Hd.mk (all_take HK.out hp hok)
        have HCR : Hd (∀ W, Below w.heap.size w W → Calls Tryz.prog 49 #[v, .pointer (some ⟨b, 0, none⟩)] W fun e w' => e = .returned (.string (bs (T p))) ∧ Below W.heap.size W w') := ⟨fun W h => (HCL.out W h).mono fun e w' h2 => ⟨h2.1 hok, h2.2.2⟩⟩
        clear hcc hp hv hok HCL
        go_wp2_with fail
        refine (HCR.out _ HB.out).mono ?_
        rintro e w5 ⟨rfl, hb⟩
        have HO5 := Hd.mk (own_below HO.out hb)
        have hB5 := below_on hB hb
        have hsz := hB5.size
        clear hb q1
        obtain ⟨i0, hi, hz0, hz1, hz2⟩ := info_parts infoStrW
        have hu : Tryz.prog.underlying 104 = some (.slice 9) := by kernel_rfl
        go_wp2_with (at_builtin; refine wpList_append_own_at _ rfl (.tmp 14) (.tmp 18) 104 rfl w.heap.size 9 i0 (.string ByteArray.empty) 1 16 hu hi hz0 hz1 hz2 rfl (by decide) _ k _ rfl (HO5.out.alloc _) ⟨w5.heap.size, 0, none⟩ 1 1 [.string (bs (T p))] rfl rfl (cell_one_new _ _ _) ?c2 ?b1 ?b2 ?b3 ?go)
        case c2 => intro u hu; simp at hu; subst hu; rfl
        case b1 => unfold maxLen; omega
        case b2 => omega
        case b3 => simp; omega
        case go =>
          intro v' w6 hown' hgrow _ hat
          have hr : ∀ k, u5.ownBlock = some k → w.heap.size ≤ k := fun k hk => own_ge HO5.out hk
          have hb6 : Below w.heap.size w w6 := (hB5.alloc hB5.size _).trans (below_grown hgrow (fun k hk => hr k hk) (by simp; omega))
          have HO6 := Hd.mk hown'
          clear hown' hgrow hat hr hi hz0 hz1 hz2 hu HO HO5
          go_wp2
          go_roundw
          case rel => exact ⟨k + 1, by go_num, by omega, HOK, ⟨by rw [HS.out]; exact HO6.out⟩, hb6⟩
          case measure => simp [intOf]; omega
      · have HNO : Hd (¬ ∀ x ∈ Ls, ok x) := ⟨fun h => hok (h p (List.mem_of_getElem? hp))⟩
        have HCR : Hd (∀ W, Below w.heap.size w W → Calls Tryz.prog 49 #[v, .pointer (some ⟨b, 0, none⟩)] W fun e w' => e = .panicked [{ v := .iface 31 (.int .i64 2), recovered := false }] ∧ Below W.heap.size W w') := ⟨fun W h => (HCL.out W h).mono fun e w' h2 => ⟨h2.2.1 hok, h2.2.2⟩⟩
        clear hcc hp hv hok HCL
        go_wp2_with fail
        refine (HCR.out _ HB.out).mono ?_
        rintro e w5 ⟨rfl, hb⟩
        have hB5 := below_on hB hb
        clear hb q1
        go_wp2
        exact ⟨rfl, fun h => absurd h HNO.out, fun _ => rfl, hB5⟩
    · skip
      obtain rfl : k = (Ls).length := by omega
      have hd1 : decide ((((Ls).length : Nat) : Int) < ((Ls).length : Int)) = false := by simp
      have HO2 : Hd (wr.ownsRow w.heap.size 9 1 u5 (Ls).length ((Ls).map fun p => Value.string (bs (T p)))) := ⟨by have := HO.out; rwa [List.take_of_length_le (by simp)] at this⟩
      have HG : Hd (∀ x ∈ Ls, ok x) := ⟨by have := HK.out; rwa [List.take_length] at this⟩
      clear HO HK
      go_wp2_with fail
      refine (HJ.out _ _ HO2.out).mono ?_
      rintro e w5 ⟨rfl, hb⟩
      have hB5 := below_on hB hb
      clear hb
      go_wp2
      go_ret
      exact ⟨fun _ => rfl, fun h => absurd HG.out h, hB5⟩
set_option maxRecDepth 100000 in
set_option maxHeartbeats 4000000 in
theorem joined_pqs (A : Option Addr) (c : Nat) (l : List Pq) (hne : l ≠ []) (hl : l.length ≤ 9000) (hlt : ∀ x ∈ l, ltX x) (w : World) (hN : PqsIn w A l) :
    Calls Tryz.prog 46 #[.slice A l.length c, .func (.func 43) #[] #[]] w (JoinPost (∀ x ∈ l, okX x) (40 :: (Lib.join (l.map ptL) [44] ++ [41])) w) := by
  have hlen : ∀ x ∈ l, (ptL x).length ≤ 1000000 := fun x hx => Nat.le_trans (ptL_len (hlt x hx)) (by decide)
  have HF1 : Hd (∀ x ∈ l, okX x → ∀ w, Calls Tryz.prog 43 #[.agg (pqC x).toArray] w fun e w' => e = .returned (.string (bs (ptL x))) ∧ Below w.heap.size w w') := ⟨fun x hx ho w => mat_ok x (hlt x hx) ho w⟩
  have HF2 : Hd (∀ x ∈ l, ¬ okX x → ∀ w, Calls Tryz.prog 43 #[.agg (pqC x).toArray] w fun e w' => e = .panicked [{ v := .iface 31 (.int .i64 2), recovered := false }] ∧ Below w.heap.size w w') := ⟨fun x hx ho w => mat_no x (hlt x hx) ho w⟩
  unfold JoinPost GiveUp
  have HJ : Hd (∀ v W, W.ownsRow w.heap.size 9 1 v (l).length ((l).map fun p => Value.string (bs (ptL p))) → Calls Tryz.prog 54 #[v, .string ⟨#[44]⟩] W fun e w' => e = .returned (.string (bs (Lib.join ((l).map ptL) [44]))) ∧ Below W.heap.size W w') := ⟨fun v W h => by
    refine wjoin_own (base := w.heap.size) (ps := (l).map ptL) (by simpa using hne) (by rw [List.length_map]; omega) (fun p hp => ?_) (by rw [List.length_map, List.map_map]; exact h)
    obtain ⟨q, hq, rfl⟩ := List.mem_map.1 hp
    have := hlen q hq
    omega⟩
  have HLN : Hd ((Lib.join ((l).map ptL) [44]).length ≤ 10000000000) := ⟨by
    have h1 := join_le (B := 1000000) (ps := (l).map ptL) (fun p hp => by
      obtain ⟨q, hq, rfl⟩ := List.mem_map.1 hp
      exact hlen q hq)
    rw [List.length_map] at h1
    have h2 : (l).length * (1000000 + 1) ≤ 9000 * (1000000 + 1) := Nat.mul_le_mul_right _ hl
    omega⟩
  generalize hT : Lib.join ((l).map ptL) [44] = TT at HJ HLN ⊢
  have r1 := fun w => run_bs_add (P := Tryz.prog) [40] TT (40 :: TT) (by have := HLN.out; rw [List.length_singleton]; omega) rfl w
  have r2 := fun w => run_bs_add (P := Tryz.prog) (40 :: TT) [41] (40 :: (TT ++ [41])) (by have := HLN.out; rw [List.length_cons, List.length_singleton]; omega) rfl w
  have HN := Hd.mk hN
  clear hN hT hne hlen hlt
  go_enter Tryz.func46, Tryz.ntmps46
  go_wp2
  go_loopw [5, 10] (fun v iv wr => ∃ k : Nat, iv = .int .i64 k ∧ k ≤ l.length ∧ Hd (∀ x ∈ l.take k, okX x) ∧ Hd (wr.ownsRow w.heap.size 9 1 v k ((l.map fun p => Value.string (bs (ptL p))).take k)) ∧ Below w.heap.size w wr) (fun _ iv _ => l.length - (intOf iv).toNat)
  case atStart => exact ⟨0, rfl, Nat.zero_le _, ⟨by simp⟩, ⟨⟨rfl, .inl ⟨rfl, rfl⟩⟩⟩, Below.refl _ _⟩
  case round =>
    obtain ⟨k, rfl, hk, HK, HO, hB⟩ := hrel
    by_cases hlt : k < l.length
    · have hd1 : decide ((k : Int) < (l.length : Int)) = true := by simp; omega
      have hd2 : decide (k < l.length) = true := by simp; omega
      obtain ⟨bb, off, rfl, hcc⟩ := HN.out.below hB (by omega)
      obtain ⟨p, hp⟩ : ∃ p, l[k]? = some p := ⟨_, List.getElem?_eq_getElem hlt⟩
      have q1 := hcc k p hp
      have HS := Hd.mk (strs_snoc ptL hp)
      have HM := List.mem_of_getElem? hp
      have hP1 : (pqC p).toArray.toList.all (·.oneCell') = true := by rw [List.all_eq_true]; exact pqC_one p
      have hP : (pqC p).toArray.size = 20 := rfl
      by_cases hok : okX p
      · have HOK := Hd.mk (all_take HK.out hp hok)
        have HCR := Hd.mk (HF1.out p HM hok)
        clear hcc hp hok HM
        generalize ptL p = tp at HS HCR
        go_wp2_with (first
          | (refine wpList_load_row rfl (.tmp 12) rfl bb (off + k * 20) rfl (pqC p) q1 rfl ?_)
          | (refine wpList_store_block rfl 93 (.tmp 7) (.tmp 13) rfl wr.heap.size (pqC p).toArray rfl rfl (heap_new wr _) rfl (by kernel_rfl) hP1 ?_; rintro W2 hW2)
          | (refine wpList_load_point (.tmp 7) rfl rfl _ rfl hW2.here rfl ?_))
        have hB2 : Below wr.heap.size wr W2 := ((Below.refl _ _).alloc (Nat.le_refl _) _).trans (hW2.below _ (Nat.le_refl _))
        refine (HCR.out _).mono ?_
        rintro e w5 ⟨rfl, hb⟩
        have HO5 := Hd.mk (own_below (own_below HO.out hB2) hb)
        have hB5 := below_on (hB.trans (hB2.mono hB.size)) hb
        have hsz := hB5.size
        clear hb q1 hB2 hW2
        obtain ⟨i0, hi, hz0, hz1, hz2⟩ := info_parts infoStrW
        have hu : Tryz.prog.underlying 104 = some (.slice 9) := by kernel_rfl
        go_wp2_with (at_builtin; refine wpList_append_own_at _ rfl (.tmp 14) (.tmp 18) 104 rfl w.heap.size 9 i0 (.string ByteArray.empty) 1 16 hu hi hz0 hz1 hz2 rfl (by decide) _ k _ rfl (HO5.out.alloc _) ⟨w5.heap.size, 0, none⟩ 1 1 [.string (bs (id tp))] rfl rfl (cell_one_new _ _ _) ?c2 ?b1 ?b2 ?b3 ?go)
        case c2 => intro u hu; simp at hu; subst hu; rfl
        case b1 => unfold maxLen; omega
        case b2 => omega
        case b3 => simp; omega
        case go =>
          intro v' w6 hown' hgrow _ hat
          have hr : ∀ k, u5.ownBlock = some k → w.heap.size ≤ k := fun k hk => own_ge HO5.out hk
          have hb6 : Below w.heap.size w w6 := (hB5.alloc hB5.size _).trans (below_grown hgrow (fun k hk => hr k hk) (by simp; omega))
          have HO6 := Hd.mk hown'
          clear hown' hgrow hat hr hi hz0 hz1 hz2 hu HO HO5
          go_wp2
          go_roundw
          case rel => exact ⟨k + 1, by go_num, by omega, HOK, ⟨by rw [HS.out]; exact HO6.out⟩, hb6⟩
          case measure => simp [intOf]; omega
      · have HNO : Hd (¬ ∀ x ∈ l, okX x) := ⟨fun h => hok (h p HM)⟩
        have HCR := Hd.mk (HF2.out p HM hok)
        clear hcc hp hok HM
        go_wp2_with (first
          | (refine wpList_load_row rfl (.tmp 12) rfl bb (off + k * 20) rfl (pqC p) q1 rfl ?_)
          | (refine wpList_store_block rfl 93 (.tmp 7) (.tmp 13) rfl wr.heap.size (pqC p).toArray rfl rfl (heap_new wr _) rfl (by kernel_rfl) hP1 ?_; rintro W2 hW2)
          | (refine wpList_load_point (.tmp 7) rfl rfl _ rfl hW2.here rfl ?_))
        have hB2 : Below wr.heap.size wr W2 := ((Below.refl _ _).alloc (Nat.le_refl _) _).trans (hW2.below _ (Nat.le_refl _))
        refine (HCR.out _).mono ?_
        rintro e w5 ⟨rfl, hb⟩
        have hB5 := below_on (hB.trans (hB2.mono hB.size)) hb
        clear hb q1 hB2 hW2
        go_wp2
        exact ⟨rfl, fun h => absurd h HNO.out, fun _ => rfl, hB5⟩
    · skip
      obtain rfl : k = (l).length := by omega
      have hd1 : decide ((((l).length : Nat) : Int) < ((l).length : Int)) = false := by simp
      have HO2 : Hd (wr.ownsRow w.heap.size 9 1 u5 (l).length ((l).map fun p => Value.string (bs (ptL p)))) := ⟨by have := HO.out; rwa [List.take_of_length_le (by simp)] at this⟩
      have HG : Hd (∀ x ∈ l, okX x) := ⟨by have := HK.out; rwa [List.take_length] at this⟩
      clear HO HK
      go_wp2_with fail
      refine (HJ.out _ _ HO2.out).mono ?_
      rintro e w5 ⟨rfl, hb⟩
      have hB5 := below_on hB hb
      clear hb
      go_wp2
      go_ret
      exact ⟨fun _ => rfl, fun h => absurd HG.out h, hB5⟩
end Go.Proofs.YtfchmikbebdflaaGreatDoor
