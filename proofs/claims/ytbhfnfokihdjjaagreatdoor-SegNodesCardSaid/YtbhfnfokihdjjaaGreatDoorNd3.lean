/-
  The law SegNodes: the row of the ends that is wanted. Conditions stand in each theorem.
-/
import Derived.Maps.AppendAt
import Derived.Test.YtbhfnfokihdjjaaGreatDoorSg3
import Derived.Test.YtbhfnfokihdjjaaGreatDoorWh1
import Derived.Test.YtbhfnfokihdjjaaGreatDoorLw1
import Derived.Test.YtbhfnfokihdjjaaGreatDoorNd2
import Derived.Test.YtbhfnfokihdjjaaGreatDoorRgi
namespace Go.Proofs.YtbhfnfokihdjjaaGreatDoor
open Go.RowKit Go.BigFrame Go.Shelf
attribute [local go_sem] Oper.semAt_some
attribute [-go_sem] Builtin.append_

theorem infoNode : (Tryz.prog.info? 23).map (fun i => (i.zero, i.size, i.bytes)) = some (some (.agg #[.int .i64 0, .int .i64 0]), 2, 16) := by kernel_rfl
def ndsV (l : List Nd) : List Value := l.flatMap fun p => [.int .i64 p.1, .int .i64 p.2]
theorem ndsV_append (a b : List Nd) : ndsV (a ++ b) = ndsV a ++ ndsV b := by unfold ndsV; rw [List.flatMap_append]
theorem SegsAt.below {W W1 : World} {A : Option Addr} {L : List Sgm} (h : SegsAt W A L) (hb : Below W.heap.size W W1) : SegsAt W1 A L := fun h0 => by
  obtain ⟨b, off, e, hc⟩ := h h0
  refine ⟨b, off, e, fun j s hj i hi => ?_⟩
  have h1 := hc j s hj i hi
  obtain ⟨v, hv⟩ : ∃ v, (sgC s)[i]? = some v := ⟨_, Array.getElem?_eq_getElem (by simpa [sgC] using hi)⟩
  exact (hb.cell (World.block_lt_of_cell? W ⟨b, off + j * 4 + i, none⟩ (h1.trans hv))).trans h1
/-- A row of nodes that is owned, in block b. -/
def NdsAt (W : World) (base b : Nat) (l : List Nd) : Prop := ∃ v, W.heap[b]? = some (.cells #[v] 81 (0, 0)) ∧ W.ownsRow base 23 2 v l.length (ndsV l)
theorem NdsAt.below {W W' : World} {base b : Nat} {l : List Nd} (h : NdsAt W base b l) (hb : Below W.heap.size W W') : NdsAt W' base b l := by
  obtain ⟨v, h1, h2⟩ := h
  exact ⟨v, heap_below hb h1, own_below h2 hb⟩
theorem ndsV_at : ∀ (l : List Nd) (j : Nat) (c : Nd), l[j]? = some c → (ndsV l)[j * 2]? = some (.int .i64 c.1) ∧ (ndsV l)[j * 2 + 1]? = some (.int .i64 c.2)
  | [], j, c, h => by simp at h
  | p :: l, 0, c, h => by
    obtain rfl : p = c := by simpa using h
    exact ⟨rfl, rfl⟩
  | p :: l, j + 1, c, h => by
    have h1 := ndsV_at l j c (by simpa using h)
    have e : ndsV (p :: l) = .int .i64 p.1 :: .int .i64 p.2 :: ndsV l := rfl
    rw [e, show (j + 1) * 2 = j * 2 + 1 + 1 by omega]
    simpa using h1
theorem nds_open {W : World} {base : Nat} {v : Value} {l : List Nd} (h : W.ownsRow base 23 2 v l.length (ndsV l)) :
    ∃ A cap, v = .slice A l.length cap ∧ (0 < l.length → ∃ g cur, A = some ⟨g, 0, none⟩ ∧ W.heap[g]? = some (.cells cur 23 (0, 0)) ∧ ∀ (j : Nat) (c : Nd), l[j]? = some c → cur[j * 2]? = some (.int .i64 c.1) ∧ cur[j * 2 + 1]? = some (.int .i64 c.2)) := by
  rcases h.2 with ⟨rfl, h0⟩ | ⟨g, cap, cur, rfl, _, hg, hc, _, hs, ht⟩
  · exact ⟨none, 0, by rw [h0], fun h => by omega⟩
  · refine ⟨_, cap, rfl, fun _ => ⟨g, cur, rfl, hg, fun j c hj => ?_⟩⟩
    have hjl : j < l.length := (List.getElem?_eq_some_iff.1 hj).1
    obtain ⟨h1, h2⟩ := ndsV_at l j c hj
    rw [← ht, List.getElem?_take, if_pos (by omega)] at h1 h2
    exact ⟨by simpa using h1, by simpa using h2⟩
theorem len_two {α : Type} {l : List α} (h : l.length = 2) : ∃ x y, l = [x, y] := by
  match l, h with
  | [x, y], _ => exact ⟨x, y, rfl⟩
theorem snoc_prefix {pre L : List Nd} {x c : Nd} (h : pre ++ [x] <+: L) (hc : L[pre.length]? = some c) : x = c := by
  obtain ⟨r, rfl⟩ := h
  simpa using hc
theorem snoc_long {pre L : List Nd} {x : Nd} (h : pre ++ [x] <+: L) : pre.length < L.length := by
  have := h.length_le
  simp at this
  omega
theorem prefix_snoc {pre L : List Nd} {c : Nd} (h : pre <+: L) (hc : L[pre.length]? = some c) : pre ++ [c] <+: L := by
  obtain ⟨r, rfl⟩ := h
  cases r with
  | nil => simp at hc
  | cons y r =>
    simp at hc
    subst hc
    exact ⟨r, by simp⟩
theorem bump {W' : World} {b : Nat} {pre : List Nd} (h : W'.heap[b]? = some (.cells #[.int .i64 (pre.length : Nat)] 3 (0, 0))) (x : Nd) :
    (W'.setCell ⟨b, 0, none⟩ (.int .i64 ((pre.length : Int) + 1))).heap[b]? = some (.cells #[.int .i64 ((pre ++ [x]).length : Nat)] 3 (0, 0)) := by
  rw [List.length_append]
  exact (heap_set h 0 _).trans (by simp)
theorem ne_of_cells {W' : World} {b D : Nat} {c : Array Value} {ty : TypeId} {ds : Option (List Deferred)} (h : W'.heap[b]? = some (.cells c ty (0, 0))) (h2 : W'.heap[D]? = some (.deferred ds)) : D ≠ b := by
  rintro rfl
  rw [h] at h2
  cases h2
def PostN (L t : Nat) (many : Int) (m : Nat) : Prop := (t = 0 → (m : Int) = min (L : Int) (max 1 many)) ∧ (t ≠ 0 → m = L)
theorem post_break {L pre : List Nd} {x : Nd} {t : Nat} {many : Int} (hp : pre ++ [x] <+: L) (hm : pre = [] ∨ (pre.length : Int) < many) (hn : many ≤ (pre.length : Int) + 1) (h0 : t = 0) : PostN L.length t many (pre ++ [x]).length := by
  have h1 := hp.length_le
  refine ⟨fun _ => ?_, fun h => absurd h0 h⟩
  rw [List.length_append] at h1 ⊢
  simp only [List.length_cons, List.length_nil] at h1 ⊢
  rcases hm with rfl | h2
  · simp only [List.length_nil] at h1 hn ⊢
    omega
  · omega
theorem loop_abs {P : Program} {c : Code} {id : Nat} {K : Act → World → Prop} {Q : Exit → Act → World → Prop} {a : Act} {w : World} (I : Act → World → Prop)
    (h1 : c.wp P (Exit.inBlock id (Exit.then I Q)) a w) (h2 : ∀ a' w', I a' w' → K a' w') : c.wp P (Exit.inBlock id (Exit.then K Q)) a w :=
  Code.wp_mono (fun ex a' w' h => by
    cases ex with
    | normal => exact h2 _ _ h
    | exit id' =>
      by_cases he : id' = id
      · simp only [Exit.inBlock, he, if_true] at h ⊢
        exact h2 _ _ h
      · simp only [Exit.inBlock, he, if_false] at h ⊢
        exact h
    | goto l => exact h
    | ret => exact h
    | panic ch => exact h
    | outgrown => exact h) h1
theorem oper_append {P : Program} {o : Oper} {a : Act} {K : Act → World → Prop} {Q : Exit → Act → World → Prop} {w : World} (s x : Operand) (t : TypeId)
    (ho : o.op = .call { callee := .builtin .append, args := #[s, x], argTypes := #[t, t] })
    (base : Nat) (e : TypeId) (i : TypeInfo) (z : Value) (size bytes : Nat) (ht : P.underlying t = some (.slice e)) (hi : P.info? e = some i) (hz : i.zero = some z)
    (hsize : i.size = size) (hby : i.bytes = bytes) (hzs : z.cells.size = size) (hsz : 0 < size)
    (v : Value) (n : Nat) (xs : List Value) (hs : a.eval s = v) (hown : w.ownsRow base e size v n xs)
    (ad : Addr) (m c : Nat) (news : List Value) (hx : a.eval x = .slice (some ad) m c) (hl : news.length = m * size) (hnews : ∀ j u, news[j]? = some u → w.cell? (ad.add j) = some u) (h1 : ∀ u ∈ news, u.oneCell' = true)
    (h63 : n + m ≤ maxLen) (hbytes : (n + m) * bytes ≤ 140737488355328) (hbase : base ≤ w.heap.size)
    (h : ∀ v' w', w'.ownsRow base e size v' (n + m) (xs ++ news) → w.grownBy w' v.ownBlock → K (a.put o.dst v') w') : Oper.wp P o a w K Q := by
  obtain ⟨v', w', hr, h2, h3, _, _⟩ := run_append_own_at (P := P) w base t o.type e i z size bytes ht hi hz hsize hby hzs hsz v n xs hown ad m c news hl hnews h1 h63 hbytes hbase
  unfold Oper.wp execOp
  simp only [ho, resolve, invoke, builtin, Sem.run_bind, Sem.run_pure, Result.andThen_ok, List.map_toArray, List.map_cons, List.map_nil, hs, hx, hr]
  exact h v' w' h2 h3
theorem cell_four_new (w : World) (p q r s : Value) (t : TypeId) : ∀ j u, [p, q, r, s][j]? = some u → (w.alloc (.cells #[p, q, r, s] t)).cell? ((⟨w.heap.size, 0, none⟩ : Addr).add j) = some u := by
  intro j u hj
  have hc := cell_at (heap_new w (.cells #[p, q, r, s] t))
  have e : (⟨w.heap.size, 0, none⟩ : Addr).add j = ⟨w.heap.size, j, none⟩ := by
    unfold Addr.add
    split
    · rename_i h; subst h; rfl
    · simp
  rw [e, hc]
  simpa using hj
set_option maxRecDepth 100000 in
set_option maxHeartbeats 4000000 in
theorem nodeslaw_short (L : List Sgm) (hlen : L.length ≤ 20) (A : Option Addr) (cap : Nat) (many : Int) (w : World) (hV : Vars w) (hA : SegsAt w A L) :
    Calls Tryz.prog 9 #[.slice A L.length cap, .int .i64 many] w fun e w' => e = .returned (.bool true) ∧ Below w.heap.size w w' := by
  refine (callsIn_wide (n := 6)).1 ?_
  refine callsIn_of_wp_marks Tryz.func9 rfl trivial ?_ rfl
  simp only [Tryz.ntmps9, List.size_toArray, List.length_cons, List.length_nil, Nat.reduceAdd, Nat.reduceSub, Array.replicate_succ, Array.replicate_zero, List.push_toArray, List.append_toArray, List.nil_append, List.cons_append]
  refine (wpIn_wide (n := 6)).2 ?_
  have hd0 : decide ((L.length : Int) > 20) = false := by simp; omega
  have hd00 : decide (20 < L.length) = false := by simp; omega
  go_wp2
  rw [show w.heap.size + 1 + 1 = w.heap.size + 2 from rfl]
  refine abs_wp (fun W => W.heap[w.heap.size]? = some (.cells #[.int .i64 many] 3 (0, 0)) ∧ W.heap[w.heap.size + 1]? = some (.cells #[.bool false] 4 (0, 0)) ∧ NdsAt W (w.heap.size + 3) (w.heap.size + 2) ([]) ∧ Below w.heap.size w W) ⟨heap_old (heap_old (heap_new _ _) _) _, heap_old (heap_at (by simp) _) _, ⟨_, heap_at (by simp) _, ⟨rfl, .inl ⟨rfl, rfl⟩⟩⟩, by focus (repeat (first | (with_reducible exact Below.refl _ _) | (with_reducible assumption) | ((with_reducible refine Below.setCell ?_ ?_ _); rotate_left; (focus (first | omega | (simp; done) | (simp; omega)))) | ((with_reducible refine Below.alloc ?_ ?_ _); rotate_left; (focus (first | omega | (simp; done) | (simp; omega)))) | (with_reducible refine Below.drew ?_) | (refine below_on ?_ (by assumption))))⟩ fun W0 ⟨z0, z1, z2, hB⟩ => ?_
  refine loop_abs (fun a' W => ∃ v : Nat → Value, (a' = { tmps := #[.slice A L.length cap, .int .i64 many, v 2, .pointer (some ⟨w.heap.size, 0, none⟩), .pointer (some ⟨w.heap.size + 1, 0, none⟩), .pointer (some ⟨w.heap.size + 2, 0, none⟩), v 6, v 7, v 8, v 9, v 10, v 11, v 12, v 13, v 14, v 15, v 16, v 17, v 18, v 19, v 20, v 21, v 22, v 23, v 24, v 25, v 26, v 27, v 28, v 29, v 30, v 31, v 32, v 33, v 34, v 35, v 36, v 37, v 38, v 39, v 40, v 41, v 42, v 43, v 44, v 45, v 46, v 47, v 48, v 49, v 50, v 51, v 52, v 53, v 54, v 55, v 56, v 57, v 58, v 59, v 60, v 61, v 62, v 63, v 64, v 65, v 66, v 67, v 68, v 69, v 70, v 71, v 72, v 73, v 74, v 75, v 76, v 77, v 78, v 79, v 80, v 81, v 82, v 83, v 84, v 85, v 86, v 87], defers := [] }) ∧ W.heap[w.heap.size]? = some (.cells #[.int .i64 many] 3 (0, 0)) ∧ W.heap[w.heap.size + 1]? = some (.cells #[.bool false] 4 (0, 0)) ∧ NdsAt W (w.heap.size + 3) (w.heap.size + 2) (nodesOf L) ∧ Below w.heap.size w W) ?_ ?_
  rotate_left
  · clear z0 z1 z2 hB
    rintro a' W1 ⟨v, rfl, z0, z1, z2, hB⟩
    go_wp2_with fail
    refine (nodes_any (.slice A L.length cap) _ ⟨_, _, _, rfl⟩).mono ?_
    rintro e wc ⟨bs, rfl, hbs, hge, hb⟩
    have HZ0 := Hd.mk (heap_below hb z0)
    have HZ1 := Hd.mk (heap_below hb z1)
    obtain ⟨vw, hz2, hown⟩ := z2.below hb
    obtain ⟨A', cap', rfl, hA'⟩ := nds_open hown
    have HZ2 := Hd.mk hz2
    have HA2 := Hd.mk hA'
    have HBC := Hd.mk (below_on hB hb)
    have HSG := Hd.mk hA
    have HVV := Hd.mk hV
    have hl40 : (nodesOf L).length ≤ 40 := by rw [nodesOf_len]; omega
    have hwc : w.heap.size + 2 < wc.heap.size := lt_of_block hz2
    have hbsl := lt_of_block hbs
    have HBS := Hd.mk hbs
    clear z0 z1 z2 hB hb hown hz2 hA' hbs hA hV
    obtain ⟨M, hM⟩ : ∃ M, M = nodesOf L := ⟨_, rfl⟩
    rw [← hM] at HZ2 HA2 hl40
    have HL := Hd.mk hM
    clear hM
    go_wp2
    refine wp_loop_ghost_k (fun gk a' W => ∃ t bt : Nat, ∃ ds : List Nat, ∃ v : Nat → Value, (a' = { tmps := #[.slice A L.length cap, .int .i64 many, v 2, .pointer (some ⟨w.heap.size, 0, none⟩), .pointer (some ⟨w.heap.size + 1, 0, none⟩), .pointer (some ⟨w.heap.size + 2, 0, none⟩), v 6, .func (.func 70) #[] #[.pointer (some ⟨bs, 0, none⟩)], .pointer (some ⟨bt, 0, none⟩), v 9, v 10, v 11, v 12, v 13, v 14, v 15, v 16, v 17, v 18, v 19, v 20, v 21, v 22, v 23, v 24, v 25, v 26, v 27, v 28, v 29, v 30, v 31, v 32, v 33, v 34, v 35, v 36, v 37, v 38, v 39, v 40, v 41, v 42, v 43, v 44, v 45, v 46, v 47, v 48, v 49, v 50, v 51, v 52, v 53, v 54, v 55, v 56, v 57, v 58, v 59, v 60, v 61, v 62, v 63, v 64, v 65, v 66, v 67, v 68, v 69, v 70, v 71, v 72, v 73, v 74, v 75, v 76, v 77, v 78, v 79, v 80, v 81, v 82, v 83, v 84, v 85, v 86, v 87], defers := List.map coll ds }) ∧ t + gk = 2 ∧ ds.length = t ∧ ds.Nodup ∧ wc.heap.size ≤ bt ∧ W.heap[bt]? = some (.cells #[.int .i64 t] 3 (0, 0)) ∧ (∀ D ∈ ds, wc.heap.size ≤ D ∧ W.heap[D]? = some (.deferred (some []))) ∧ Below wc.heap.size wc W) 2 ?_ ?_
    · refine ⟨0, wc.heap.size, [], ex_frame ?_⟩
      exact ⟨rfl, rfl, rfl, List.nodup_nil, Nat.le_refl _, heap_new _ _, (fun D h => absurd h (by simp)), by focus (repeat (first | (with_reducible exact Below.refl _ _) | (with_reducible assumption) | ((with_reducible refine Below.setCell ?_ ?_ _); rotate_left; (focus (first | omega | (simp; done) | (simp; omega)))) | ((with_reducible refine Below.alloc ?_ ?_ _); rotate_left; (focus (first | omega | (simp; done) | (simp; omega)))) | (with_reducible refine Below.drew ?_) | (refine below_on ?_ (by assumption))))⟩
    rintro gk a' W ⟨t, bt, ds, v, rfl, htk, hdl, hnd, hbt, ht, hds, hBW⟩
    intro J K hJ hK
    have ct := cell_at ht
    have ft := frozen_at ht
    have hnf : ∀ (b : Nat) (W : World), (binOp .eql 83 (.func (.func 70) #[] #[.pointer (some ⟨b, 0, none⟩)]) .nilFunc).run Tryz.prog W = .ok (.bool false) W := fun _ _ => rfl
    by_cases ht2 : t < 2
    · have hd1 : decide ((t : Int) < 2) = true := by simp; omega
      have hbtl := lt_of_block ht
      go_upto_region 13 with (fail)
      refine abs_wp (fun W' => (W'.heap[W.heap.size]? = some (.cells #[.int .i64 0] 3 (0, 0)) ∧ W'.heap[bt]? = some (.cells #[.int .i64 t] 3 (0, 0)) ∧ (∀ E ∈ ds, wc.heap.size ≤ E ∧ W'.heap[E]? = some (.deferred (some [])))) ∧ Below wc.heap.size wc W') ⟨⟨heap_new _ _, heap_old ht _, fun D hD => ⟨(hds D hD).1, heap_old (hds D hD).2 _⟩⟩, by focus (repeat (first | (with_reducible exact Below.refl _ _) | (with_reducible assumption) | ((with_reducible refine Below.setCell ?_ ?_ _); rotate_left; (focus (first | omega | (simp; done) | (simp; omega)))) | ((with_reducible refine Below.alloc ?_ ?_ _); rotate_left; (focus (first | omega | (simp; done) | (simp; omega)))) | (with_reducible refine Below.drew ?_) | (refine below_on ?_ (by assumption))))⟩ fun W2 ⟨⟨x9, xt, xds⟩, xB⟩ => ?_
      have HT := Hd.mk ht
      have HWW := Hd.mk hBW
      have hsW := hBW.size
      clear ht ct ft hds hBW
      go_wp2
      have h9l := lt_of_block x9
      have hdl2 : ∀ D ∈ ds, D < W2.heap.size := fun D hD => lt_of_block (xds D hD).2
      refine loop_abs (fun a' W' => ∃ (m D : Nat), ∃ v : Nat → Value, (a' = { tmps := #[.slice A L.length cap, .int .i64 many, v 2, .pointer (some ⟨w.heap.size, 0, none⟩), .pointer (some ⟨w.heap.size + 1, 0, none⟩), .pointer (some ⟨w.heap.size + 2, 0, none⟩), v 6, .func (.func 70) #[] #[.pointer (some ⟨bs, 0, none⟩)], .pointer (some ⟨bt, 0, none⟩), .pointer (some ⟨W.heap.size, 0, none⟩), v 10, v 11, v 12, v 13, v 14, v 15, v 16, v 17, v 18, v 19, v 20, v 21, v 22, v 23, v 24, v 25, v 26, v 27, v 28, v 29, v 30, v 31, v 32, v 33, v 34, v 35, v 36, v 37, v 38, v 39, v 40, v 41, v 42, v 43, v 44, v 45, v 46, v 47, v 48, v 49, v 50, v 51, v 52, v 53, v 54, v 55, v 56, v 57, v 58, v 59, v 60, v 61, v 62, v 63, v 64, v 65, v 66, v 67, v 68, v 69, v 70, v 71, v 72, v 73, v 74, v 75, v 76, v 77, v 78, v 79, v 80, v 81, v 82, v 83, v 84, v 85, v 86, v 87], defers := coll D :: List.map coll ds }) ∧ D ∉ ds ∧ PostN M.length t many m ∧ (W'.heap[W.heap.size]? = some (.cells #[.int .i64 (m : Nat)] 3 (0, 0)) ∧ W'.heap[bt]? = some (.cells #[.int .i64 t] 3 (0, 0)) ∧ (∀ E ∈ D :: ds, wc.heap.size ≤ E ∧ W'.heap[E]? = some (.deferred (some [])))) ∧ Below wc.heap.size wc W') ?_ ?_
      · refine (wpIn_wide (n := 6)).1 ?_
        refine range_b (by omega) (gf := 70) (lb := #[.pointer (some ⟨bs, 0, none⟩)]) rfl (enters_of Tryz.func70 (by kernel_rfl) rfl)
          (nodes_stops L hlen A cap _ bs W.heap.size W2 ((xB.block _ hbsl).trans HBS.out) (by omega) (fun W' hW' => SegsAt.below HSG.out ((HBC.out.trans (xB.mono HBC.out.size)).trans (hW'.mono (Nat.le_trans HBC.out.size hsW))))) Below.trans (fun W' o => below_putObj W' _ o (by omega)) (fun _ => rfl)
          (fun pre W' => (pre <+: M ∧ (t = 0 → pre = [] ∨ (pre.length : Int) < many)) ∧ (W'.heap[W.heap.size]? = some (.cells #[.int .i64 (pre.length : Nat)] 3 (0, 0)) ∧ W'.heap[bt]? = some (.cells #[.int .i64 t] 3 (0, 0)) ∧ (∀ E ∈ ds, wc.heap.size ≤ E ∧ W'.heap[E]? = some (.deferred (some [])))) ∧ Below wc.heap.size wc W')
          (fun c pre W' => (c = .ret ∧ ¬ pre <+: M) ∨ (c = .exit 4 ∧ PostN M.length t many pre.length ∧ (W'.heap[W.heap.size]? = some (.cells #[.int .i64 (pre.length : Nat)] 3 (0, 0)) ∧ W'.heap[bt]? = some (.cells #[.int .i64 t] 3 (0, 0)) ∧ (∀ E ∈ ds, wc.heap.size ≤ E ∧ W'.heap[E]? = some (.deferred (some [])))) ∧ Below wc.heap.size wc W'))
          (fun pre A C hs hb => ⟨hs.1, ⟨(hb.block _ h9l).trans hs.2.1.1, (hb.block _ (by omega)).trans hs.2.1.2.1, fun D hD => ⟨(hs.2.1.2.2 D hD).1, (hb.block _ (hdl2 D hD)).trans (hs.2.1.2.2 D hD).2⟩⟩, hs.2.2.trans (hb.mono (by omega))⟩)
          (fun c pre A C hs hb => by
            rcases hs with hs | hs
            · exact .inl hs
            · exact .inr ⟨hs.1, hs.2.1, ⟨(hb.block _ h9l).trans hs.2.2.1.1, (hb.block _ (by omega)).trans hs.2.2.1.2.1, fun D hD => ⟨(hs.2.2.1.2.2 D hD).1, (hb.block _ (hdl2 D hD)).trans (hs.2.2.1.2.2 D hD).2⟩⟩, hs.2.2.2.trans (hb.mono (by omega))⟩)
          ⟨⟨List.nil_prefix, fun _ => .inl rfl⟩, ⟨x9, xt, xds⟩, xB⟩ ?round ?done ?stop
        case round =>
          rintro l pre ⟨p, q⟩ Wr ⟨⟨hp, hm⟩, ⟨y9, yt, yds⟩, yB⟩ hsr _
          have hpl := hp.length_le
          have HP := Hd.mk hp
          have HM := Hd.mk hm
          have HR := Hd.mk (And.intro (And.intro y9 (And.intro yt yds)) yB)
          clear hp hm y9 yt yds yB
          simp only [ndV]
          gi_wp2
          have hal : Below Wr.heap.size Wr (Wr.alloc (.cells #[.int .i64 p, .int .i64 q] 23)) := (Below.refl _ _).alloc (Nat.le_refl _) _
          have x5 : (Wr.alloc (.cells #[.int .i64 p, .int .i64 q] 23)).heap[Wr.heap.size]? = some (.cells #[.int .i64 p, .int .i64 q] 23 (0, 0)) := heap_new _ _
          generalize Wr.alloc (.cells #[.int .i64 p, .int .i64 q] 23) = Wa at hal x5 ⊢
          refine ⟨Calm.of_below hal (Nat.le_refl _), hal.mono (by omega), ⟨⟨HP.out, HM.out⟩, ⟨heap_below hal HR.out.1.1, heap_below hal HR.out.1.2.1, fun D hD => ⟨(HR.out.1.2.2 D hD).1, heap_below hal (HR.out.1.2.2 D hD).2⟩⟩, below_on HR.out.2 hal⟩, ?_⟩
          rintro o ⟨_, ⟨y9, yt, yds⟩, yB⟩
          have x6 : (Wa.putObj (W2.heap.size + 1) o).heap[Wr.heap.size]? = some (.cells #[.int .i64 p, .int .i64 q] 23 (0, 0)) := (World.putObj_heap_other (by omega)).trans x5
          generalize Wa.putObj (W2.heap.size + 1) o = W' at y9 yt yds yB x6 ⊢
          have HX3 := Hd.mk ((yB.block _ (by omega)).trans HZ2.out)
          have HX6 := Hd.mk x6
          have HYT := Hd.mk yt
          have HYD := Hd.mk yds
          have HYB := Hd.mk yB
          have HY9 := Hd.mk y9
          clear yt yds yB y9 x5 x6 hal
          by_cases hlt : pre.length < M.length
          · have hg1 : decide (M.length ≤ pre.length) = false := by simp; omega
            have hg2 : decide ((pre.length : Int) ≥ (M.length : Int)) = false := by simp; omega
            obtain ⟨g, cur, hAg, hg, hcur⟩ := HA2.out (by omega)
            subst hAg
            obtain ⟨⟨c, d⟩, hc⟩ : ∃ c, M[pre.length]? = some c := ⟨_, List.getElem?_eq_getElem hlt⟩
            have HG := Hd.mk ((HYB.out.block g (lt_of_block hg)).trans hg)
            have HW1 := Hd.mk (hcur _ _ hc).1
            have HW2 := Hd.mk (hcur _ _ hc).2
            have HC := Hd.mk hc
            clear hcur hc hg
            by_cases hxc : p = c ∧ q = d
            · obtain ⟨rfl, rfl⟩ := hxc
              gi_wp2
              refine region_qt_in 11 (by kernel_rfl) (by kernel_rfl) (by kernel_rfl) (by rintro ⟨_, _, h⟩; exact h) fun X _ mk hmk hcl => ?_
              have e9 := mk_cell hmk HY9.out
              have e3 := mk_cell hmk HX3.out
              have e10 := mk_cell hmk HX6.out
              have ew1 : ∀ x : X, (mk x).cell? ⟨g, pre.length * 2, none⟩ = some (.int .i64 p) := fun x => (mk_cell hmk HG.out x _).trans HW1.out
              have ew2 : ∀ x : X, (mk x).cell? ⟨g, pre.length * 2 + 1, none⟩ = some (.int .i64 q) := fun x => (mk_cell hmk HG.out x _).trans HW2.out
              simp only [List.take_succ_cons, List.take_zero, List.drop_succ_cons, List.drop_zero]
              repeat (go_big_quiet_step (skip))
              refine wpQuiet_nil ?_
              rintro _ ⟨x, rfl⟩
              clear e9 e3 e10 ew1 ew2
              have hx := hmk x
              clear hcl hmk
              generalize mk x = Wd at hx
              have xB := below_on HYB.out hx
              have x2 := (xB.block _ (by omega)).trans HZ1.out
              have c2 := cell_at x2
              have f2 := frozen_at x2
              clear x2
              have y9 := heap_below hx HY9.out
              have yt := heap_below hx HYT.out
              have c1 := cell_at ((xB.block _ (by omega)).trans HZ0.out)
              have c9 := cell_at y9
              have f9 := frozen_at y9
              have ct := cell_at yt
              have hxs := hx.size
              have n1 : bt ≠ W.heap.size := by omega
              have hp1 : (pre.length : Int) < 256 := by omega
              have kB := Hd.mk (xB.setCell (p := ⟨W.heap.size, 0, none⟩) (by show wc.heap.size ≤ W.heap.size; omega) (.int .i64 ((pre.length : Int) + 1)))
              have kT := Hd.mk (heap_set_other yt (p := ⟨W.heap.size, 0, none⟩) n1 (.int .i64 ((pre.length : Int) + 1)))
              have k9 := Hd.mk (bump y9 (p, q))
              have kP := Hd.mk (prefix_snoc HP.out HC.out)
              have kD : Hd (∀ D ∈ ds, wc.heap.size ≤ D ∧ (Wd.setCell ⟨W.heap.size, 0, none⟩ (.int .i64 ((pre.length : Int) + 1))).heap[D]? = some (.deferred (some []))) := ⟨fun D hD => ⟨(HYD.out D hD).1, heap_set_other (heap_below hx (HYD.out D hD).2) (ne_of_cells HY9.out (HYD.out D hD).2) _⟩⟩
              have kC : Hd (Calm W2.heap.size W' (Wd.setCell ⟨W.heap.size, 0, none⟩ (.int .i64 ((pre.length : Int) + 1)))) := ⟨(Calm.of_below hx (Nat.le_refl _)).trans (Calm.setCell _ _ _ h9l)⟩
              have kX := Hd.mk hx
              have hsz := lt_of_block HY9.out
              clear y9 yt xB hx
              by_cases h0 : t = 0
              · have ht0 : ((t : Int) == 0) = true := by simp; omega
                have HT0 := Hd.mk h0
                clear h0
                by_cases hmn : many ≤ (pre.length : Int) + 1
                · have g1 : decide ((pre.length : Int) + 1 ≥ many) = true := by simpa using hmn
                  have kPN : Hd (PostN M.length t many (pre ++ [(p, q)]).length) := ⟨post_break kP.out (HM.out HT0.out) hmn HT0.out⟩
                  clear hmn
                  go_wp2
                  gi_wp2
                  exact ⟨kC.out, .inr ⟨rfl, kPN.out, ⟨k9.out, kT.out, kD.out⟩, kB.out⟩⟩
                · have g1 : decide ((pre.length : Int) + 1 ≥ many) = false := by simpa using hmn
                  have kM : Hd (t = 0 → pre ++ [(p, q)] = [] ∨ (((pre ++ [(p, q)]).length : Nat) : Int) < many) := ⟨fun _ => .inr (by simp; omega)⟩
                  clear hmn
                  go_wp2
                  gi_wp2
                  exact ⟨kC.out, (kX.out.mono (by omega)).trans ((Below.refl W.heap.size Wd).setCell (p := ⟨W.heap.size, 0, none⟩) (Nat.le_refl _) _), ⟨kP.out, kM.out⟩, ⟨k9.out, kT.out, kD.out⟩, kB.out⟩
              · have ht0 : ((t : Int) == 0) = false := by simp; omega
                have kM : Hd (t = 0 → pre ++ [(p, q)] = [] ∨ (((pre ++ [(p, q)]).length : Nat) : Int) < many) := ⟨fun h => absurd h h0⟩
                clear h0
                go_wp2
                gi_wp2
                exact ⟨kC.out, (kX.out.mono (by omega)).trans ((Below.refl W.heap.size Wd).setCell (p := ⟨W.heap.size, 0, none⟩) (Nat.le_refl _) _), ⟨kP.out, kM.out⟩, ⟨k9.out, kT.out, kD.out⟩, kB.out⟩
            · have HX := Hd.mk hxc
              have hfin : Hd (¬ pre ++ [(p, q)] <+: M) := ⟨fun h => HX.out (by have := snoc_prefix h HC.out; simpa using this)⟩
              by_cases hpc : p = c
              · have hqd : ¬ q = d := fun h => hxc ⟨hpc, h⟩
                clear hxc
                subst hpc
                have hne : (q == d) = false := by simpa using hqd
                gi_wp2
                refine region_qt_in 11 (by kernel_rfl) (by kernel_rfl) (by kernel_rfl) (by rintro ⟨_, _, h⟩; exact h) fun X _ mk hmk hcl => ?_
                have e9 := mk_cell hmk HY9.out
                have e3 := mk_cell hmk HX3.out
                have e10 := mk_cell hmk HX6.out
                have ew1 : ∀ x : X, (mk x).cell? ⟨g, pre.length * 2, none⟩ = some (.int .i64 p) := fun x => (mk_cell hmk HG.out x _).trans HW1.out
                have ew2 : ∀ x : X, (mk x).cell? ⟨g, pre.length * 2 + 1, none⟩ = some (.int .i64 d) := fun x => (mk_cell hmk HG.out x _).trans HW2.out
                simp only [List.take_succ_cons, List.take_zero, List.drop_succ_cons, List.drop_zero]
                repeat (go_big_quiet_step (skip))
                refine wpQuiet_nil ?_
                rintro _ ⟨x, rfl⟩
                clear e9 e3 e10 ew1 ew2
                have hx := hmk x
                clear hcl hmk
                generalize mk x = Wd at hx
                have xB := below_on HYB.out hx
                have x2 := (xB.block _ (by omega)).trans HZ1.out
                have c2 := cell_at x2
                have f2 := frozen_at x2
                clear x2
                have hsz := lt_of_block HY9.out
                clear xB
                go_wp2
                gi_wp2
                exact ⟨(Calm.of_below hx (by omega)).trans (Calm.setCell _ _ _ (by show _ < _; simp; omega)), .inl ⟨rfl, hfin.out⟩⟩
              · clear hxc
                have hne : (p == c) = false := by simpa using hpc
                gi_wp2
                refine region_qt_in 11 (by kernel_rfl) (by kernel_rfl) (by kernel_rfl) (by rintro ⟨_, _, h⟩; exact h) fun X _ mk hmk hcl => ?_
                have e9 := mk_cell hmk HY9.out
                have e3 := mk_cell hmk HX3.out
                have e10 := mk_cell hmk HX6.out
                have ew1 : ∀ x : X, (mk x).cell? ⟨g, pre.length * 2, none⟩ = some (.int .i64 c) := fun x => (mk_cell hmk HG.out x _).trans HW1.out
                have ew2 : ∀ x : X, (mk x).cell? ⟨g, pre.length * 2 + 1, none⟩ = some (.int .i64 d) := fun x => (mk_cell hmk HG.out x _).trans HW2.out
                simp only [List.take_succ_cons, List.take_zero, List.drop_succ_cons, List.drop_zero]
                repeat (go_big_quiet_step (skip))
                refine wpQuiet_nil ?_
                rintro _ ⟨x, rfl⟩
                clear e9 e3 e10 ew1 ew2
                have hx := hmk x
                clear hcl hmk
                generalize mk x = Wd at hx
                have xB := below_on HYB.out hx
                have x2 := (xB.block _ (by omega)).trans HZ1.out
                have c2 := cell_at x2
                have f2 := frozen_at x2
                clear x2
                have hsz := lt_of_block HY9.out
                clear xB
                go_wp2
                gi_wp2
                exact ⟨(Calm.of_below hx (by omega)).trans (Calm.setCell _ _ _ (by show _ < _; simp; omega)), .inl ⟨rfl, hfin.out⟩⟩
          · have hg1 : decide (M.length ≤ pre.length) = true := by simp; omega
            have hg2 : decide ((pre.length : Int) ≥ (M.length : Int)) = true := by simp; omega
            gi_wp2
            refine region_qt_in 11 (by kernel_rfl) (by kernel_rfl) (by kernel_rfl) (by rintro ⟨_, _, h⟩; exact h) fun X _ mk hmk hcl => ?_
            have e9 := mk_cell hmk HY9.out
            have e3 := mk_cell hmk HX3.out
            simp only [List.take_succ_cons, List.take_zero, List.drop_succ_cons, List.drop_zero]
            repeat (go_big_quiet_step (skip))
            refine wpQuiet_nil ?_
            rintro _ ⟨x, rfl⟩
            clear e9 e3
            have hx := hmk x
            clear hcl hmk
            generalize mk x = Wd at hx
            have xB := below_on HYB.out hx
            have x2 := (xB.block _ (by omega)).trans HZ1.out
            have c2 := cell_at x2
            have f2 := frozen_at x2
            clear x2
            have hsz := lt_of_block HY9.out
            clear xB
            go_wp2
            gi_wp2
            exact ⟨(Calm.of_below hx (by omega)).trans (Calm.setCell _ _ _ (by show _ < _; simp; omega)), .inl ⟨rfl, fun h => hlt (snoc_long h)⟩⟩
        case done =>
          rintro ys W' rfl ⟨⟨hp, hm⟩, ⟨y9, yt, yds⟩, yB⟩ hK'
          rw [← HL.out] at hm y9
          unfold Exit.inBlock Exit.then
          dsimp only
          refine ⟨M.length, W2.heap.size, ex_frame ⟨rfl, (fun h => Nat.lt_irrefl _ (hdl2 _ h)), ⟨?_, fun _ => rfl⟩, ⟨y9, yt, ?_⟩, yB⟩⟩
          · intro h0
            rcases hm h0 with h1 | h1
            · rw [h1]
              simp only [List.length_nil]
              omega
            · omega
          · intro D' hD'
            rcases List.mem_cons.1 hD' with rfl | h1
            · exact ⟨by omega, hK'⟩
            · exact yds D' h1
        case stop =>
          rintro c pre W' hsp hix hK'
          rw [← HL.out] at hsp
          rcases hix with ⟨rfl, hn⟩ | ⟨rfl, hpn, ⟨y9, yt, yds⟩, yB⟩
          · exact absurd hsp hn
          · refine wpIn_exit ?_
            unfold Exit.inBlock Exit.then
            dsimp only
            rw [if_pos rfl]
            refine ⟨pre.length, W2.heap.size, ex_frame ⟨rfl, (fun h => Nat.lt_irrefl _ (hdl2 _ h)), hpn, ⟨y9, yt, ?_⟩, yB⟩⟩
            intro D' hD'
            rcases List.mem_cons.1 hD' with rfl | h1
            · exact ⟨by omega, hK'⟩
            · exact yds D' h1
      · rintro a' W3 ⟨m, D, v, rfl, hDd, hpost, ⟨z9, zt, zds⟩, zB⟩
        have c1 := cell_at ((zB.block _ (by omega)).trans HZ0.out)
        have c3 := cell_at ((zB.block _ (by omega)).trans HZ2.out)
        have c9 := cell_at z9
        have ct := cell_at zt
        have ft := frozen_at zt
        have HTT := Hd.mk zt
        have HZD := Hd.mk zds
        have HZB := Hd.mk zB
        have HPN := Hd.mk hpost
        clear zt zds zB z9 hpost
        by_cases h0 : t = 0
        · subst h0
          have hmn := HPN.out.1 rfl
          clear HPN
          have hmx : min (M.length : Int) (max 1 many) = (m : Int) := hmn.symm
          clear hmn
          go_wp2
          exact Handed.intro (gk - 1) (by omega) (hJ _ _ _ ⟨1, W3.heap.size, D :: ds, ex_frame ⟨rfl, by omega, by rw [List.length_cons, hdl], List.nodup_cons.2 ⟨hDd, hnd⟩, HZB.out.size, heap_new _ _, fun D' hD' => ⟨(HZD.out D' hD').1, heap_old (HZD.out D' hD').2 _⟩, HZB.out.alloc HZB.out.size _⟩⟩)
        · obtain rfl : t = 1 := by omega
          obtain rfl := HPN.out.2 (by simp)
          clear HPN
          go_wp2
          exact Handed.intro (gk - 1) (by omega) (hJ _ _ _ ⟨2, W3.heap.size, D :: ds, ex_frame ⟨rfl, by omega, by rw [List.length_cons, hdl], List.nodup_cons.2 ⟨hDd, hnd⟩, HZB.out.size, heap_new _ _, fun D' hD' => ⟨(HZD.out D' hD').1, heap_old (HZD.out D' hD').2 _⟩, HZB.out.alloc HZB.out.size _⟩⟩)
    · obtain rfl : t = 2 := by omega
      have hd1 : decide (((2 : Nat) : Int) < 2) = false := by decide
      go_wp2_with fail
      refine (law_works _ (HVV.out.below (HBC.out.trans (hBW.mono HBC.out.size)))).mono ?_
      rintro e wz ⟨rfl, hb⟩
      obtain ⟨D2, D1, rfl⟩ := len_two hdl
      have d2 := hds D2 (by simp)
      have d1 := hds D1 (by simp)
      have x2 := heap_below hb ((hBW.block _ (by omega)).trans HZ1.out)
      have y2 := heap_below hb d2.2
      have y1 := heap_below hb d1.2
      have hBz := below_on (HBC.out.trans (hBW.mono HBC.out.size)) hb
      have q2 := cell_at x2
      have f2 := frozen_at x2
      clear ht ct ft hds hBW hb hdl
      have HB2 := Hd.mk (hBz.setCell (p := ⟨w.heap.size + 1, 0, none⟩) (by simp) (.bool true))
      clear hBz
      go_wp2
      have hn21 : D1 ≠ D2 := by simp at hnd; exact fun h => hnd h.symm
      have r2 : (wz.setCell ⟨w.heap.size + 1, 0, none⟩ (.bool true)).heap[D2]? = some (.deferred (some [])) := heap_set_other y2 (by simp; omega) _
      have r1 : (wz.setCell ⟨w.heap.size + 1, 0, none⟩ (.bool true)).heap[D1]? = some (.deferred (some [])) := heap_set_other y1 (by simp; omega) _
      have hB2 := HB2.out
      have k2 := cell_at (heap_put (heap_put ((heap_set x2 0 (.bool true)).trans (by rfl)) (D := D2) (by omega) (.deferred none)) (D := D1) (by omega) (.deferred none))
      refine ⟨by simp, .inl ⟨_, _, rfl, run_takeDeferred r2, ?_⟩⟩
      refine ⟨by simp, .inl ⟨_, _, rfl, run_takeDeferred (heap_put r1 hn21 _), ?_⟩⟩
      refine ⟨.bool true, ?_, rfl, below_put (below_put hB2 (by omega) _) (by omega) _⟩
      simp [results, Tryz.f9, go_sem, k2]
  go_loopw [6] (fun iv wr => ∃ k : Nat, k ≤ L.length ∧ iv = .int .i64 k ∧ wr.heap[w.heap.size]? = some (.cells #[.int .i64 many] 3 (0, 0)) ∧ wr.heap[w.heap.size + 1]? = some (.cells #[.bool false] 4 (0, 0)) ∧ NdsAt wr (w.heap.size + 3) (w.heap.size + 2) (nodesOf (L.take k)) ∧ Below w.heap.size w wr) (fun iv _ => 20 - (intOf iv).toNat)
  case atStart => exact ⟨0, Nat.zero_le _, rfl, z0, z1, z2, hB⟩
  case round =>
    clear z0 z1 z2 hB
    obtain ⟨k, hk, rfl, z0, z1, z2, hB⟩ := hrel
    by_cases hlt : k < L.length
    · have hd1 : decide ((k : Int) < (L.length : Int)) = true := by simp; omega
      have hd2 : decide (k < L.length) = true := by simp; omega
      go_upto_region 7 with (fail)
      have HA := hA.below hB (by omega)
      obtain ⟨b, off, hAe, hcc⟩ := HA
      subst hAe
      obtain ⟨s, hs⟩ : ∃ s, L[k]? = some s := ⟨_, List.getElem?_eq_getElem hlt⟩
      have hcs := hcc k s hs
      obtain ⟨v0, zv, hown⟩ := z2
      have HL := Hd.mk hs
      clear hcc hs
      obtain ⟨⟨x, y⟩, ⟨u, t⟩⟩ := s
      refine region_abs_w (fun a0 a' w' => ∃ v : Nat → Value, (w'.heap[w.heap.size]? = some (.cells #[.int .i64 many] 3 (0, 0)) ∧ w'.heap[w.heap.size + 1]? = some (.cells #[.bool false] 4 (0, 0)) ∧ NdsAt w' (w.heap.size + 3) (w.heap.size + 2) (nodesOf (L.take (k + 1))) ∧ Below w.heap.size w w') ∧ (a' = (Act.put (Act.put (Act.put (Act.put (Act.put (Act.put (Act.put (Act.put (Act.put (Act.put (Act.put (Act.put (Act.put a0 (some 21) (v 21)) (some 22) (v 22)) (some 23) (v 23)) (some 24) (v 24)) (some 25) (v 25)) (some 26) (v 26)) (some 27) (v 27)) (some 28) (v 28)) (some 29) (v 29)) (some 30) (v 30)) (some 31) (v 31)) (some 32) (v 32)) (some 33) (v 33)))) (fun KR hKR => ?_) ?_
      · have HS : Hd (∀ W', Below wr.heap.size wr W' → W'.cell? ⟨w.heap.size + 2, 0, none⟩ = some v0 ∧ W'.cell? ⟨b, off + k * 4, none⟩ = some (.int .i64 x) ∧ W'.cell? ⟨b, off + k * 4 + 1, none⟩ = some (.int .i64 y) ∧ W'.cell? ⟨b, off + k * 4 + 2, none⟩ = some (.int .i64 u) ∧ W'.cell? ⟨b, off + k * 4 + 3, none⟩ = some (.int .i64 t)) := ⟨fun W' h =>
          have hc : ∀ i (z : Value), i < 4 → wr.cell? ⟨b, off + k * 4 + i, none⟩ = some z → W'.cell? ⟨b, off + k * 4 + i, none⟩ = some z := fun i z _ hz => (h.cell (World.block_lt_of_cell? wr _ hz)).trans hz
          ⟨cell_at (heap_below h zv) 0, hc 0 _ (by decide) (hcs 0 (by decide)), hc 1 _ (by decide) (hcs 1 (by decide)), hc 2 _ (by decide) (hcs 2 (by decide)), hc 3 _ (by decide) (hcs 3 (by decide))⟩⟩
        have hD : Below wr.heap.size wr wr.drew := Below.drew (Below.refl _ _)
        have hDz := hD.size
        have HO := Hd.mk (And.intro hown (And.intro z0 (And.intro z1 (And.intro zv hB))))
        clear hown z0 z1 hB hcs zv
        obtain ⟨i0, hi, hz0, hz1, hz2⟩ := info_parts infoNode
        have hu : Tryz.prog.underlying 81 = some (.slice 23) := by kernel_rfl
        have E1 : Hd (∀ p ∈ [Value.int .i64 x, .int .i64 y, .int .i64 u, .int .i64 t], p.oneCell' = true) := ⟨by simp [Value.oneCell']⟩
        have E2 : Hd ((nodesOf (L.take k)).length + 2 ≤ maxLen) := ⟨by rw [nodesOf_len, List.length_take]; unfold maxLen; omega⟩
        have E3 : Hd (((nodesOf (L.take k)).length + 2) * 16 ≤ 140737488355328) := ⟨by rw [nodesOf_len, List.length_take]; omega⟩
        have E4 : Hd (w.heap.size + 3 ≤ wr.heap.size + 1) := ⟨by have := lt_of_block HO.out.2.2.2.1; omega⟩
        have step : Hd (∀ (ty : TypeId) (v' : Value) (w1 : World), w1.ownsRow (w.heap.size + 3) 23 2 v' ((nodesOf (L.take k)).length + 2) (ndsV (nodesOf (L.take k)) ++ [.int .i64 x, .int .i64 y, .int .i64 u, .int .i64 t]) →
            (wr.alloc (.cells #[.int .i64 x, .int .i64 y, .int .i64 u, .int .i64 t] ty)).drew.grownBy w1 v0.ownBlock → ∃ g c', v' = .slice (some ⟨g, 0, none⟩) ((nodesOf (L.take k)).length + 2) c' ∧ w1.cell? ⟨w.heap.size + 2, 0, none⟩ = some v0 ∧ w1.frozen? ⟨w.heap.size + 2, 0, none⟩ = false ∧
            Hd ((w1.setCell ⟨w.heap.size + 2, 0, none⟩ v').heap[w.heap.size]? = some (.cells #[.int .i64 many] 3 (0, 0)) ∧ (w1.setCell ⟨w.heap.size + 2, 0, none⟩ v').heap[w.heap.size + 1]? = some (.cells #[.bool false] 4 (0, 0)) ∧ NdsAt (w1.setCell ⟨w.heap.size + 2, 0, none⟩ v') (w.heap.size + 3) (w.heap.size + 2) (nodesOf (L.take (k + 1))) ∧ Below w.heap.size w (w1.setCell ⟨w.heap.size + 2, 0, none⟩ v'))) := ⟨by
          intro ty v' w1 hown' hgrow
          have hown := HO.out.1
          have hr : ∀ k, v0.ownBlock = some k → w.heap.size + 3 ≤ k := fun k hk => own_ge hown hk
          have hold : ∀ k o, some k ≠ v0.ownBlock → wr.heap[k]? = some o → w1.heap[k]? = some o := fun k o hk ho => (hgrow.block k (by have := lt_of_block ho; simp; omega) hk).trans (heap_old ho _)
          have x0 := hold _ _ (fun e => by have := hr _ e.symm; omega) HO.out.2.1
          have x1 := hold _ _ (fun e => by have := hr _ e.symm; omega) HO.out.2.2.1
          have x2 := hold _ _ (fun e => by have := hr _ e.symm; omega) HO.out.2.2.2.1
          have hb : Below w.heap.size w w1 := HO.out.2.2.2.2.trans ((Below.drew (Below.alloc (Below.refl w.heap.size wr) HO.out.2.2.2.2.size _)).trans (below_grown hgrow (fun k hk => by have := hr k hk; omega) (by have := HO.out.2.2.2.2.size; simp; omega)))
          obtain ⟨g, c', hv'⟩ : ∃ g c', v' = .slice (some ⟨g, 0, none⟩) ((nodesOf (L.take k)).length + 2) c' := by
            rcases hown'.2 with ⟨_, h0⟩ | ⟨g, c', cur, h1, _⟩
            · omega
            · exact ⟨g, c', h1⟩
          obtain ⟨l1, l2, l3⟩ := laid_one (w.heap.size + 2) w1 v'
          refine ⟨g, c', hv', cell_at x2 0, frozen_at x2 0, ⟨heap_set_other x0 (by simp) _, heap_set_other x1 (by simp) _, ⟨_, l1 x2 rfl, ?_⟩, hb.trans (l3 w.heap.size (by omega))⟩⟩
          rw [nodesOf_take HL.out, List.length_append, ndsV_append]
          exact own_laid hown' (by omega) _⟩
        obtain ⟨c5, c0, c1, c2, c3⟩ := HS.out wr (Below.refl _ _)
        obtain ⟨v', w1, hr, hown', hgrow, _, _⟩ := run_append_own_at (P := Tryz.prog) ((wr.alloc (.cells #[.int .i64 x, .int .i64 y, .int .i64 u, .int .i64 t] 23)).drew) (w.heap.size + 3) 81 81 23 i0 (.agg #[.int .i64 0, .int .i64 0]) 2 16 hu hi hz0 hz1 hz2 rfl (by decide) v0 (nodesOf (L.take k)).length (ndsV (nodesOf (L.take k)))
          (own_below HO.out.1 (by focus (repeat (first | (with_reducible exact Below.refl _ _) | (with_reducible assumption) | ((with_reducible refine Below.setCell ?_ ?_ _); rotate_left; (focus (first | omega | (simp; done) | (simp; omega)))) | ((with_reducible refine Below.alloc ?_ ?_ _); rotate_left; (focus (first | omega | (simp; done) | (simp; omega)))) | (with_reducible refine Below.drew ?_) | (refine below_on ?_ (by assumption)))))) ⟨wr.heap.size, 0, none⟩ 2 2 [.int .i64 x, .int .i64 y, .int .i64 u, .int .i64 t] rfl (cell_four_new _ _ _ _ _ _) E1.out E2.out E3.out (by simpa using E4.out)
        obtain ⟨g, c', rfl, hc1, hf1, hfin⟩ := step.out _ _ _ hown' hgrow
        have c6 : (wr.alloc (.cells #[.int .i64 x, .int .i64 y, .int .i64 u, .int .i64 t] 23)).cell? ⟨w.heap.size + 2, 0, none⟩ = some v0 := cell_at (heap_old HO.out.2.2.2.1 _) 0
        clear hgrow hown' hi hz0 hz1 hz2 hu
        refine wp_region_noPanic ?_
        go_region_with (fail)
        all_goals exact ⟨rfl, hKR _ _ (ex_putw2 ⟨by with_reducible exact hfin.out, by kernel_rfl⟩)⟩
      rintro a' W4 ⟨v, ⟨y0, y1, y2, hF⟩, rfl⟩
      simp only [Act.put, List.setIfInBounds_toArray, List.set_cons_succ, List.set_cons_zero]
      clear z0 z1 hB hown zv hA hcs
      go_wp2
      go_roundw
      case rel => exact ⟨k + 1, by omega, by go_num, y0, y1, y2, hF⟩
      case measure => simp [intOf]; omega
    · obtain rfl : k = L.length := by omega
      have hd1 : decide (((L.length : Nat) : Int) < (L.length : Int)) = false := by simp
      rw [List.take_length] at z2
      go_wp2
      exact ex_frame ⟨rfl, z0, z1, z2, hB⟩
end Go.Proofs.YtbhfnfokihdjjaaGreatDoor
