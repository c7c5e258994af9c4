/-
  The law TagsLeaves for at most twenty numbers. Conditions stand in each theorem.
-/
import Derived.Deep.LoopGhost
import Derived.Test.YtfgdichdddknlaaDoorGu9
namespace Go.Proofs.YtfgdichdddknlaaDoor
open Go.RowKit Go.BigFrame Go.Shelf
attribute [local go_sem] Oper.semAt_some

/-- What a run reads of the package variables: how long a text the search for bytes takes in one piece. -/
def VarsT (w : World) : Prop := ∃ m : Int, w.cell? ⟨3, 0, none⟩ = some (.int .i64 m)
theorem VarsT.below {w W : World} (h : VarsT w) (hb : Below w.heap.size w W) : VarsT W := by
  obtain ⟨m, hm⟩ := h
  exact ⟨m, (hb.cell (World.block_lt_of_cell? w _ hm)).trans hm⟩
theorem len_two {α : Type} {l : List α} (h : l.length = 2) : ∃ x y, l = [x, y] := by
  match l, h with
  | [x, y], _ => exact ⟨x, y, rfl⟩
def PostN (L t : Nat) (many : Int) (m : Nat) : Prop := (t = 0 → (m : Int) = min (L : Int) (max 1 many)) ∧ (t ≠ 0 → m = L)
theorem post_break {L pre : List Ct} {x : Ct} {t : Nat} {many : Int} (hp : pre ++ [x] <+: L) (hm : pre = [] ∨ (pre.length : Int) < many) (hn : many ≤ (pre.length : Int) + 1) (h0 : t = 0) : PostN L.length t many (pre ++ [x]).length := by
  have h1 := hp.length_le
  refine ⟨fun _ => ?_, fun h => absurd h0 h⟩
  rw [List.length_append] at h1 ⊢
  simp only [List.length_cons, List.length_nil] at h1 ⊢
  rcases hm with rfl | h2
  · simp only [List.length_nil] at h1 hn ⊢
    omega
  · omega
theorem loop_abs {P : Program} {c : Code} {id : Nat} {K : Act → World → Prop} {Q : Exit → Act → World → Prop} {a : Act} {w : World} (I : Act → World → Prop)
    (h1 : c.wp P (Exit.inBlock id (Exit.then I Q)) a w) (h2 : ∀ a' w', I a' w' → K a' w') : c.wp P (Exit.inBlock id (Exit.then K Q)) a w :=
  Code.wp_mono (fun ex a' w' h => by
    cases ex with
    | normal => exact h2 _ _ h
    | exit id' =>
      by_cases he : id' = id
      · simp only [Exit.inBlock, he, if_true] at h ⊢
        exact h2 _ _ h
      · simp only [Exit.inBlock, he, if_false] at h ⊢
        exact h
    | goto l => exact h
    | ret => exact h
    | panic ch => exact h
    | outgrown => exact h) h1
theorem bump {W' : World} {b : Nat} {pre : List Ct} (h : W'.heap[b]? = some (.cells #[.int .i64 (pre.length : Nat)] 3 (0, 0))) (x : Ct) :
    (W'.setCell ⟨b, 0, none⟩ (.int .i64 ((pre.length : Int) + 1))).heap[b]? = some (.cells #[.int .i64 ((pre ++ [x]).length : Nat)] 3 (0, 0)) := by
  rw [List.length_append]
  exact (heap_set h 0 _).trans (by simp)
theorem ne_of_cells {W' : World} {b D : Nat} {c : Array Value} {ty : TypeId} {ds : Option (List Deferred)} (h : W'.heap[b]? = some (.cells c ty (0, 0))) (h2 : W'.heap[D]? = some (.deferred ds)) : D ≠ b := by
  rintro rfl
  rw [h] at h2
  cases h2
/-- What is held in a turn. -/
def TurnI (wc : World) (k bt t : Nat) (ds : List Nat) (n : Nat) (W : World) : Prop :=
  (W.heap[k]? = some (.cells #[.int .i64 (n : Nat)] 3 (0, 0)) ∧ W.heap[bt]? = some (.cells #[.int .i64 t] 3 (0, 0)) ∧ (∀ E ∈ ds, wc.heap.size ≤ E ∧ W.heap[E]? = some (.deferred (some [])))) ∧ Below wc.heap.size wc W
theorem TurnI.alloc {wc W : World} {k bt t n : Nat} {ds : List Nat} (h : TurnI wc k bt t ds n W) (o : Obj) : TurnI wc k bt t ds n (W.alloc o) :=
  ⟨⟨heap_old h.1.1 _, heap_old h.1.2.1 _, fun E hE => ⟨(h.1.2.2 E hE).1, heap_old (h.1.2.2 E hE).2 _⟩⟩, h.2.alloc h.2.size _⟩
theorem TurnI.putObj {wc W : World} {k bt t n : Nat} {ds : List Nat} (h : TurnI wc k bt t ds n W) {r : Nat} (hk : k ≠ r) (hb : bt ≠ r) (hd : ∀ E ∈ ds, E ≠ r) (hr : wc.heap.size ≤ r) (o : Obj) : TurnI wc k bt t ds n (W.putObj r o) :=
  ⟨⟨(World.putObj_heap_other hk).trans h.1.1, (World.putObj_heap_other hb).trans h.1.2.1, fun E hE => ⟨(h.1.2.2 E hE).1, (World.putObj_heap_other (hd E hE)).trans (h.1.2.2 E hE).2⟩⟩, h.2.trans (below_putObj _ _ _ hr)⟩
theorem TurnI.below {wc W W' : World} {k bt t n : Nat} {ds : List Nat} (h : TurnI wc k bt t ds n W) (hb : Below W.heap.size W W') : TurnI wc k bt t ds n W' :=
  ⟨⟨heap_below hb h.1.1, heap_below hb h.1.2.1, fun E hE => ⟨(h.1.2.2 E hE).1, heap_below hb (h.1.2.2 E hE).2⟩⟩, below_on h.2 hb⟩
set_option maxRecDepth 100000 in
set_option maxHeartbeats 4000000 in
theorem leaveslaw_short (HW : ∀ w, VarsT w → Calls Tryd.prog 4 #[] w fun e w' => e = .returned (.bool true) ∧ Below w.heap.size w w') (l : List Int) (hlen : l.length ≤ 20) (A : Option Addr) (c : Nat) (many : Int) (w : World) (hV : VarsT w) (hN : NumsIn w A l) :
    Calls Tryd.prog 3 #[.slice A l.length c, .int .i64 many] w fun e w' => e = .returned (.bool true) ∧ Below w.heap.size w w' := by
  refine (callsIn_wide (n := 6)).1 ?_
  refine callsIn_of_wp_marks Tryd.func3 rfl trivial ?_ rfl
  simp only [Tryd.ntmps3, List.size_toArray, List.length_cons, List.length_nil, Nat.reduceAdd, Nat.reduceSub, Array.replicate_succ, Array.replicate_zero, List.push_toArray, List.append_toArray, List.nil_append, List.cons_append]
  refine (wpIn_wide (n := 6)).2 ?_
  have hd0 : decide ((l.length : Int) > 20) = false := by simp; omega
  have hd00 : decide (20 < l.length) = false := by simp; omega
  have HN := Hd.mk hN
  have HV := Hd.mk (And.intro HW hV)
  clear HW hV hN
  go_upto_region 1 with (fail)
  refine abs_wp (fun W => W.heap[w.heap.size]? = some (.cells #[.int .i64 many] 3 (0, 0)) ∧ W.heap[w.heap.size + 1]? = some (.cells #[.bool false] 4 (0, 0)) ∧ Below w.heap.size w W) ⟨heap_old (heap_new _ _) _, heap_at (by simp) _, by focus (repeat (first | (with_reducible exact Below.refl _ _) | (with_reducible assumption) | ((with_reducible refine Below.setCell ?_ ?_ _); rotate_left; (focus (first | omega | (simp; done) | (simp; omega)))) | ((with_reducible refine Below.alloc ?_ ?_ _); rotate_left; (focus (first | omega | (simp; done) | (simp; omega)))) | (with_reducible refine Below.drew ?_) | (refine below_on ?_ (by assumption))))⟩ fun W0 ⟨z0, z1, hB⟩ => ?_
  go_wp2_with fail
  refine (tg_new l (by omega) A c _ (HN.out.below hB)).mono ?_
  rintro e w1 ⟨A1, c1, rfl, hC1, hb⟩
  have HC1 := Hd.mk hC1
  have y0 := heap_below hb z0
  have y1 := heap_below hb z1
  have hB1 := below_on hB hb
  have HLL := Hd.mk (newV_len l)
  have HRL := Hd.mk (refV_len l)
  have HKK := Hd.mk (keys_new l)
  clear hb hB z0 z1 hC1
  generalize newV l = L at HC1 HLL HKK ⊢
  go_upto_region 4 with (fail)
  refine abs_wp (fun W => W.heap[w1.heap.size]? = some (.cells #[.slice A1 L.length c1] 26 (0, 0)) ∧ W.heap[w.heap.size]? = some (.cells #[.int .i64 many] 3 (0, 0)) ∧ W.heap[w.heap.size + 1]? = some (.cells #[.bool false] 4 (0, 0)) ∧ CtsIn W A1 L ∧ Below w.heap.size w W) ⟨heap_new _ _, heap_old y0 _, heap_old y1 _, HC1.out.below ((Below.refl _ _).alloc (Nat.le_refl _) _), hB1.alloc hB1.size _⟩ fun W1 ⟨z5, z0, z1, z2, hB⟩ => ?_
  have hs1 := lt_of_block y1
  clear y0 y1 hB1 HC1
  go_wp2_with fail
  refine (rt_new l (by omega) A c _ (HN.out.below hB)).mono ?_
  rintro e w2 ⟨A2, c2, rfl, hN2, hb⟩
  have y5 := heap_below hb z5
  have y0 := heap_below hb z0
  have y1 := heap_below hb z1
  have HC2 := Hd.mk (z2.below hb)
  have HN2 := Hd.mk hN2
  have hB2 := below_on hB hb
  clear hb z5 z0 z1 z2 hN2 hB
  generalize refV l = R at HN2 HRL HKK ⊢
  go_upto_region 5 with (fail)
  refine abs_wp (fun W => W.heap[w2.heap.size]? = some (.cells #[.slice A2 R.length c2] 31 (0, 0)) ∧ W.heap[w1.heap.size]? = some (.cells #[.slice A1 L.length c1] 26 (0, 0)) ∧ W.heap[w.heap.size]? = some (.cells #[.int .i64 many] 3 (0, 0)) ∧ W.heap[w.heap.size + 1]? = some (.cells #[.bool false] 4 (0, 0)) ∧ CtsIn W A1 L ∧ NumsIn W A2 R ∧ Below w.heap.size w W) ⟨heap_new _ _, heap_old y5 _, heap_old y0 _, heap_old y1 _, HC2.out.below ((Below.refl _ _).alloc (Nat.le_refl _) _), HN2.out.below ((Below.refl _ _).alloc (Nat.le_refl _) _), hB2.alloc hB2.size _⟩ fun W2 ⟨z7, z5, z0, z1, z2, z3, hB⟩ => ?_
  have c7 := cell_at z7
  clear y5 y0 y1 hB2 HC2 HN2
  go_wp2_with fail
  refine (rt_kinds R (by have := HRL.out; omega) A2 c2 _ z3).mono ?_
  rintro e w3 ⟨A3, c3, rfl, hN3, hb⟩
  rw [← HKK.out] at hN3 ⊢
  have y5 := heap_below hb z5
  have y0 := heap_below hb z0
  have y1 := heap_below hb z1
  have HC3 := Hd.mk (z2.below hb)
  have HN3 := Hd.mk hN3
  have hB3 := below_on hB hb
  have hs13 := lt_of_block y5
  clear hb z7 z5 z0 z1 z2 z3 hN3 hB c7 HKK HRL
  go_upto_region 6 with (fail)
  refine abs_wp (fun W => W.heap[w3.heap.size]? = some (.cells #[.slice A3 (keys L).length c3] 22 (0, 0)) ∧ W.heap[w1.heap.size]? = some (.cells #[.slice A1 L.length c1] 26 (0, 0)) ∧ W.heap[w.heap.size]? = some (.cells #[.int .i64 many] 3 (0, 0)) ∧ W.heap[w.heap.size + 1]? = some (.cells #[.bool false] 4 (0, 0)) ∧ CtsIn W A1 L ∧ NumsIn W A3 (keys L) ∧ Below w.heap.size w W) ⟨heap_new _ _, heap_old y5 _, heap_old y0 _, heap_old y1 _, HC3.out.below ((Below.refl _ _).alloc (Nat.le_refl _) _), HN3.out.below ((Below.refl _ _).alloc (Nat.le_refl _) _), hB3.alloc hB3.size _⟩ fun W3 ⟨z9, z5, z0, z1, z2, z3, hB⟩ => ?_
  have c5 := cell_at z5
  clear y5 y0 y1 hB3 HC3 HN3
  go_wp2_with fail
  refine (tg_all A1 L.length c1 _).mono ?_
  rintro e wc ⟨bs, rfl, hbs, hge, hb⟩
  have HZ0 := Hd.mk (heap_below hb z0)
  have HZ1 := Hd.mk (heap_below hb z1)
  have HZ9 := Hd.mk (heap_below hb z9)
  have HC := Hd.mk (z2.below hb)
  have HM := Hd.mk (z3.below hb)
  have HBC := Hd.mk (below_on hB hb)
  have HBS := Hd.mk hbs
  have hbsl := lt_of_block hbs
  have hwc : w3.heap.size < wc.heap.size := lt_of_block HZ9.out
  have hkl : (keys L).length = L.length := by unfold keys; rw [List.length_map]
  rw [hkl] at HZ9
  have hl20 : L.length ≤ 20 := by have := HLL.out; omega
  clear z0 z1 z2 z3 z5 z9 hB hb hbs hge c5 HLL
  go_wp2
  refine wp_loop_ghost_k (fun gk a' W => ∃ t bt : Nat, ∃ ds : List Nat, ∃ v : Nat → Value, (a' = { tmps := #[.slice A l.length c, .int .i64 many, v 2, .pointer (some ⟨w.heap.size, 0, none⟩), .pointer (some ⟨w.heap.size + 1, 0, none⟩), v 5, v 6, v 7, v 8, .pointer (some ⟨w3.heap.size, 0, none⟩), .func (.func 27) #[] #[.pointer (some ⟨bs, 0, none⟩)], .pointer (some ⟨bt, 0, none⟩), v 12, v 13, v 14, v 15, v 16, v 17, v 18, v 19, v 20, v 21, v 22, v 23, v 24, v 25, v 26, v 27, v 28, v 29, v 30, v 31, v 32, v 33, v 34, v 35, v 36, v 37, v 38, v 39, v 40, v 41, v 42, v 43, v 44, v 45, v 46, v 47, v 48, v 49, v 50, v 51, v 52, v 53, v 54, v 55, v 56, v 57, v 58, v 59, v 60, v 61, v 62, v 63, v 64, v 65, v 66, v 67, v 68, v 69, v 70, v 71, v 72, v 73, v 74, v 75, v 76, v 77, v 78, v 79, v 80, v 81, v 82, v 83, v 84], defers := List.map coll ds }) ∧ t + gk = 2 ∧ ds.length = t ∧ ds.Nodup ∧ wc.heap.size ≤ bt ∧ W.heap[bt]? = some (.cells #[.int .i64 t] 3 (0, 0)) ∧ (∀ D ∈ ds, wc.heap.size ≤ D ∧ W.heap[D]? = some (.deferred (some []))) ∧ Below wc.heap.size wc W) 2 ?_ ?_
  · refine ⟨0, wc.heap.size, [], ex_frame ?_⟩
    exact ⟨rfl, rfl, rfl, List.nodup_nil, Nat.le_refl _, heap_new _ _, (fun D h => absurd h (by simp)), by focus (repeat (first | (with_reducible exact Below.refl _ _) | (with_reducible assumption) | ((with_reducible refine Below.setCell ?_ ?_ _); rotate_left; (focus (first | omega | (simp; done) | (simp; omega)))) | ((with_reducible refine Below.alloc ?_ ?_ _); rotate_left; (focus (first | omega | (simp; done) | (simp; omega)))) | (with_reducible refine Below.drew ?_) | (refine below_on ?_ (by assumption))))⟩
  rintro gk a' W ⟨t, bt, ds, v, rfl, htk, hdl, hnd, hbt, ht, hds, hBW⟩
  intro J K hJ hK
  have ct := cell_at ht
  have ft := frozen_at ht
  have hnf : ∀ (b : Nat) (W : World), (binOp .eql 36 (.func (.func 27) #[] #[.pointer (some ⟨b, 0, none⟩)]) .nilFunc).run Tryd.prog W = .ok (.bool false) W := fun _ _ => rfl
  by_cases ht2 : t < 2
  · have hd1 : decide ((t : Int) < 2) = true := by simp; omega
    have hbtl := lt_of_block ht
    go_upto_region 13 with (fail)
    refine abs_wp (fun W' => TurnI wc W.heap.size bt t ds 0 W') ⟨⟨heap_new _ _, heap_old ht _, fun D hD => ⟨(hds D hD).1, heap_old (hds D hD).2 _⟩⟩, hBW.alloc hBW.size _⟩ fun W2 hT => ?_
    have HWW := Hd.mk hBW
    have hsW := hBW.size
    clear ht ct ft hds hBW
    go_wp2
    have h9l := lt_of_block hT.1.1
    have hdl2 : ∀ D ∈ ds, D < W2.heap.size := fun D hD => lt_of_block (hT.1.2.2 D hD).2
    refine loop_abs (fun a' W' => ∃ (m D : Nat), ∃ v : Nat → Value, (a' = { tmps := #[.slice A l.length c, .int .i64 many, v 2, .pointer (some ⟨w.heap.size, 0, none⟩), .pointer (some ⟨w.heap.size + 1, 0, none⟩), v 5, v 6, v 7, v 8, .pointer (some ⟨w3.heap.size, 0, none⟩), .func (.func 27) #[] #[.pointer (some ⟨bs, 0, none⟩)], .pointer (some ⟨bt, 0, none⟩), .pointer (some ⟨W.heap.size, 0, none⟩), v 13, v 14, v 15, v 16, v 17, v 18, v 19, v 20, v 21, v 22, v 23, v 24, v 25, v 26, v 27, v 28, v 29, v 30, v 31, v 32, v 33, v 34, v 35, v 36, v 37, v 38, v 39, v 40, v 41, v 42, v 43, v 44, v 45, v 46, v 47, v 48, v 49, v 50, v 51, v 52, v 53, v 54, v 55, v 56, v 57, v 58, v 59, v 60, v 61, v 62, v 63, v 64, v 65, v 66, v 67, v 68, v 69, v 70, v 71, v 72, v 73, v 74, v 75, v 76, v 77, v 78, v 79, v 80, v 81, v 82, v 83, v 84], defers := coll D :: List.map coll ds }) ∧ D ∉ ds ∧ PostN L.length t many m ∧ TurnI wc W.heap.size bt t (D :: ds) m W') ?_ ?_
    · refine (wpIn_wide (n := 6)).1 ?_
      refine range_a (by omega) (gf := 27) (lb := #[.pointer (some ⟨bs, 0, none⟩)]) rfl (enters_of Tryd.func27 (by kernel_rfl) rfl)
        (all_seq L A1 c1 (by omega) _ bs W.heap.size W2 (by omega) ((hT.2.block _ hbsl).trans HBS.out) (fun W' hW' => HC.out.below (hT.2.trans (hW'.mono hsW)))) Below.trans (fun W' o => below_putObj W' _ o (by omega)) (fun _ => rfl)
        (fun pre W' => (t = 0 → pre = [] ∨ (pre.length : Int) < many) ∧ TurnI wc W.heap.size bt t ds pre.length W')
        (fun c pre W' => c = .exit 2 ∧ PostN L.length t many pre.length ∧ TurnI wc W.heap.size bt t ds pre.length W')
        (fun pre A o h => ⟨h.1, h.2.putObj (by omega) (by omega) (fun E hE => by have := hdl2 E hE; omega) (by omega) o⟩)
        (fun pre A o h => ⟨h.1, h.2.alloc o⟩)
        (fun c pre A o h => ⟨h.1, h.2.1, h.2.2.putObj (by omega) (by omega) (fun E hE => by have := hdl2 E hE; omega) (by omega) o⟩)
        (fun W' hW' => ⟨fun _ => .inl rfl, hT.below hW'⟩) ?round ?done ?stop
      case round =>
        rintro l' pre ⟨n, q⟩ Wr hpx hI hsr
        have hplt : pre.length < L.length := by
          have := hpx.length_le
          simp at this
          omega
        have hn : (keys L)[pre.length]? = some n := by
          obtain ⟨r, hr⟩ := hpx
          rw [← hr]
          simp [keys]
        have HP := Hd.mk hpx
        have HI := Hd.mk hI
        clear hpx hI
        unfold encC
        gi_wp2
        refine ⟨Calm.refl _ _, Below.refl _ _, HI.out, ?_⟩
        rintro o ⟨hm, hTp⟩
        have hsz2 : W2.heap.size + 1 < (Wr.putObj (W2.heap.size + 1) o).heap.size := by simp; omega
        generalize Wr.putObj (W2.heap.size + 1) o = Wp at hTp hsz2 ⊢
        obtain ⟨bb, off, rfl, hcc⟩ := HM.out.below hTp.2 (by omega)
        have q1 := hcc _ _ hn
        have c9 := cell_at ((hTp.2.block _ hwc).trans HZ9.out)
        have c3 := cell_at ((hTp.2.block _ (by omega)).trans HZ0.out)
        have ck := cell_at hTp.1.1
        have fk := frozen_at hTp.1.1
        have ctt := cell_at hTp.1.2.1
        have HT := Hd.mk hTp
        have HMN := Hd.mk hm
        have hg1 : decide (L.length ≤ pre.length) = false := by simp; omega
        have hg2 : decide ((L.length : Int) ≤ (pre.length : Int)) = false := by simp; omega
        have hg3 : decide ((pre.length : Int) < (L.length : Int)) = true := by simp; omega
        have hg4 : decide (pre.length < L.length) = true := by simp; omega
        have hp1 : (pre.length : Int) < 256 := by omega
        clear hcc hn hTp hm
        have kB := Hd.mk (HT.out.2.setCell (p := ⟨W.heap.size, 0, none⟩) hsW (.int .i64 ((pre.length : Int) + 1)))
        have k9 := Hd.mk (bump HT.out.1.1 (n, q))
        have kT := Hd.mk (heap_set_other HT.out.1.2.1 (p := ⟨W.heap.size, 0, none⟩) (by show bt ≠ W.heap.size; omega) (.int .i64 ((pre.length : Int) + 1)))
        have kD : Hd (∀ D ∈ ds, wc.heap.size ≤ D ∧ (Wp.setCell ⟨W.heap.size, 0, none⟩ (.int .i64 ((pre.length : Int) + 1))).heap[D]? = some (.deferred (some []))) := ⟨fun D hD => ⟨(HT.out.1.2.2 D hD).1, heap_set_other (HT.out.1.2.2 D hD).2 (ne_of_cells HT.out.1.1 (HT.out.1.2.2 D hD).2) _⟩⟩
        have kC : Hd (Calm W2.heap.size Wp (Wp.setCell ⟨W.heap.size, 0, none⟩ (.int .i64 ((pre.length : Int) + 1)))) := ⟨Calm.setCell _ _ _ h9l⟩
        have kX := Hd.mk ((Below.refl W.heap.size Wp).setCell (p := ⟨W.heap.size, 0, none⟩) (Nat.le_refl _) (.int .i64 ((pre.length : Int) + 1)))
        have hsz := lt_of_block HT.out.1.1
        have cs := cell_at (heap_set HT.out.1.1 0 (.int .i64 ((pre.length : Int) + 1)))
        by_cases h0 : t = 0
        · have ht0 : ((t : Int) == 0) = true := by simp; omega
          have HT0 := Hd.mk h0
          clear h0
          by_cases hmn : many ≤ (pre.length : Int) + 1
          · have g1 : decide (many ≤ (pre.length : Int) + 1) = true := by simpa using hmn
            have kPN : Hd (PostN L.length t many (pre ++ [(n, q)]).length) := ⟨post_break HP.out (HMN.out HT0.out) hmn HT0.out⟩
            clear hmn
            gi_wp2
            unfold roundEnd
            dsimp only
            exact ⟨kC.out, rfl, kPN.out, ⟨k9.out, kT.out, kD.out⟩, kB.out⟩
          · have g1 : decide (many ≤ (pre.length : Int) + 1) = false := by simpa using hmn
            have kM : Hd (t = 0 → pre ++ [(n, q)] = [] ∨ (((pre ++ [(n, q)]).length : Nat) : Int) < many) := ⟨fun _ => .inr (by simp; omega)⟩
            clear hmn
            gi_wp2
            unfold roundEnd
            dsimp only
            exact ⟨kC.out, kX.out, kM.out, ⟨k9.out, kT.out, kD.out⟩, kB.out⟩
        · have ht0 : ((t : Int) == 0) = false := by simp; omega
          have kM : Hd (t = 0 → pre ++ [(n, q)] = [] ∨ (((pre ++ [(n, q)]).length : Nat) : Int) < many) := ⟨fun h => absurd h h0⟩
          clear h0
          gi_wp2
          unfold roundEnd
          dsimp only
          exact ⟨kC.out, kX.out, kM.out, ⟨k9.out, kT.out, kD.out⟩, kB.out⟩
      case done =>
        rintro W' ⟨hm, hTw⟩ hK'
        unfold Exit.inBlock Exit.then
        dsimp only
        refine ⟨L.length, W2.heap.size, ex_frame ⟨rfl, (fun h => Nat.lt_irrefl _ (hdl2 _ h)), ⟨?_, fun _ => rfl⟩, ⟨hTw.1.1, hTw.1.2.1, ?_⟩, hTw.2⟩⟩
        · intro h0
          rcases hm h0 with h1 | h1
          · rw [h1]
            simp only [List.length_nil]
            omega
          · omega
        · intro D' hD'
          rcases List.mem_cons.1 hD' with rfl | h1
          · exact ⟨by omega, hK'⟩
          · exact hTw.1.2.2 D' h1
      case stop =>
        rintro c pre W' hsp ⟨rfl, hpn, hTw⟩ hK'
        refine wpIn_exit ?_
        unfold Exit.inBlock Exit.then
        dsimp only
        rw [if_pos rfl]
        refine ⟨pre.length, W2.heap.size, ex_frame ⟨rfl, (fun h => Nat.lt_irrefl _ (hdl2 _ h)), hpn, ⟨hTw.1.1, hTw.1.2.1, ?_⟩, hTw.2⟩⟩
        intro D' hD'
        rcases List.mem_cons.1 hD' with rfl | h1
        · exact ⟨by omega, hK'⟩
        · exact hTw.1.2.2 D' h1
    · rintro a' W4 ⟨m, D, v, rfl, hDd, hpost, hTt⟩
      have c1 := cell_at ((hTt.2.block _ (by omega)).trans HZ0.out)
      have c3 := cell_at ((hTt.2.block _ (by omega)).trans HZ9.out)
      have c9 := cell_at hTt.1.1
      have ct := cell_at hTt.1.2.1
      have ft := frozen_at hTt.1.2.1
      have HTT := Hd.mk hTt
      have HPN := Hd.mk hpost
      clear hTt hpost hT
      by_cases h0 : t = 0
      · subst h0
        have hmn := HPN.out.1 rfl
        clear HPN
        have hmx : min (L.length : Int) (max 1 many) = (m : Int) := hmn.symm
        clear hmn
        go_wp2
        all_goals first
          | exact Handed.intro (gk - 1) (by omega) (hJ _ _ _ ⟨1, W4.heap.size, D :: ds, ex_frame ⟨rfl, by omega, by rw [List.length_cons, hdl], List.nodup_cons.2 ⟨hDd, hnd⟩, HTT.out.2.size, heap_new _ _, fun D' hD' => ⟨(HTT.out.1.2.2 D' hD').1, heap_old (HTT.out.1.2.2 D' hD').2 _⟩, HTT.out.2.alloc HTT.out.2.size _⟩⟩)
          | (exfalso; omega)
      · obtain rfl : t = 1 := by omega
        obtain rfl := HPN.out.2 (by simp)
        clear HPN
        go_wp2
        exact Handed.intro (gk - 1) (by omega) (hJ _ _ _ ⟨2, W4.heap.size, D :: ds, ex_frame ⟨rfl, by omega, by rw [List.length_cons, hdl], List.nodup_cons.2 ⟨hDd, hnd⟩, HTT.out.2.size, heap_new _ _, fun D' hD' => ⟨(HTT.out.1.2.2 D' hD').1, heap_old (HTT.out.1.2.2 D' hD').2 _⟩, HTT.out.2.alloc HTT.out.2.size _⟩⟩)
  · obtain rfl : t = 2 := by omega
    have hd1 : decide (((2 : Nat) : Int) < 2) = false := by decide
    go_wp2_with fail
    refine (HV.out.1 _ (HV.out.2.below (HBC.out.trans (hBW.mono HBC.out.size)))).mono ?_
    rintro e wz ⟨rfl, hb⟩
    obtain ⟨D2, D1, rfl⟩ := len_two hdl
    have d2 := hds D2 (by simp)
    have d1 := hds D1 (by simp)
    have x2 := heap_below hb ((hBW.block _ (by omega)).trans HZ1.out)
    have y2 := heap_below hb d2.2
    have y1 := heap_below hb d1.2
    have hBz := below_on (HBC.out.trans (hBW.mono HBC.out.size)) hb
    have q2 := cell_at x2
    have f2 := frozen_at x2
    clear ht ct ft hds hBW hb hdl
    have HB2 := Hd.mk (hBz.setCell (p := ⟨w.heap.size + 1, 0, none⟩) (by simp) (.bool true))
    clear hBz
    go_wp2
    have hn21 : D1 ≠ D2 := by simp at hnd; exact fun h => hnd h.symm
    have r2 : (wz.setCell ⟨w.heap.size + 1, 0, none⟩ (.bool true)).heap[D2]? = some (.deferred (some [])) := heap_set_other y2 (by simp; omega) _
    have r1 : (wz.setCell ⟨w.heap.size + 1, 0, none⟩ (.bool true)).heap[D1]? = some (.deferred (some [])) := heap_set_other y1 (by simp; omega) _
    have hB2 := HB2.out
    have k2 := cell_at (heap_put (heap_put ((heap_set x2 0 (.bool true)).trans (by rfl)) (D := D2) (by omega) (.deferred none)) (D := D1) (by omega) (.deferred none))
    refine ⟨by simp, .inl ⟨_, _, rfl, run_takeDeferred r2, ?_⟩⟩
    refine ⟨by simp, .inl ⟨_, _, rfl, run_takeDeferred (heap_put r1 hn21 _), ?_⟩⟩
    refine ⟨.bool true, ?_, rfl, below_put (below_put hB2 (by omega) _) (by omega) _⟩
    simp [results, Tryd.f3, go_sem, k2]
end Go.Proofs.YtfgdichdddknlaaDoor
