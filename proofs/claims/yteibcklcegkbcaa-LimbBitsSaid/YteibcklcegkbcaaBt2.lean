/-
  The walk of LimbBits. Conditions stand in each theorem.
-/
import Derived.Test.YteibcklcegkbcaaBt1
import Derived.Deep.LoopGhost
import Derived.Test.YteibcklcegkbcaaLm24
import Derived.Test.YteibcklcegkbcaaOr1
namespace Go.Proofs.Yteibcklcegkbcaa
open Go.RowKit Go.BigFrame Go.Shelf
attribute [local go_sem] Oper.semAt_some

theorem infoWord : (Try.prog.info? 3).map (fun i => (i.zero, i.size, i.bytes)) = some (some (.int .i64 0), 1, 8) := by kernel_rfl
def natsV (l : List Nat) : List Value := l.map fun k : Nat => .int .i64 (k : Int)
/-- A row of numbers that is owned, in block b. -/
def WantAt (W : World) (base b : Nat) (l : List Nat) : Prop := ∃ v, W.heap[b]? = some (.cells #[v] 51 (0, 0)) ∧ W.ownsRow base 3 1 v l.length (natsV l)
theorem WantAt.below {W W' : World} {base b : Nat} {l : List Nat} (h : WantAt W base b l) (hb : Below W.heap.size W W') : WantAt W' base b l := by
  obtain ⟨v, h1, h2⟩ := h
  exact ⟨v, heap_below hb h1, own_below h2 hb⟩
theorem bitsTo_all {a : Nat} (ha : a < 2 ^ 256) : bitsTo a 256 = bitsTo a (topN a) := by
  have h := topN_le ha
  have key : ∀ m, topN a ≤ m → bitsTo a m = bitsTo a (topN a) := by
    intro m
    induction m with
    | zero => intro h; obtain h0 : topN a = 0 := by omega
              rw [h0]
    | succ m ih =>
      intro h
      by_cases h1 : topN a = m + 1
      · rw [h1]
      · have hb : ¬ bitN a m = 1 := by
          unfold bitN
          rw [Nat.div_eq_of_lt]
          · decide
          · exact Nat.lt_of_lt_of_le (topN_lt a) (Nat.pow_le_pow_right (by decide) (by omega))
        rw [bitsTo_no hb]
        exact ih (by omega)
  exact key 256 h
theorem region_any {P : Program} {id : Nat} {ops : Array Oper} {dr : Bool} {Q : Exit → Act → World → Prop} {a : Act} {w : World} (Qr : Act → Act → World → Prop)
    (h1 : (Code.region id ops dr).wp P (fun ex a' w' => ex = .normal ∧ Qr a a' w') a w) (h2 : ∀ a' w', Qr a a' w' → Q .normal a' w') : (Code.region id ops dr).wp P Q a w :=
  Code.wp_mono (fun ex a' w' h => by obtain ⟨rfl, h⟩ := h; exact h2 a' w' h) h1
theorem own_block {A B : World} {row : Option Nat} {N k : Nat} {o : Obj} (h : A.heap[k]? = some o) (hg : A.grownBy B row) (hr : ∀ r, row = some r → N ≤ r ∧ ∃ o : Obj, A.heap[r]? = some o ∧ o.isCells = false) (hk : k < N) : B.heap[k]? = some o := by
  rw [hg.block _ (lt_of_block h) (fun e => by have := (hr _ e.symm).1; omega)]
  exact h
theorem len_two {α : Type} {l : List α} (h : l.length = 2) : ∃ x y, l = [x, y] := by
  match l, h with
  | [x, y], _ => exact ⟨x, y, rfl⟩
theorem snoc_prefix {pre L : List Nat} {x c : Nat} (h : pre ++ [x] <+: L) (hc : L[pre.length]? = some c) : x = c := by
  obtain ⟨r, rfl⟩ := h
  simpa using hc
theorem snoc_long {pre L : List Nat} {x : Nat} (h : pre ++ [x] <+: L) : pre.length < L.length := by
  have := h.length_le
  simp at this
  omega
theorem prefix_snoc {pre L : List Nat} {c : Nat} (h : pre <+: L) (hc : L[pre.length]? = some c) : pre ++ [c] <+: L := by
  obtain ⟨r, rfl⟩ := h
  cases r with
  | nil => simp at hc
  | cons y r =>
    simp at hc
    subst hc
    exact ⟨r, by simp⟩
theorem bump {W' : World} {b : Nat} {pre : List Nat} (h : W'.heap[b]? = some (.cells #[.int .i64 (pre.length : Nat)] 3 (0, 0))) (x : Nat) :
    (W'.setCell ⟨b, 0, none⟩ (.int .i64 ((pre.length : Int) + 1))).heap[b]? = some (.cells #[.int .i64 ((pre ++ [x]).length : Nat)] 3 (0, 0)) := by
  rw [List.length_append]
  exact (heap_set h 0 _).trans (by simp)
theorem ne_of_cells {W' : World} {b D : Nat} {c : Array Value} {ty : TypeId} {ds : Option (List Deferred)} (h : W'.heap[b]? = some (.cells c ty (0, 0))) (h2 : W'.heap[D]? = some (.deferred ds)) : D ≠ b := by
  rintro rfl
  rw [h] at h2
  cases h2
def PostN (L : List Nat) (t : Nat) (many : Int) (m : Nat) : Prop := (t = 0 → (m : Int) = min (L.length : Int) (max 1 many)) ∧ (t ≠ 0 → m = L.length)
theorem post_break {L pre : List Nat} {x t : Nat} {many : Int} (hp : pre ++ [x] <+: L) (hm : pre = [] ∨ (pre.length : Int) < many) (hn : many ≤ (pre.length : Int) + 1) (h0 : t = 0) : PostN L t many (pre ++ [x]).length := by
  have h1 := hp.length_le
  refine ⟨fun _ => ?_, fun h => absurd h0 h⟩
  rw [List.length_append] at h1 ⊢
  simp only [List.length_cons, List.length_nil] at h1 ⊢
  rcases hm with rfl | h2
  · simp only [List.length_nil] at h1 hn ⊢
    omega
  · omega
theorem ex_frame {T : Array Value} {ds ds' : List Deferred} {F : (Nat → Value) → Array Value} {R : Prop} (h : (Act.mk T ds = Act.mk (F (fun i => T.getD i undef)) ds') ∧ R) : ∃ v : Nat → Value, (Act.mk T ds = Act.mk (F v) ds') ∧ R := ⟨_, h⟩
def coll (D : Nat) : Deferred := { target := .collected D, args := #[] }
theorem want_open {W : World} {base : Nat} {v : Value} {l : List Nat} (h : W.ownsRow base 3 1 v l.length (natsV l)) :
    ∃ A cap, v = .slice A l.length cap ∧ (0 < l.length → ∃ g cur, A = some ⟨g, 0, none⟩ ∧ W.heap[g]? = some (.cells cur 3 (0, 0)) ∧ ∀ (j c : Nat), l[j]? = some c → cur[j]? = some (.int .i64 c)) := by
  rcases h.2 with ⟨rfl, h0⟩ | ⟨g, cap, cur, rfl, _, hg, hc, _, hs, ht⟩
  · exact ⟨none, 0, by rw [h0], fun h => by omega⟩
  · refine ⟨_, cap, rfl, fun _ => ⟨g, cur, rfl, hg, fun j c hj => ?_⟩⟩
    have hjl : j < l.length := (List.getElem?_eq_some_iff.1 hj).1
    have h1 : (cur.toList.take (l.length * 1))[j]? = some (.int .i64 (c : Int)) := by
      rw [ht]
      unfold natsV
      rw [List.getElem?_map, hj]
      rfl
    rw [List.getElem?_take, if_pos (by omega)] at h1
    simpa using h1
theorem tmod_bit (a q r b : Nat) (h : (dg a q).toNat / 2 ^ r % 2 = b) : ((dg a q / 2 ^ r).tmod 2 == 1) = (b == 1) := by
  obtain ⟨y, hy⟩ := Int.eq_ofNat_of_zero_le (dg_nonneg a q)
  rw [hy] at h ⊢
  have e : (y : Int) / 2 ^ r = ((y / 2 ^ r : Nat) : Int) := by rw [Int.natCast_ediv, Int.natCast_pow]; rfl
  rw [Int.toNat_natCast] at h
  rw [e]
  generalize y / 2 ^ r = m at h ⊢
  have e2 : ((m : Nat) : Int).tmod 2 = (b : Int) := by rw [← h, Int.tmod_eq_emod_of_nonneg (by omega)]; omega
  rw [e2, Bool.eq_iff_iff]
  simp only [beq_iff_eq]
  omega
theorem bad_nought {s : Bool} {a : Nat} (h : false = decide (okP (s, a))) : a = 0 := by
  have h1 : ¬ okP (s, a) := of_decide_eq_false h.symm
  have h2 : s = true ∧ a = 0 := by simpa [okP] using h1
  exact h2.2
theorem loop_abs {P : Program} {c : Code} {id : Nat} {K : Act → World → Prop} {Q : Exit → Act → World → Prop} {a : Act} {w : World} (I : Act → World → Prop)
    (h1 : c.wp P (Exit.inBlock id (Exit.then I Q)) a w) (h2 : ∀ a' w', I a' w' → K a' w') : c.wp P (Exit.inBlock id (Exit.then K Q)) a w :=
  Code.wp_mono (fun ex a' w' h => by
    cases ex with
    | normal => exact h2 _ _ h
    | exit id' =>
      by_cases he : id' = id
      · simp only [Exit.inBlock, he, if_true] at h ⊢
        exact h2 _ _ h
      · simp only [Exit.inBlock, he, if_false] at h ⊢
        exact h
    | goto l => exact h
    | ret => exact h
    | panic ch => exact h
    | outgrown => exact h) h1
theorem rright_r (s : Bool) (a : Nat) (r : Bool) (ha : a < 2 ^ 256) (hr : r = decide (okP (s, a))) (w : World) :
    Calls Try.prog 13 #[.agg #[.bool (s), .int .u64 (dg (a) 0), .int .u64 (dg (a) 1), .int .u64 (dg (a) 2), .int .u64 (dg (a) 3)]] w fun e w' => e = .returned (.bool r) ∧ Below w.heap.size w w' := by
  rw [hr]
  exact rright_any (s, a) ha w
set_option maxRecDepth 100000 in
set_option maxHeartbeats 4000000 in
theorem bitslaw_any (s : Bool) (a : Nat) (HA : Hd (a < 2 ^ 256)) (r : Bool) (HR : Hd (r = decide (okP (s, a)))) (many : Int) (w : World) :
    Calls Try.prog 5 #[.agg #[.bool (s), .int .u64 (dg (a) 0), .int .u64 (dg (a) 1), .int .u64 (dg (a) 2), .int .u64 (dg (a) 3)], .int .i64 many] w fun e w' => e = .returned (.bool true) ∧ Below w.heap.size w w' := by
  refine (callsIn_wide (n := 6)).1 ?_
  refine callsIn_of_wp_marks Try.func5 rfl trivial ?_ rfl
  simp only [Try.ntmps5, List.size_toArray, List.length_cons, List.length_nil, Nat.reduceAdd, Nat.reduceSub, Array.replicate_succ, Array.replicate_zero, List.push_toArray, List.append_toArray, List.nil_append, List.cons_append]
  refine (wpIn_wide (n := 6)).2 ?_
  go_wp2
  rw [show w.heap.size + 1 + 1 + 1 = w.heap.size + 3 from rfl, show w.heap.size + 1 + 1 = w.heap.size + 2 from rfl]
  refine abs_wp (fun W => W.heap[w.heap.size]? = some (.cells #[.bool (s), .int .u64 (dg (a) 0), .int .u64 (dg (a) 1), .int .u64 (dg (a) 2), .int .u64 (dg (a) 3)] 25 (0, 0)) ∧ W.heap[w.heap.size + 1]? = some (.cells #[.int .i64 many] 3 (0, 0)) ∧ W.heap[w.heap.size + 2]? = some (.cells #[.bool false] 4 (0, 0)) ∧ WantAt W (w.heap.size + 4) (w.heap.size + 3) [] ∧ Below w.heap.size w W) ⟨heap_old (heap_old (heap_old (heap_new _ _) _) _) _, heap_old (heap_old (heap_at (by simp) _) _) _, heap_old (heap_at (by simp) _) _, ⟨_, heap_at (by simp) _, ⟨rfl, .inl ⟨rfl, rfl⟩⟩⟩, by focus (repeat (first | (with_reducible exact Below.refl _ _) | (with_reducible assumption) | ((with_reducible refine Below.setCell ?_ ?_ _); rotate_left; (focus (first | omega | (simp; done) | (simp; omega)))) | ((with_reducible refine Below.alloc ?_ ?_ _); rotate_left; (focus (first | omega | (simp; done) | (simp; omega)))) | (with_reducible refine Below.drew ?_) | (refine below_on ?_ (by assumption))))⟩ fun W0 ⟨z0, z1, z2, z3, hB⟩ => ?_
  refine loop_abs (fun a' W => ∃ v : Nat → Value, (a' = { tmps := #[.agg #[.bool (s), .int .u64 (dg (a) 0), .int .u64 (dg (a) 1), .int .u64 (dg (a) 2), .int .u64 (dg (a) 3)], .int .i64 many, .pointer (some ⟨w.heap.size, 0, none⟩), .pointer (some ⟨w.heap.size + 1, 0, none⟩), .pointer (some ⟨w.heap.size + 2, 0, none⟩), .pointer (some ⟨w.heap.size + 3, 0, none⟩), v 6, undef, undef, undef, undef, v 11, v 12, v 13, v 14, v 15, v 16, v 17, v 18, v 19, v 20, v 21, v 22, v 23, v 24, v 25, v 26, v 27, v 28, v 29, v 30, v 31, v 32, v 33, undef, undef, undef, undef, undef, undef, undef, undef, undef, undef, undef, undef, undef, undef, undef, undef, undef, undef, undef, undef, undef, undef, undef, undef, undef, undef, undef, undef, undef, undef, undef, undef, undef, undef, undef, undef, undef, undef, undef, undef, undef, undef, undef, undef, undef, undef, undef, undef, undef, undef, undef, undef, undef, undef], defers := [] }) ∧ W.heap[w.heap.size]? = some (.cells #[.bool (s), .int .u64 (dg (a) 0), .int .u64 (dg (a) 1), .int .u64 (dg (a) 2), .int .u64 (dg (a) 3)] 25 (0, 0)) ∧ W.heap[w.heap.size + 1]? = some (.cells #[.int .i64 many] 3 (0, 0)) ∧ W.heap[w.heap.size + 2]? = some (.cells #[.bool false] 4 (0, 0)) ∧ WantAt W (w.heap.size + 4) (w.heap.size + 3) (bitsTo a (topN a)) ∧ Below w.heap.size w W) ?_ ?_
  rotate_left
  · clear z0 z1 z2 z3 hB
    rintro a' W1 ⟨v, rfl, z0, z1, z2, z3, hB⟩
    have c0 := cell_at z0
    go_wp2_with fail
    refine (bits_any s a _).mono ?_
    rintro e wc ⟨bs, rfl, hbs, hge, hb⟩
    have HZ1 := Hd.mk (heap_below hb z1)
    have HZ2 := Hd.mk (heap_below hb z2)
    obtain ⟨vw, hz3, hown⟩ := z3.below hb
    obtain ⟨A, cap, rfl, hA⟩ := want_open hown
    have HZ3 := Hd.mk hz3
    have HA3 := Hd.mk hA
    have HBC := Hd.mk (below_on hB hb)
    have hln := bitsTo_len a (topN a)
    have hl256 : (bitsTo a (topN a)).length ≤ 256 := Nat.le_trans hln (topN_le HA.out)
    have hwc : w.heap.size + 3 < wc.heap.size := lt_of_block hz3
    have hbsl := lt_of_block hbs
    have HBS := Hd.mk hbs
    clear z0 z1 z2 z3 hB hb hown hz3 hA hln hbs c0
    obtain ⟨L, hL⟩ : ∃ L, L = bitsTo a (topN a) := ⟨_, rfl⟩
    rw [← hL] at HZ3 HA3 hl256
    have HL := Hd.mk hL
    clear hL
    go_wp2
    refine wp_loop_ghost_k (fun gk a' W => ∃ t bt : Nat, ∃ ds : List Nat, ∃ v : Nat → Value, (a' = { tmps := #[.agg #[.bool (s), .int .u64 (dg (a) 0), .int .u64 (dg (a) 1), .int .u64 (dg (a) 2), .int .u64 (dg (a) 3)], .int .i64 many, .pointer (some ⟨w.heap.size, 0, none⟩), .pointer (some ⟨w.heap.size + 1, 0, none⟩), .pointer (some ⟨w.heap.size + 2, 0, none⟩), .pointer (some ⟨w.heap.size + 3, 0, none⟩), v 6, .func (.func 66) #[] #[.pointer (some ⟨bs, 0, none⟩)], .pointer (some ⟨bt, 0, none⟩), v 9, v 10, v 11, v 12, v 13, v 14, v 15, v 16, v 17, v 18, v 19, v 20, v 21, v 22, v 23, v 24, v 25, v 26, v 27, v 28, v 29, v 30, v 31, v 32, v 33, v 34, v 35, v 36, v 37, v 38, v 39, v 40, v 41, v 42, v 43, v 44, v 45, v 46, v 47, v 48, v 49, v 50, v 51, v 52, v 53, v 54, v 55, v 56, v 57, v 58, v 59, v 60, v 61, v 62, v 63, v 64, v 65, v 66, v 67, v 68, v 69, v 70, v 71, v 72, v 73, v 74, v 75, v 76, v 77, v 78, v 79, v 80, v 81, v 82, v 83, v 84, v 85, v 86, v 87], defers := List.map coll ds }) ∧ t + gk = 2 ∧ ds.length = t ∧ ds.Nodup ∧ wc.heap.size ≤ bt ∧ W.heap[bt]? = some (.cells #[.int .i64 t] 3 (0, 0)) ∧ (∀ D ∈ ds, wc.heap.size ≤ D ∧ W.heap[D]? = some (.deferred (some []))) ∧ Below wc.heap.size wc W) 2 ?_ ?_
    · refine ⟨0, wc.heap.size, [], ex_frame ?_⟩
      exact ⟨rfl, rfl, rfl, List.nodup_nil, Nat.le_refl _, heap_new _ _, (fun D h => absurd h (by simp)), by focus (repeat (first | (with_reducible exact Below.refl _ _) | (with_reducible assumption) | ((with_reducible refine Below.setCell ?_ ?_ _); rotate_left; (focus (first | omega | (simp; done) | (simp; omega)))) | ((with_reducible refine Below.alloc ?_ ?_ _); rotate_left; (focus (first | omega | (simp; done) | (simp; omega)))) | (with_reducible refine Below.drew ?_) | (refine below_on ?_ (by assumption))))⟩
    rintro gk a' W ⟨t, bt, ds, v, rfl, htk, hdl, hnd, hbt, ht, hds, hBW⟩
    intro J K hJ hK
    have ct := cell_at ht
    have ft := frozen_at ht
    have hnf : ∀ (b : Nat) (W : World), (binOp .eql 54 (.func (.func 66) #[] #[.pointer (some ⟨b, 0, none⟩)]) .nilFunc).run Try.prog W = .ok (.bool false) W := fun _ _ => rfl
    by_cases ht2 : t < 2
    · have hd1 : decide ((t : Int) < 2) = true := by simp; omega
      have hbtl := lt_of_block ht
      go_upto_region 14 with (fail)
      refine abs_wp (fun W' => W'.heap[W.heap.size]? = some (.cells #[.int .i64 0] 3 (0, 0)) ∧ W'.heap[bt]? = some (.cells #[.int .i64 t] 3 (0, 0)) ∧ (∀ D ∈ ds, wc.heap.size ≤ D ∧ W'.heap[D]? = some (.deferred (some []))) ∧ Below wc.heap.size wc W') ⟨heap_new _ _, heap_old ht _, fun D hD => ⟨(hds D hD).1, heap_old (hds D hD).2 _⟩, by focus (repeat (first | (with_reducible exact Below.refl _ _) | (with_reducible assumption) | ((with_reducible refine Below.setCell ?_ ?_ _); rotate_left; (focus (first | omega | (simp; done) | (simp; omega)))) | ((with_reducible refine Below.alloc ?_ ?_ _); rotate_left; (focus (first | omega | (simp; done) | (simp; omega)))) | (with_reducible refine Below.drew ?_) | (refine below_on ?_ (by assumption))))⟩ fun W2 ⟨x9, xt, xds, xB⟩ => ?_
      have HT := Hd.mk ht
      have HWW := Hd.mk hBW
      clear ht ct ft hds hBW
      go_wp2
      have h9l := lt_of_block x9
      have hdl2 : ∀ D ∈ ds, D < W2.heap.size := fun D hD => lt_of_block (xds D hD).2
      refine loop_abs (fun a' W' => ∃ (m D : Nat), ∃ v : Nat → Value, (a' = { tmps := #[.agg #[.bool (s), .int .u64 (dg (a) 0), .int .u64 (dg (a) 1), .int .u64 (dg (a) 2), .int .u64 (dg (a) 3)], .int .i64 many, .pointer (some ⟨w.heap.size, 0, none⟩), .pointer (some ⟨w.heap.size + 1, 0, none⟩), .pointer (some ⟨w.heap.size + 2, 0, none⟩), .pointer (some ⟨w.heap.size + 3, 0, none⟩), v 6, .func (.func 66) #[] #[.pointer (some ⟨bs, 0, none⟩)], .pointer (some ⟨bt, 0, none⟩), .pointer (some ⟨W.heap.size, 0, none⟩), v 10, v 11, v 12, v 13, v 14, v 15, v 16, v 17, v 18, v 19, v 20, v 21, v 22, v 23, v 24, v 25, v 26, v 27, v 28, v 29, v 30, v 31, v 32, v 33, v 34, v 35, .int .i64 t, .bool true, v 38, v 39, .func (.func 66) #[] #[.pointer (some ⟨bs, 0, none⟩)], .bool false, .func (.func 66) #[] #[.pointer (some ⟨bs, 0, none⟩)], v 43, v 44, v 45, v 46, v 47, v 48, v 49, v 50, v 51, v 52, v 53, v 54, v 55, v 56, v 57, v 58, v 59, v 60, v 61, v 62, v 63, v 64, v 65, v 66, v 67, v 68, v 69, v 70, v 71, v 72, v 73, v 74, v 75, v 76, v 77, v 78, v 79, v 80, v 81, v 82, v 83, v 84, v 85, v 86, v 87], defers := coll D :: List.map coll ds }) ∧ D ∉ ds ∧ PostN L t many m ∧ W'.heap[W.heap.size]? = some (.cells #[.int .i64 m] 3 (0, 0)) ∧ W'.heap[bt]? = some (.cells #[.int .i64 t] 3 (0, 0)) ∧ (∀ D' ∈ D :: ds, wc.heap.size ≤ D' ∧ W'.heap[D']? = some (.deferred (some []))) ∧ Below wc.heap.size wc W') ?_ ?_
      · refine (wpIn_wide (n := 6)).1 ?_
        refine wpIn_rangeFunc_ownG rfl (by omega) (gf := 66) (lb := #[.pointer (some ⟨bs, 0, none⟩)]) rfl trivial (enters_of Try.func66 (by kernel_rfl) rfl)
          (bits_stops a HA.out _ (by omega) bs W.heap.size (by omega) W2 (by omega) ((xB.block _ hbsl).trans HBS.out)) belowK_t (belowK_b (by omega)) (Below.refl _ _) (fun _ => rfl)
          (fun pre W' => (pre <+: L ∧ (t = 0 → pre = [] ∨ (pre.length : Int) < many) ∧ W'.heap[W.heap.size]? = some (.cells #[.int .i64 (pre.length : Nat)] 3 (0, 0)) ∧ W'.heap[bt]? = some (.cells #[.int .i64 t] 3 (0, 0)) ∧ (∀ D ∈ ds, wc.heap.size ≤ D ∧ W'.heap[D]? = some (.deferred (some [])))) ∧ Below wc.heap.size wc W')
          (fun c pre W' => (c = .ret ∧ ¬ pre <+: L) ∨ ((c = .exit 4 ∧ PostN L t many pre.length ∧ W'.heap[W.heap.size]? = some (.cells #[.int .i64 (pre.length : Nat)] 3 (0, 0)) ∧ W'.heap[bt]? = some (.cells #[.int .i64 t] 3 (0, 0)) ∧ (∀ D ∈ ds, wc.heap.size ≤ D ∧ W'.heap[D]? = some (.deferred (some [])))) ∧ Below wc.heap.size wc W'))
          (OwnFrom.and (fun s A B row hs hg hr => ⟨hs.1, hs.2.1, own_block hs.2.2.1 hg hr h9l, own_block hs.2.2.2.1 hg hr (by omega), fun D hD => ⟨(hs.2.2.2.2 D hD).1, own_block (hs.2.2.2.2 D hD).2 hg hr (hdl2 D hD)⟩⟩) (ownFrom_below (Nat.le_refl _) (by omega)))
          (fun c s A B row hs hg hr => by
            rcases hs with hs | ⟨hs, hb⟩
            · exact .inl hs
            · exact .inr ⟨⟨hs.1, hs.2.1, own_block hs.2.2.1 hg hr h9l, own_block hs.2.2.2.1 hg hr (by omega), fun D hD => ⟨(hs.2.2.2.2 D hD).1, own_block (hs.2.2.2.2 D hD).2 hg hr (hdl2 D hD)⟩⟩, ownFrom_below (β := Unit) (Nat.le_refl _) (B := W2.heap.size) (by omega) () A B row hb hg hr⟩)
          ⟨⟨List.nil_prefix, fun _ => .inl rfl, x9, xt, xds⟩, xB⟩
          (fun x : Nat => { tmps := #[.agg #[.bool (s), .int .u64 (dg (a) 0), .int .u64 (dg (a) 1), .int .u64 (dg (a) 2), .int .u64 (dg (a) 3)], .int .i64 many, .pointer (some ⟨w.heap.size, 0, none⟩), .pointer (some ⟨w.heap.size + 1, 0, none⟩), .pointer (some ⟨w.heap.size + 2, 0, none⟩), .pointer (some ⟨w.heap.size + 3, 0, none⟩), v 6, .func (.func 66) #[] #[.pointer (some ⟨bs, 0, none⟩)], .pointer (some ⟨bt, 0, none⟩), .pointer (some ⟨W.heap.size, 0, none⟩), .int .i64 (x : Nat), v 11, v 12, v 13, v 14, v 15, v 16, v 17, v 18, v 19, v 20, v 21, v 22, v 23, v 24, v 25, v 26, v 27, v 28, v 29, v 30, v 31, v 32, v 33, v 34, v 35, .int .i64 t, .bool true, v 38, v 39, .func (.func 66) #[] #[.pointer (some ⟨bs, 0, none⟩)], .bool false, .func (.func 66) #[] #[.pointer (some ⟨bs, 0, none⟩)], .int .i64 (x : Nat), v 44, v 45, v 46, v 47, v 48, v 49, v 50, v 51, v 52, v 53, v 54, v 55, v 56, v 57, v 58, v 59, v 60, v 61, v 62, v 63, v 64, v 65, v 66, v 67, v 68, v 69, v 70, v 71, v 72, v 73, v 74, v 75, v 76, v 77, v 78, v 79, v 80, v 81, v 82, v 83, v 84, v 85, v 86, v 87], defers := [] }) ?assign ?body ?done ?stop
        case assign =>
          intro l x W K hK
          gi_wp2
          exact hK
        case body =>
          rintro l pre x W' ⟨⟨hp, hm, y9, yt, yds⟩, yB⟩ _
          have hpl := hp.length_le
          have c1 := cell_at ((yB.block _ (by omega)).trans HZ1.out)
          have x2 := (yB.block _ (by omega)).trans HZ2.out
          have c2 := cell_at x2
          have f2 := frozen_at x2
          have c3 := cell_at ((yB.block _ (by omega)).trans HZ3.out)
          have c9 := cell_at y9
          have f9 := frozen_at y9
          have ct := cell_at yt
          have HYT := Hd.mk yt
          have HYD := Hd.mk yds
          have HYB := Hd.mk yB
          have HY9 := Hd.mk y9
          have HP := Hd.mk hp
          have HM := Hd.mk hm
          clear yt yds yB y9 hp hm x2
          by_cases hlt : pre.length < L.length
          · have hg1 : decide (L.length ≤ pre.length) = false := by simp; omega
            have hg2 : decide ((pre.length : Int) ≥ (L.length : Int)) = false := by simp; omega
            obtain ⟨g, cur, hAg, hg, hcur⟩ := HA3.out (by omega)
            subst hAg
            obtain ⟨c, hc⟩ : ∃ c, L[pre.length]? = some c := ⟨_, List.getElem?_eq_getElem hlt⟩
            have hw1 := (cell_at ((HYB.out.block g (lt_of_block hg)).trans hg) pre.length).trans (hcur _ _ hc)
            have HC := Hd.mk hc
            clear hcur hc hg
            dsimp only
            by_cases hxc : x = c
            · subst hxc
              have n1 : bt ≠ W.heap.size := by omega
              have n2 : w.heap.size + 1 ≠ W.heap.size := by omega
              have hp1 : (pre.length : Int) < 256 := by omega
              have kB := Hd.mk (HYB.out.setCell (p := ⟨W.heap.size, 0, none⟩) (by show wc.heap.size ≤ W.heap.size; omega) (.int .i64 ((pre.length : Int) + 1)))
              have kT := Hd.mk (heap_set_other HYT.out (p := ⟨W.heap.size, 0, none⟩) n1 (.int .i64 ((pre.length : Int) + 1)))
              have k9 := Hd.mk (bump HY9.out x)
              have kP := Hd.mk (prefix_snoc HP.out HC.out)
              have kD : Hd (∀ D ∈ ds, wc.heap.size ≤ D ∧ (W'.setCell ⟨W.heap.size, 0, none⟩ (.int .i64 ((pre.length : Int) + 1))).heap[D]? = some (.deferred (some []))) := ⟨fun D hD => ⟨(HYD.out D hD).1, heap_set_other (HYD.out D hD).2 (ne_of_cells HY9.out (HYD.out D hD).2) _⟩⟩
              by_cases h0 : t = 0
              · have ht0 : ((t : Int) == 0) = true := by simp; omega
                have HT0 := Hd.mk h0
                clear h0
                by_cases hmn : many ≤ (pre.length : Int) + 1
                · have g1 : decide ((pre.length : Int) + 1 ≥ many) = true := by simpa using hmn
                  have kPN : Hd (PostN L t many (pre ++ [x]).length) := ⟨post_break kP.out (HM.out HT0.out) hmn HT0.out⟩
                  clear hmn
                  gi_wp2
                  exact ⟨(KeepsOthers.setCell _ _ _).from _, .inr ⟨⟨rfl, kPN.out, k9.out, kT.out, kD.out⟩, kB.out⟩⟩
                · have g1 : decide ((pre.length : Int) + 1 ≥ many) = false := by simpa using hmn
                  have kM : Hd (t = 0 → pre ++ [x] = [] ∨ (((pre ++ [x]).length : Nat) : Int) < many) := ⟨fun _ => .inr (by simp; omega)⟩
                  clear hmn
                  gi_wp2
                  exact ⟨(KeepsOthers.setCell _ _ _).from _, (Below.refl W.heap.size W').setCell (p := ⟨W.heap.size, 0, none⟩) (Nat.le_refl _) _, ⟨kP.out, kM.out, k9.out, kT.out, kD.out⟩, kB.out⟩
              · have ht0 : ((t : Int) == 0) = false := by simp; omega
                have kM : Hd (t = 0 → pre ++ [x] = [] ∨ (((pre ++ [x]).length : Nat) : Int) < many) := ⟨fun h => absurd h h0⟩
                clear h0
                gi_wp2
                exact ⟨(KeepsOthers.setCell _ _ _).from _, (Below.refl W.heap.size W').setCell (p := ⟨W.heap.size, 0, none⟩) (Nat.le_refl _) _, ⟨kP.out, kM.out, k9.out, kT.out, kD.out⟩, kB.out⟩
            · have hne : ((x : Int) != (c : Int)) = true := by simp; omega
              have HX := Hd.mk hxc
              clear hxc
              gi_wp2
              exact ⟨(KeepsOthers.setCell _ _ _).from _, .inl ⟨rfl, fun h => HX.out (snoc_prefix h HC.out)⟩⟩
          · have hg1 : decide (L.length ≤ pre.length) = true := by simp; omega
            have hg2 : decide ((pre.length : Int) ≥ (L.length : Int)) = true := by simp; omega
            dsimp only
            gi_wp2
            exact ⟨(KeepsOthers.setCell _ _ _).from _, .inl ⟨rfl, fun h => hlt (snoc_long h)⟩⟩
        case done =>
          rintro D ys W' hD rfl ⟨⟨hp, hm, y9, yt, yds⟩, yB⟩ hK
          rw [← HL.out] at hm y9
          unfold Exit.inBlock Exit.then
          dsimp only
          refine ⟨L.length, D, ex_frame ⟨rfl, (fun h => by have := hdl2 _ h; omega), ⟨?_, fun _ => rfl⟩, y9, yt, ?_, yB⟩⟩
          · intro h0
            rcases hm h0 with h1 | h1
            · rw [h1]
              simp only [List.length_nil]
              omega
            · omega
          · intro D' hD'
            rcases List.mem_cons.1 hD' with rfl | h1
            · exact ⟨by omega, hK⟩
            · exact yds D' h1
        case stop =>
          rintro D c pre W' hD hsp hix hK
          rw [← HL.out] at hsp
          rcases hix with ⟨rfl, hn⟩ | ⟨⟨rfl, hpn, y9, yt, yds⟩, yB⟩
          · exact absurd hsp hn
          · refine wpIn_exit ?_
            unfold Exit.inBlock Exit.then
            dsimp only
            rw [if_pos rfl]
            refine ⟨pre.length, D, ex_frame ⟨rfl, (fun h => by have := hdl2 _ h; omega), hpn, y9, yt, ?_, yB⟩⟩
            intro D' hD'
            rcases List.mem_cons.1 hD' with rfl | h1
            · exact ⟨by omega, hK⟩
            · exact yds D' h1
      · rintro a' W3 ⟨m, D, v, rfl, hDd, hpost, z9, zt, zds, zB⟩
        have c1 := cell_at ((zB.block _ (by omega)).trans HZ1.out)
        have c3 := cell_at ((zB.block _ (by omega)).trans HZ3.out)
        have c9 := cell_at z9
        have ct := cell_at zt
        have ft := frozen_at zt
        have HTT := Hd.mk zt
        have HZD := Hd.mk zds
        have HZB := Hd.mk zB
        have HPN := Hd.mk hpost
        clear zt zds zB z9 hpost
        by_cases h0 : t = 0
        · subst h0
          have hmn := HPN.out.1 rfl
          clear HPN
          by_cases h1 : 1 < many
          · have g1 : decide (1 < many) = true := by simpa using h1
            by_cases h2 : many < (L.length : Int)
            · have hme : (m : Int) = many := by omega
              clear hmn
              go_wp2
              exact Handed.intro (gk - 1) (by omega) (hJ _ _ _ ⟨1, W3.heap.size, D :: ds, ex_frame ⟨rfl, by omega, by rw [List.length_cons, hdl], List.nodup_cons.2 ⟨hDd, hnd⟩, HZB.out.size, heap_new _ _, fun D' hD' => ⟨(HZD.out D' hD').1, heap_old (HZD.out D' hD').2 _⟩, HZB.out.alloc HZB.out.size _⟩⟩)
            · obtain rfl : m = L.length := by omega
              clear hmn
              go_wp2
              exact Handed.intro (gk - 1) (by omega) (hJ _ _ _ ⟨1, W3.heap.size, D :: ds, ex_frame ⟨rfl, by omega, by rw [List.length_cons, hdl], List.nodup_cons.2 ⟨hDd, hnd⟩, HZB.out.size, heap_new _ _, fun D' hD' => ⟨(HZD.out D' hD').1, heap_old (HZD.out D' hD').2 _⟩, HZB.out.alloc HZB.out.size _⟩⟩)
          · by_cases h2 : 1 < L.length
            · obtain rfl : m = 1 := by omega
              have g2 : (1 : Int) < (L.length : Int) := by omega
              clear hmn
              go_wp2
              exact Handed.intro (gk - 1) (by omega) (hJ _ _ _ ⟨1, W3.heap.size, D :: ds, ex_frame ⟨rfl, by omega, by rw [List.length_cons, hdl], List.nodup_cons.2 ⟨hDd, hnd⟩, HZB.out.size, heap_new _ _, fun D' hD' => ⟨(HZD.out D' hD').1, heap_old (HZD.out D' hD').2 _⟩, HZB.out.alloc HZB.out.size _⟩⟩)
            · obtain rfl : m = L.length := by omega
              have g2 : ¬ (1 : Int) < (L.length : Int) := by omega
              clear hmn
              go_wp2
              exact Handed.intro (gk - 1) (by omega) (hJ _ _ _ ⟨1, W3.heap.size, D :: ds, ex_frame ⟨rfl, by omega, by rw [List.length_cons, hdl], List.nodup_cons.2 ⟨hDd, hnd⟩, HZB.out.size, heap_new _ _, fun D' hD' => ⟨(HZD.out D' hD').1, heap_old (HZD.out D' hD').2 _⟩, HZB.out.alloc HZB.out.size _⟩⟩)
        · obtain rfl : t = 1 := by omega
          obtain rfl := HPN.out.2 (by simp)
          clear HPN
          go_wp2
          exact Handed.intro (gk - 1) (by omega) (hJ _ _ _ ⟨2, W3.heap.size, D :: ds, ex_frame ⟨rfl, by omega, by rw [List.length_cons, hdl], List.nodup_cons.2 ⟨hDd, hnd⟩, HZB.out.size, heap_new _ _, fun D' hD' => ⟨(HZD.out D' hD').1, heap_old (HZD.out D' hD').2 _⟩, HZB.out.alloc HZB.out.size _⟩⟩)
    · obtain rfl : t = 2 := by omega
      have hd1 : decide (((2 : Nat) : Int) < 2) = false := by decide
      go_wp2_with fail
      refine (works_any _).mono ?_
      rintro e wz ⟨rfl, hb⟩
      obtain ⟨D2, D1, rfl⟩ := len_two hdl
      have d2 := hds D2 (by simp)
      have d1 := hds D1 (by simp)
      have x2 := heap_below hb ((hBW.block _ (by omega)).trans HZ2.out)
      have y2 := heap_below hb d2.2
      have y1 := heap_below hb d1.2
      have hBz := below_on (HBC.out.trans (hBW.mono HBC.out.size)) hb
      have q2 := cell_at x2
      have f2 := frozen_at x2
      clear ht ct ft hds hBW hb hdl
      have HB2 := Hd.mk (hBz.setCell (p := ⟨w.heap.size + 2, 0, none⟩) (by simp) (.bool true))
      clear hBz
      go_wp2
      have hn21 : D1 ≠ D2 := by simp at hnd; exact fun h => hnd h.symm
      have r2 : (wz.setCell ⟨w.heap.size + 2, 0, none⟩ (.bool true)).heap[D2]? = some (.deferred (some [])) := heap_set_other y2 (by simp; omega) _
      have r1 : (wz.setCell ⟨w.heap.size + 2, 0, none⟩ (.bool true)).heap[D1]? = some (.deferred (some [])) := heap_set_other y1 (by simp; omega) _
      have hB2 := HB2.out
      have k2 := cell_at (heap_put (heap_put ((heap_set x2 0 (.bool true)).trans (by rfl)) (D := D2) (by omega) (.deferred none)) (D := D1) (by omega) (.deferred none))
      refine ⟨by simp, .inl ⟨_, _, rfl, run_takeDeferred r2, ?_⟩⟩
      refine ⟨by simp, .inl ⟨_, _, rfl, run_takeDeferred (heap_put r1 hn21 _), ?_⟩⟩
      refine ⟨.bool true, ?_, rfl, below_put (below_put hB2 (by omega) _) (by omega) _⟩
      simp [results, Try.f5, go_sem, k2]
  go_loopw [6] (fun iv wr => ∃ k : Nat, k ≤ 256 ∧ iv = .int .i64 k ∧ (r = false → k = 0) ∧ wr.heap[w.heap.size]? = some (.cells #[.bool (s), .int .u64 (dg (a) 0), .int .u64 (dg (a) 1), .int .u64 (dg (a) 2), .int .u64 (dg (a) 3)] 25 (0, 0)) ∧ wr.heap[w.heap.size + 1]? = some (.cells #[.int .i64 many] 3 (0, 0)) ∧ wr.heap[w.heap.size + 2]? = some (.cells #[.bool false] 4 (0, 0)) ∧ WantAt wr (w.heap.size + 4) (w.heap.size + 3) (bitsTo a k) ∧ Below w.heap.size w wr) (fun iv _ => 256 - (intOf iv).toNat)
  case atStart => exact ⟨0, Nat.zero_le _, rfl, fun _ => rfl, z0, z1, z2, z3, hB⟩
  case round =>
    clear z0 z1 z2 z3 hB
    obtain ⟨k, hk, rfl, hr0, z0, z1, z2, z3, hB⟩ := hrel
    have c0 := cell_at z0
    have HR0 := Hd.mk hr0
    clear hr0
    by_cases hlt : k < 256
    · have hd1 : decide ((k : Int) < 256) = true := by simp; omega
      go_wp2_with fail
      refine (rright_r s a r HA.out HR.out _).mono ?_
      rintro e wq ⟨rfl, hb⟩
      have y0 := heap_below hb z0
      have y1 := heap_below hb z1
      have y2 := heap_below hb z2
      have y3 := z3.below hb
      have hBq := below_on hB hb
      clear z0 z1 z2 z3 hB hb c0
      cases r with
      | false =>
        have h0 := HR0.out rfl
        subst h0
        have hbad := bad_nought HR.out
        subst hbad
        go_wp2_with fail
        exact ex_frame ⟨rfl, y0, y1, y2, y3, hBq⟩
      | true =>
        go_upto_region 5 with (fail)
        have c0 := cell_at y0
        refine region_any (fun a0 a' w' => ∃ u19 u20 u21 u22 u23 u24 u25 u26 u27 u28, a' = (Act.put (Act.put (Act.put (Act.put (Act.put (Act.put (Act.put (Act.put (Act.put (Act.put (Act.put a0 (some 19) u19) (some 20) u20) (some 21) u21) (some 22) u22) (some 23) u23) (some 24) u24) (some 25) u25) (some 26) u26) (some 27) u27) (some 28) u28) (some 29) (.bool (bitN a k == 1))) ∧ w' = wq) ?_ ?_
        · clear y0 y1 y2 y3 hBq HR0 HR
          have hbd := bit_dg a k
          have h0 : (0 : Int) ≤ k := by omega
          have h1 : (k : Int) < 256 := by omega
          have hm0 : (0 : Int) ≤ (k : Int) % 64 := by omega
          have hm1 : (k : Int) % 64 < 64 := by omega
          obtain hq | hq | hq | hq : (k : Int) / 64 = 0 ∨ (k : Int) / 64 = 1 ∨ (k : Int) / 64 = 2 ∨ (k : Int) / 64 = 3 := by omega
          all_goals
            have HB := Hd.mk hbd
            clear hbd hlt hk
            go_wp2
            refine tmod_bit _ _ _ _ ?_
            have hqn : k / 64 = Int.toNat ((k : Int) / 64) := by omega
            rw [← HB.out, hqn, hq]
            rfl
        · rintro a' w5 ⟨u19, u20, u21, u22, u23, u24, u25, u26, u27, u28, rfl, rfl⟩
          simp only [Act.put, List.setIfInBounds_toArray, List.set_cons_succ, List.set_cons_zero]
          by_cases hb1 : bitN a k = 1
          · have hbe : (bitN a k == 1) = true := by simp [hb1]
            have HY := Hd.mk (bitsTo_yes hb1)
            clear hb1
            go_upto_region 6 with (fail)
            obtain ⟨v, y3, hown⟩ := y3
            have hln := Nat.le_trans (bitsTo_len a k) hk
            have HLN := Hd.mk hln
            have hc := cell_at y3 0
            have hf := frozen_at y3
            simp only [List.getElem?_toArray, List.getElem?_cons_zero] at hc
            obtain ⟨i0, hi, hz0, hz1, hz2⟩ := info_parts infoWord
            have hu : Try.prog.underlying 51 = some (.slice 3) := by kernel_rfl
            have hsz := lt_of_block y3
            have HY0 := Hd.mk y0
            have HY1 := Hd.mk y1
            have HY2 := Hd.mk y2
            have HY3 := Hd.mk y3
            have HBQ := Hd.mk hBq
            have HLT := Hd.mk hlt
            clear y0 y1 y2 y3 hBq c0 HR HR0 hlt hd1 hk
            go_wp2_with (at_builtin; refine wpList_append_own_at _ rfl (.tmp 30) (.tmp 32) 51 rfl (w.heap.size + 4) 3 i0 (.int .i64 0) 1 8 hu hi hz0 hz1 hz2 rfl (by decide) v (bitsTo a k).length (natsV (bitsTo a k)) rfl (hown.alloc _) ⟨w5.heap.size, 0, none⟩ 1 1 [.int .i64 k] rfl rfl (cell_one_new _ _ _) ?c2 ?b1 ?b2 ?b3 ?go)
            case c2 => intro u hu; simp at hu; subst hu; rfl
            case b1 => unfold maxLen; omega
            case b2 => omega
            case b3 => simp; omega
            case go =>
              intro v' w1 hown' hgrow _ hat
              have hr : ∀ k, v.ownBlock = some k → w.heap.size + 4 ≤ k := fun k hk => own_ge hown hk
              have hold : ∀ k o, some k ≠ v.ownBlock → w5.heap[k]? = some o → w1.heap[k]? = some o := fun k o hk ho =>
                (hgrow.block k (by have := lt_of_block ho; simp; omega) hk).trans (heap_old ho _)
              have x0 := hold _ _ (fun e => by have := hr _ e.symm; omega) HY0.out
              have x1 := hold _ _ (fun e => by have := hr _ e.symm; omega) HY1.out
              have x2 := hold _ _ (fun e => by have := hr _ e.symm; omega) HY2.out
              have x3 := hold _ _ (fun e => by have := hr _ e.symm; omega) HY3.out
              have hb : Below w.heap.size w w1 := HBQ.out.trans ((Below.alloc (Below.refl w.heap.size w5) (by omega) _).trans (below_grown hgrow (fun k hk => by have := hr k hk; omega) (by simp; omega)))
              have hc1 : w1.cell? ⟨w.heap.size + 3, 0, none⟩ = some v := cell_at x3 0
              have hf1 := frozen_at x3
              obtain ⟨g, cap, hv'⟩ : ∃ g cap, v' = .slice (some ⟨g, 0, none⟩) ((bitsTo a k).length + 1) cap := by
                rcases hown'.2 with ⟨_, h0⟩ | ⟨g, cap, cur, h1, _⟩
                · omega
                · exact ⟨g, cap, h1⟩
              subst hv'
              have X0 := Hd.mk (heap_set_other x0 (p := ⟨w.heap.size + 3, 0, none⟩) (by simp) (.slice (some ⟨g, 0, none⟩) ((bitsTo a k).length + 1) cap))
              have X1 := Hd.mk (heap_set_other x1 (p := ⟨w.heap.size + 3, 0, none⟩) (by simp) (.slice (some ⟨g, 0, none⟩) ((bitsTo a k).length + 1) cap))
              have X2 := Hd.mk (heap_set_other x2 (p := ⟨w.heap.size + 3, 0, none⟩) (by simp) (.slice (some ⟨g, 0, none⟩) ((bitsTo a k).length + 1) cap))
              obtain ⟨l1, l2, l3⟩ := laid_one (w.heap.size + 3) w1 (.slice (some ⟨g, 0, none⟩) ((bitsTo a k).length + 1) cap)
              have X3 : Hd (WantAt _ (w.heap.size + 4) (w.heap.size + 3) (bitsTo a (k + 1))) := ⟨_, l1 x3 rfl, by
                rw [HY.out, List.length_append]
                unfold natsV
                rw [List.map_append]
                exact own_laid hown' (by omega) _⟩
              have XB := Hd.mk (hb.trans (l3 w.heap.size (by omega)))
              clear hf hc hgrow hown' hold hb hown hr hi hz0 hz1 hz2 hu hat x0 x1 x2 x3 l1 l2 l3 HY0 HY1 HY2 HY3 HBQ
              have hlt := HLT.out
              go_wp2
              go_roundw
              case rel => exact ⟨k + 1, HLT.out, by go_num, fun h => (by cases h), X0.out, X1.out, X2.out, X3.out, XB.out⟩
              case measure => have := HLT.out; simp [intOf]; omega
          · have hbe : (bitN a k == 1) = false := by simp [hb1]
            have HY := Hd.mk (bitsTo_no hb1)
            clear hb1
            go_wp2
            go_roundw
            case rel => exact ⟨k + 1, hlt, by go_num, fun h => (by cases h), y0, y1, y2, by rw [HY.out]; exact y3, hBq⟩
            case measure => simp [intOf]; omega
    · obtain rfl : k = 256 := by omega
      have hd1 : decide (((256 : Nat) : Int) < 256) = false := by decide
      have z3 := bitsTo_all HA.out ▸ z3
      go_wp2_with fail
      exact ex_frame ⟨rfl, z0, z1, z2, z3, hB⟩
end Go.Proofs.Yteibcklcegkbcaa
