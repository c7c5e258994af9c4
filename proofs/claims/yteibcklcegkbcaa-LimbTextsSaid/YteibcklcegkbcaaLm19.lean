/-
  Walks: Gcd. Conditions stand in each theorem.
-/
import Derived.Test.YteibcklcegkbcaaLm18
namespace Go.Proofs.Yteibcklcegkbcaa
open Go.RowKit Go.BigFrame

/-- The number that a block holds. -/
def magOf (b : Nat) (W : World) : Nat :=
  match W.heap[b]? with
  | some (.cells c _ _) => mg (intOf (c.getD 0 undef)) (intOf (c.getD 1 undef)) (intOf (c.getD 2 undef)) (intOf (c.getD 3 undef))
  | _ => 0
theorem magOf_eq {b n : Nat} {W : World} {t : TypeId} {f : Nat × Nat} (hn : n < 2 ^ 256) (h : W.heap[b]? = some (.cells #[.int .u64 (dg (n) 0), .int .u64 (dg (n) 1), .int .u64 (dg (n) 2), .int .u64 (dg (n) 3)] t f)) : magOf b W = n := by
  unfold magOf
  rw [h]
  exact mg_dg hn
/-- Four cells of a block are laid. -/
def Laid4 (b : Nat) (v : Array Value) (W w' : World) : Prop :=
  (∀ {c : Array Value} {t : TypeId}, W.heap[b]? = some (.cells c t (0, 0)) → c.size = 4 → w'.heap[b]? = some (.cells v t (0, 0))) ∧ (∀ k o, k ≠ b → W.heap[k]? = some o → w'.heap[k]? = some o) ∧ ∀ n, n ≤ b → Below n W w'
theorem four_of {c : Array Value} (hs : c.size = 4) : ∃ c0 c1 c2 c3, c = #[c0, c1, c2, c3] := by
  obtain ⟨l⟩ := c
  match l, hs with
  | [a, b, c, d], _ => exact ⟨a, b, c, d, rfl⟩
theorem laid_four (b : Nat) (W : World) (v0 v1 v2 v3 : Value) : Laid4 b #[v0, v1, v2, v3] W ((((W.setCell ⟨b, 0, none⟩ v0).setCell ⟨b, 1, none⟩ v1).setCell ⟨b, 2, none⟩ v2).setCell ⟨b, 3, none⟩ v3) := by
  refine ⟨fun {c t} h hs => ?_, fun k o hk h => ?_, fun n hn => ?_⟩
  · obtain ⟨c0, c1, c2, c3, rfl⟩ := four_of hs
    have := heap_set (heap_set (heap_set (heap_set h 0 v0) 1 v1) 2 v2) 3 v3
    simpa using this
  · repeat (refine heap_set_other ?_ hk _)
    exact h
  · repeat (refine Below.setCell ?_ hn _)
    exact Below.refl _ _
theorem drew_heap (W : World) : W.drew.heap = W.heap := rfl
theorem gcd_swap {x y g : Nat} (h : Nat.gcd x y = g) : Nat.gcd y (x % y) = g := by
  rw [Nat.gcd_comm, ← Nat.gcd_rec, Nat.gcd_comm]; exact h
set_option maxHeartbeats 400000 in
theorem clear_gcd {W : World} {b : Nat} {c : Array Value} {t : TypeId} (h : W.heap[b]? = some (.cells c t (0, 0))) (hs : c.size = 5) :
    Calls Try.prog 49 #[.pointer (some ⟨b, 0, none⟩)] W fun e w' => e = .returned (.tuple #[]) ∧ Laid b (#[.bool (ng (0)), .int .u64 (dg (ab (0)) 0), .int .u64 (dg (ab (0)) 1), .int .u64 (dg (ab (0)) 2), .int .u64 (dg (ab (0)) 3)]) W w' := by
  have hf := frozen_at h
  have hcc := cell_at h
  obtain ⟨c0, c1, c2, c3, c4, rfl⟩ := five_of hs
  have h0 : W.cell? ⟨b, 0, none⟩ = some c0 := hcc 0
  have h1 : W.cell? ⟨b, 1, none⟩ = some c1 := hcc 1
  have h2 : W.cell? ⟨b, 2, none⟩ = some c2 := hcc 2
  have h3 : W.cell? ⟨b, 3, none⟩ = some c3 := hcc 3
  have h4 : W.cell? ⟨b, 4, none⟩ = some c4 := hcc 4
  go_enter Try.func49, Try.ntmps49
  go_wp2
  go_end0
  rw [zero_cells]
  exact ⟨rfl, laid_five ..⟩
set_option maxHeartbeats 1000000 in
theorem gcd_ok (m n : Int) (hx : ab m < 2 ^ 256) (hy : ab n < 2 ^ 256) (w : World) :
    Calls Try.prog 12 #[.agg #[.bool (ng (m)), .int .u64 (dg (ab (m)) 0), .int .u64 (dg (ab (m)) 1), .int .u64 (dg (ab (m)) 2), .int .u64 (dg (ab (m)) 3)], .agg #[.bool (ng (n)), .int .u64 (dg (ab (n)) 0), .int .u64 (dg (ab (n)) 1), .int .u64 (dg (ab (n)) 2), .int .u64 (dg (ab (n)) 3)]] w fun e w' => e = .returned (.tuple #[.agg #[.bool (ng (Nat.gcd (ab m) (ab n) : Nat)), .int .u64 (dg (ab (Nat.gcd (ab m) (ab n) : Nat)) 0), .int .u64 (dg (ab (Nat.gcd (ab m) (ab n) : Nat)) 1), .int .u64 (dg (ab (Nat.gcd (ab m) (ab n) : Nat)) 2), .int .u64 (dg (ab (Nat.gcd (ab m) (ab n) : Nat)) 3)], .int .i64 0]) ∧ Below w.heap.size w w' := by
  have hmf : ∀ (fn : Fn) (first cap : Array Value) (w : World), (Instr.makeFunc fn first cap).run Try.prog w = .ok (.func fn first cap) w := fun _ _ _ _ => rfl
  have HX := Hd.mk hx
  have HY := Hd.mk hy
  clear hx hy
  go_enter_defers Try.func12, Try.ntmps12
  go_wp2_with fail
  refine (right_zs _ _ [m, n] _ (ints_two_z (b := w.heap.size + 1 + 1 + 1 + 1) HX.out HY.out (by focus (repeat (first | (with_reducible exact heap_at (by first | rfl | (simp; done) | (simp; omega)) _) | (with_reducible refine heap_old ?_ _)))))).mono ?_
  rintro e w1 ⟨rfl, hb1⟩
  have z0 : w1.heap[w.heap.size]? = some _ := heap_below hb1 (heap_old (heap_old (heap_old (heap_old (heap_new w _) _) _) _) _)
  have c0 := cell_at z0
  have f0 := frozen_at z0
  have z1 : w1.heap[w.heap.size + 1]? = some _ := heap_below hb1 (heap_old (heap_old (heap_old (heap_at (n := w.heap.size + 1) (by simp) _) _) _) _)
  have c1 := cell_at z1
  have f1 := frozen_at z1
  have z2 : w1.heap[w.heap.size + 1 + 1]? = some _ := heap_below hb1 (heap_old (heap_old (heap_at (n := w.heap.size + 1 + 1) (by simp) _) _) _)
  have c2 := cell_at z2
  have f2 := frozen_at z2
  have z3 : w1.heap[w.heap.size + 1 + 1 + 1]? = some _ := heap_below hb1 (heap_old (heap_at (n := w.heap.size + 1 + 1 + 1) (by simp) _) _)
  have c3 := cell_at z3
  have f3 := frozen_at z3
  have hw1 : Below w.heap.size w w1 := by
    focus (repeat (first | (with_reducible exact Below.refl _ _) | (with_reducible assumption) | ((with_reducible refine Below.setCell ?_ ?_ _); rotate_left; (focus (first | omega | (simp; done) | (simp; omega)))) | ((with_reducible refine Below.alloc ?_ ?_ _); rotate_left; (focus (first | omega | (simp; done) | (simp; omega)))) | (with_reducible refine Below.drew ?_) | (refine below_on ?_ (by assumption))))
  have hsz := lt_of_block z3
  clear hb1
  go_upto_region 3 with (fail)
  have n0 : w.heap.size ≠ w1.heap.size := by omega
  have n1 : w.heap.size + 1 ≠ w1.heap.size := by omega
  have n2 : w.heap.size ≠ w1.heap.size + 1 := by omega
  have n3 : w.heap.size + 1 ≠ w1.heap.size + 1 := by omega
  have a1 := c0 1
  have a2 := c0 2
  have a3 := c0 3
  have a4 := c0 4
  have b1 := c1 1
  have b2 := c1 2
  have b3 := c1 3
  have b4 := c1 4
  simp only [List.getElem?_toArray, List.getElem?_cons_zero, List.getElem?_cons_succ] at a1 a2 a3 a4 b1 b2 b3 b4
  have i1 := World.new_ne _ _ a1
  have i2 := World.new_ne _ _ a2
  have i3 := World.new_ne _ _ a3
  have i4 := World.new_ne _ _ a4
  have j1 := World.new_ne _ _ b1
  have j2 := World.new_ne _ _ b2
  have j3 := World.new_ne _ _ b3
  have j4 := World.new_ne _ _ b4
  go_region_held3 (fun W' => W'.cell? ⟨w.heap.size, 1, none⟩ = some (.int .u64 (dg (ab m) 0)) ∧ W'.cell? ⟨w.heap.size, 2, none⟩ = some (.int .u64 (dg (ab m) 1)) ∧ W'.cell? ⟨w.heap.size, 3, none⟩ = some (.int .u64 (dg (ab m) 2)) ∧ W'.cell? ⟨w.heap.size, 4, none⟩ = some (.int .u64 (dg (ab m) 3)) ∧ W'.cell? ⟨w.heap.size + 1, 1, none⟩ = some (.int .u64 (dg (ab n) 0)) ∧ W'.cell? ⟨w.heap.size + 1, 2, none⟩ = some (.int .u64 (dg (ab n) 1)) ∧ W'.cell? ⟨w.heap.size + 1, 3, none⟩ = some (.int .u64 (dg (ab n) 2)) ∧ W'.cell? ⟨w.heap.size + 1, 4, none⟩ = some (.int .u64 (dg (ab n) 3))) (go_keep) (fail)
  · clear n0 n1 n2 n3 a1 a2 a3 a4 b1 b2 b3 b4 i1 i2 i3 i4 j1 j2 j3 j4 z0 c0 f0 z1 c1 f1 c2 f2 c3 f3
    rename_i hH
    clear hH
    have hs1 := hw1.size
    go_wp2
    refine abs_wp (fun W => W.heap[w.heap.size + 1 + 1]? = some (.cells #[.bool false, .int .u64 0, .int .u64 0, .int .u64 0, .int .u64 0] 25 (0, 0)) ∧ W.heap[w.heap.size + 1 + 1 + 1]? = some (.cells #[.int .i64 0] 26 (0, 0)) ∧
      W.heap[w1.heap.size]? = some (.cells #[.int .u64 (dg (ab m) 0), .int .u64 (dg (ab m) 1), .int .u64 (dg (ab m) 2), .int .u64 (dg (ab m) 3)] 82 (0, 0)) ∧ W.heap[w1.heap.size + 1]? = some (.cells #[.int .u64 (dg (ab n) 0), .int .u64 (dg (ab n) 1), .int .u64 (dg (ab n) 2), .int .u64 (dg (ab n) 3)] 82 (0, 0)) ∧ Below w.heap.size w W)
      ⟨heap_old (heap_old z2 _) _, heap_old (heap_old z3 _) _, heap_old (heap_new _ _) _, heap_at (by simp) _, by focus (repeat (first | (with_reducible exact Below.refl _ _) | (with_reducible assumption) | ((with_reducible refine Below.setCell ?_ ?_ _); rotate_left; (focus (first | omega | (simp; done) | (simp; omega)))) | ((with_reducible refine Below.alloc ?_ ?_ _); rotate_left; (focus (first | omega | (simp; done) | (simp; omega)))) | (with_reducible refine Below.drew ?_) | (refine below_on ?_ (by assumption))))⟩ fun W ⟨y2, y3, y6, y7, hB⟩ => ?_
    clear z2 z3 hw1
    go_loopw [] (fun wr => ∃ x y : Nat, x < 2 ^ 256 ∧ y < 2 ^ 256 ∧ Nat.gcd x y = Nat.gcd (ab m) (ab n) ∧
      wr.heap[w.heap.size + 1 + 1]? = some (.cells #[.bool false, .int .u64 0, .int .u64 0, .int .u64 0, .int .u64 0] 25 (0, 0)) ∧ wr.heap[w.heap.size + 1 + 1 + 1]? = some (.cells #[.int .i64 0] 26 (0, 0)) ∧
      wr.heap[w1.heap.size]? = some (.cells #[.int .u64 (dg (x) 0), .int .u64 (dg (x) 1), .int .u64 (dg (x) 2), .int .u64 (dg (x) 3)] 82 (0, 0)) ∧ wr.heap[w1.heap.size + 1]? = some (.cells #[.int .u64 (dg (y) 0), .int .u64 (dg (y) 1), .int .u64 (dg (y) 2), .int .u64 (dg (y) 3)] 82 (0, 0)) ∧ Below w.heap.size w wr) (fun wr => magOf (w1.heap.size + 1) wr)
    case atStart => exact ⟨ab m, ab n, HX.out, HY.out, rfl, y2, y3, y6, y7, hB⟩
    case round =>
      clear y2 y3 y6 y7 hB
      obtain ⟨x, y, hx, hy, hg, y2, y3, y6, y7, hB⟩ := hrel
      have hz := mag_zero hy
      have HX := Hd.mk hx
      have HY := Hd.mk hy
      have HG := Hd.mk hg
      have d6 := cell_at y6
      have d7 := cell_at y7
      have f6 := frozen_at y6
      have f7 := frozen_at y7
      by_cases h0 : y = 0
      · rw [decide_eq_true h0] at hz
        have HE : Hd (zof false x = (Nat.gcd (ab m) (ab n) : Nat)) := ⟨by rw [← hg, h0, Nat.gcd_zero_right]; rfl⟩
        clear hx hy hg h0
        go_wp2_with fail
        refine (of_z _ _ HX.out _).mono ?_
        rw [HE.out]
        rintro e w2 ⟨rfl, hb2⟩
        have z8 : w2.heap[w.heap.size + 1 + 1]? = some _ := heap_below hb2 y2
        have c8 := cell_at z8
        have f8 := frozen_at z8
        have z9 : w2.heap[w.heap.size + 1 + 1 + 1]? = some _ := heap_below hb2 y3
        have c9 := cell_at z9
        have f9 := frozen_at z9
        have hw2 : Below w.heap.size w w2 := below_on hB hb2
        clear y2 y3 y6 y7 d6 d7 f6 f7 hB hb2
        go_wp2
        refine leaves_cons (f := 43) (args := #[.pointer (some ⟨w.heap.size + 1 + 1 + 1, 0, none⟩), .func (.func 49) #[] #[.pointer (some ⟨w.heap.size + 1 + 1, 0, none⟩)]]) (by simp) (by simp [go_sem]) ?_
        refine (caught_idle _ _ _).mono ?_
        rintro e u' w3 ⟨rfl, rfl, rfl⟩
        refine abs_leaves (OutAt w (w.heap.size + 1 + 1) (w.heap.size + 1 + 1 + 1) (((Nat.gcd (ab m) (ab n) : Nat) : Int)) 0) (out_stored (by omega) (by omega) z8 z9 rfl rfl hw2) fun W hW => ?_
        obtain ⟨y1, y2, hB⟩ := hW
        have c1 := cell_at y1
        have c2 := cell_at y2
        simp [Leaves, settle, results, Try.results12, go_sem, c1, c2]
        first | exact ⟨rfl, hB⟩ | exact hB
      · rw [decide_eq_false h0] at hz
        have H0 : Hd (0 < y) := ⟨by omega⟩
        clear hx hy hg h0
        go_wp2_with fail
        refine (parts_any _ _ HX.out HY.out H0.out _).mono ?_
        rintro e w2 ⟨rfl, hb2⟩
        have HM := Hd.mk (magOf_eq HY.out y7)
        have v2 := heap_below hb2 y2
        have v3 := heap_below hb2 y3
        have v6 := heap_below hb2 y6
        have v7 := heap_below hb2 y7
        have hw2 : Below w.heap.size w w2 := below_on hB hb2
        have hs2 : w1.heap.size < w2.heap.size ∧ w1.heap.size + 1 < w2.heap.size := ⟨lt_of_block v6, lt_of_block v7⟩
        have hs3 := hw2.size
        clear y2 y3 y6 y7 d6 d7 f6 f7 hB hb2
        go_upto_region 6 with (fail)
        refine abs_wp (fun W => W.heap[w.heap.size + 1 + 1]? = some (.cells #[.bool false, .int .u64 0, .int .u64 0, .int .u64 0, .int .u64 0] 25 (0, 0)) ∧ W.heap[w.heap.size + 1 + 1 + 1]? = some (.cells #[.int .i64 0] 26 (0, 0)) ∧
          W.heap[w1.heap.size]? = some (.cells #[.int .u64 (dg (x) 0), .int .u64 (dg (x) 1), .int .u64 (dg (x) 2), .int .u64 (dg (x) 3)] 82 (0, 0)) ∧ W.heap[w1.heap.size + 1]? = some (.cells #[.int .u64 (dg (y) 0), .int .u64 (dg (y) 1), .int .u64 (dg (y) 2), .int .u64 (dg (y) 3)] 82 (0, 0)) ∧ W.heap[w2.heap.size + 1]? = some (.cells #[.int .u64 (dg (x % y) 0), .int .u64 (dg (x % y) 1), .int .u64 (dg (x % y) 2), .int .u64 (dg (x % y) 3)] 82 (0, 0)) ∧ Below w.heap.size w W)
          ⟨heap_old (heap_old v2 _) _, heap_old (heap_old v3 _) _, heap_old (heap_old v6 _) _, heap_old (heap_old v7 _) _, heap_at (by simp) _, by focus (repeat (first | (with_reducible exact Below.refl _ _) | (with_reducible assumption) | ((with_reducible refine Below.setCell ?_ ?_ _); rotate_left; (focus (first | omega | (simp; done) | (simp; omega)))) | ((with_reducible refine Below.alloc ?_ ?_ _); rotate_left; (focus (first | omega | (simp; done) | (simp; omega)))) | (with_reducible refine Below.drew ?_) | (refine below_on ?_ (by assumption))))⟩ fun W ⟨y2, y3, y6, y7, y9, hB⟩ => ?_
        clear v2 v3 v6 v7 hw2
        have n1 : w1.heap.size ≠ w1.heap.size + 1 := by omega
        have n2 : w1.heap.size ≠ w2.heap.size + 1 := by omega
        have n3 : w1.heap.size + 1 ≠ w2.heap.size + 1 := by omega
        have f6 := frozen_at y6
        have f7 := frozen_at y7
        have g0 : W.cell? ⟨w1.heap.size, 0, none⟩ = some (.int .u64 (dg x 0)) := cell_at y6 0
        have g1 : W.cell? ⟨w1.heap.size, 1, none⟩ = some (.int .u64 (dg x 1)) := cell_at y6 1
        have g2 : W.cell? ⟨w1.heap.size, 2, none⟩ = some (.int .u64 (dg x 2)) := cell_at y6 2
        have g3 : W.cell? ⟨w1.heap.size, 3, none⟩ = some (.int .u64 (dg x 3)) := cell_at y6 3
        have k0 : W.cell? ⟨w1.heap.size + 1, 0, none⟩ = some (.int .u64 (dg y 0)) := cell_at y7 0
        have k1 : W.cell? ⟨w1.heap.size + 1, 1, none⟩ = some (.int .u64 (dg y 1)) := cell_at y7 1
        have k2 : W.cell? ⟨w1.heap.size + 1, 2, none⟩ = some (.int .u64 (dg y 2)) := cell_at y7 2
        have k3 : W.cell? ⟨w1.heap.size + 1, 3, none⟩ = some (.int .u64 (dg y 3)) := cell_at y7 3
        have l0 : W.cell? ⟨w2.heap.size + 1, 0, none⟩ = some (.int .u64 (dg (x % y) 0)) := cell_at y9 0
        have l1 : W.cell? ⟨w2.heap.size + 1, 1, none⟩ = some (.int .u64 (dg (x % y) 1)) := cell_at y9 1
        have l2 : W.cell? ⟨w2.heap.size + 1, 2, none⟩ = some (.int .u64 (dg (x % y) 2)) := cell_at y9 2
        have l3 : W.cell? ⟨w2.heap.size + 1, 3, none⟩ = some (.int .u64 (dg (x % y) 3)) := cell_at y9 3
        refine wp_region_noPanic ?_
        go_region
        all_goals (simp only [NoPanic]; go_wp2; go_roundw)
        all_goals
          clear g0 g1 g2 g3 k0 k1 k2 k3 l0 l1 l2 l3
          have hL := laid_four (w1.heap.size) W (.int .u64 (dg y 0)) (.int .u64 (dg y 1)) (.int .u64 (dg y 2)) (.int .u64 (dg y 3))
          have hK := laid_four (w1.heap.size + 1) ((((W.setCell ⟨w1.heap.size, 0, none⟩ (.int .u64 (dg y 0))).setCell ⟨w1.heap.size, 1, none⟩ (.int .u64 (dg y 1))).setCell ⟨w1.heap.size, 2, none⟩ (.int .u64 (dg y 2))).setCell ⟨w1.heap.size, 3, none⟩ (.int .u64 (dg y 3))) (.int .u64 (dg (x % y) 0)) (.int .u64 (dg (x % y) 1)) (.int .u64 (dg (x % y) 2)) (.int .u64 (dg (x % y) 3))
          have hlt := Hd.mk (Nat.lt_of_le_of_lt (Nat.mod_le x y) HX.out)
          have h7 := hK.1 (hL.2.1 _ _ n1.symm y7) rfl
        case measure =>
          have h8 := (congrArg (fun h => h[w1.heap.size + 1]?) (drew_heap _)).trans h7
          exact Nat.lt_of_le_of_lt (Nat.le_of_eq (magOf_eq hlt.out h8)) (Nat.lt_of_lt_of_eq (Nat.mod_lt x H0.out) HM.out.symm)
        case rel =>
          refine ⟨y, x % y, HY.out, hlt.out, gcd_swap HG.out, ?_, ?_, ?_, ?_, ?_⟩
          · exact (congrArg (fun h => h[w.heap.size + 1 + 1]?) (drew_heap _)).trans (hK.2.1 _ _ (by omega) (hL.2.1 _ _ (by omega) y2))
          · exact (congrArg (fun h => h[w.heap.size + 1 + 1 + 1]?) (drew_heap _)).trans (hK.2.1 _ _ (by omega) (hL.2.1 _ _ (by omega) y3))
          · exact (congrArg (fun h => h[w1.heap.size]?) (drew_heap _)).trans (hK.2.1 _ _ n1 (hL.1 y6 rfl))
          · exact (congrArg (fun h => h[w1.heap.size + 1]?) (drew_heap _)).trans h7
          · refine Below.drew ?_
            exact hB.trans ((hL.2.2 _ (by omega)).trans (hK.2.2 _ (by omega)))
  · clear n0 n1 n2 n3 a1 a2 a3 a4 b1 b2 b3 b4 i1 i2 i3 i4 j1 j2 j3 j4 z0 c0 f0 z1 c1 f1 c2 f2 c3 f3
    rename_i hH
    clear hH
    have hs1 := hw1.size
    go_wp2
    refine abs_wp (fun W => W.heap[w.heap.size + 1 + 1]? = some (.cells #[.bool false, .int .u64 0, .int .u64 0, .int .u64 0, .int .u64 0] 25 (0, 0)) ∧ W.heap[w.heap.size + 1 + 1 + 1]? = some (.cells #[.int .i64 0] 26 (0, 0)) ∧
      W.heap[w1.heap.size + 1]? = some (.cells #[.int .u64 (dg (ab m) 0), .int .u64 (dg (ab m) 1), .int .u64 (dg (ab m) 2), .int .u64 (dg (ab m) 3)] 82 (0, 0)) ∧ W.heap[w1.heap.size]? = some (.cells #[.int .u64 (dg (ab n) 0), .int .u64 (dg (ab n) 1), .int .u64 (dg (ab n) 2), .int .u64 (dg (ab n) 3)] 82 (0, 0)) ∧ Below w.heap.size w W)
      ⟨heap_old (heap_old z2 _) _, heap_old (heap_old z3 _) _, heap_at (by simp) _, heap_old (heap_new _ _) _, by focus (repeat (first | (with_reducible exact Below.refl _ _) | (with_reducible assumption) | ((with_reducible refine Below.setCell ?_ ?_ _); rotate_left; (focus (first | omega | (simp; done) | (simp; omega)))) | ((with_reducible refine Below.alloc ?_ ?_ _); rotate_left; (focus (first | omega | (simp; done) | (simp; omega)))) | (with_reducible refine Below.drew ?_) | (refine below_on ?_ (by assumption))))⟩ fun W ⟨y2, y3, y6, y7, hB⟩ => ?_
    clear z2 z3 hw1
    go_loopw [] (fun wr => ∃ x y : Nat, x < 2 ^ 256 ∧ y < 2 ^ 256 ∧ Nat.gcd x y = Nat.gcd (ab m) (ab n) ∧
      wr.heap[w.heap.size + 1 + 1]? = some (.cells #[.bool false, .int .u64 0, .int .u64 0, .int .u64 0, .int .u64 0] 25 (0, 0)) ∧ wr.heap[w.heap.size + 1 + 1 + 1]? = some (.cells #[.int .i64 0] 26 (0, 0)) ∧
      wr.heap[w1.heap.size + 1]? = some (.cells #[.int .u64 (dg (x) 0), .int .u64 (dg (x) 1), .int .u64 (dg (x) 2), .int .u64 (dg (x) 3)] 82 (0, 0)) ∧ wr.heap[w1.heap.size]? = some (.cells #[.int .u64 (dg (y) 0), .int .u64 (dg (y) 1), .int .u64 (dg (y) 2), .int .u64 (dg (y) 3)] 82 (0, 0)) ∧ Below w.heap.size w wr) (fun wr => magOf (w1.heap.size) wr)
    case atStart => exact ⟨ab m, ab n, HX.out, HY.out, rfl, y2, y3, y6, y7, hB⟩
    case round =>
      clear y2 y3 y6 y7 hB
      obtain ⟨x, y, hx, hy, hg, y2, y3, y6, y7, hB⟩ := hrel
      have hz := mag_zero hy
      have HX := Hd.mk hx
      have HY := Hd.mk hy
      have HG := Hd.mk hg
      have d6 := cell_at y6
      have d7 := cell_at y7
      have f6 := frozen_at y6
      have f7 := frozen_at y7
      by_cases h0 : y = 0
      · rw [decide_eq_true h0] at hz
        have HE : Hd (zof false x = (Nat.gcd (ab m) (ab n) : Nat)) := ⟨by rw [← hg, h0, Nat.gcd_zero_right]; rfl⟩
        clear hx hy hg h0
        go_wp2_with fail
        refine (of_z _ _ HX.out _).mono ?_
        rw [HE.out]
        rintro e w2 ⟨rfl, hb2⟩
        have z8 : w2.heap[w.heap.size + 1 + 1]? = some _ := heap_below hb2 y2
        have c8 := cell_at z8
        have f8 := frozen_at z8
        have z9 : w2.heap[w.heap.size + 1 + 1 + 1]? = some _ := heap_below hb2 y3
        have c9 := cell_at z9
        have f9 := frozen_at z9
        have hw2 : Below w.heap.size w w2 := below_on hB hb2
        clear y2 y3 y6 y7 d6 d7 f6 f7 hB hb2
        go_wp2
        refine leaves_cons (f := 43) (args := #[.pointer (some ⟨w.heap.size + 1 + 1 + 1, 0, none⟩), .func (.func 49) #[] #[.pointer (some ⟨w.heap.size + 1 + 1, 0, none⟩)]]) (by simp) (by simp [go_sem]) ?_
        refine (caught_idle _ _ _).mono ?_
        rintro e u' w3 ⟨rfl, rfl, rfl⟩
        refine abs_leaves (OutAt w (w.heap.size + 1 + 1) (w.heap.size + 1 + 1 + 1) (((Nat.gcd (ab m) (ab n) : Nat) : Int)) 0) (out_stored (by omega) (by omega) z8 z9 rfl rfl hw2) fun W hW => ?_
        obtain ⟨y1, y2, hB⟩ := hW
        have c1 := cell_at y1
        have c2 := cell_at y2
        simp [Leaves, settle, results, Try.results12, go_sem, c1, c2]
        first | exact ⟨rfl, hB⟩ | exact hB
      · rw [decide_eq_false h0] at hz
        have H0 : Hd (0 < y) := ⟨by omega⟩
        clear hx hy hg h0
        go_wp2_with fail
        refine (parts_any _ _ HX.out HY.out H0.out _).mono ?_
        rintro e w2 ⟨rfl, hb2⟩
        have HM := Hd.mk (magOf_eq HY.out y7)
        have v2 := heap_below hb2 y2
        have v3 := heap_below hb2 y3
        have v6 := heap_below hb2 y6
        have v7 := heap_below hb2 y7
        have hw2 : Below w.heap.size w w2 := below_on hB hb2
        have hs2 : w1.heap.size + 1 < w2.heap.size ∧ w1.heap.size < w2.heap.size := ⟨lt_of_block v6, lt_of_block v7⟩
        have hs3 := hw2.size
        clear y2 y3 y6 y7 d6 d7 f6 f7 hB hb2
        go_upto_region 6 with (fail)
        refine abs_wp (fun W => W.heap[w.heap.size + 1 + 1]? = some (.cells #[.bool false, .int .u64 0, .int .u64 0, .int .u64 0, .int .u64 0] 25 (0, 0)) ∧ W.heap[w.heap.size + 1 + 1 + 1]? = some (.cells #[.int .i64 0] 26 (0, 0)) ∧
          W.heap[w1.heap.size + 1]? = some (.cells #[.int .u64 (dg (x) 0), .int .u64 (dg (x) 1), .int .u64 (dg (x) 2), .int .u64 (dg (x) 3)] 82 (0, 0)) ∧ W.heap[w1.heap.size]? = some (.cells #[.int .u64 (dg (y) 0), .int .u64 (dg (y) 1), .int .u64 (dg (y) 2), .int .u64 (dg (y) 3)] 82 (0, 0)) ∧ W.heap[w2.heap.size + 1]? = some (.cells #[.int .u64 (dg (x % y) 0), .int .u64 (dg (x % y) 1), .int .u64 (dg (x % y) 2), .int .u64 (dg (x % y) 3)] 82 (0, 0)) ∧ Below w.heap.size w W)
          ⟨heap_old (heap_old v2 _) _, heap_old (heap_old v3 _) _, heap_old (heap_old v6 _) _, heap_old (heap_old v7 _) _, heap_at (by simp) _, by focus (repeat (first | (with_reducible exact Below.refl _ _) | (with_reducible assumption) | ((with_reducible refine Below.setCell ?_ ?_ _); rotate_left; (focus (first | omega | (simp; done) | (simp; omega)))) | ((with_reducible refine Below.alloc ?_ ?_ _); rotate_left; (focus (first | omega | (simp; done) | (simp; omega)))) | (with_reducible refine Below.drew ?_) | (refine below_on ?_ (by assumption))))⟩ fun W ⟨y2, y3, y6, y7, y9, hB⟩ => ?_
        clear v2 v3 v6 v7 hw2
        have n1 : w1.heap.size + 1 ≠ w1.heap.size := by omega
        have n2 : w1.heap.size + 1 ≠ w2.heap.size + 1 := by omega
        have n3 : w1.heap.size ≠ w2.heap.size + 1 := by omega
        have f6 := frozen_at y6
        have f7 := frozen_at y7
        have g0 : W.cell? ⟨w1.heap.size + 1, 0, none⟩ = some (.int .u64 (dg x 0)) := cell_at y6 0
        have g1 : W.cell? ⟨w1.heap.size + 1, 1, none⟩ = some (.int .u64 (dg x 1)) := cell_at y6 1
        have g2 : W.cell? ⟨w1.heap.size + 1, 2, none⟩ = some (.int .u64 (dg x 2)) := cell_at y6 2
        have g3 : W.cell? ⟨w1.heap.size + 1, 3, none⟩ = some (.int .u64 (dg x 3)) := cell_at y6 3
        have k0 : W.cell? ⟨w1.heap.size, 0, none⟩ = some (.int .u64 (dg y 0)) := cell_at y7 0
        have k1 : W.cell? ⟨w1.heap.size, 1, none⟩ = some (.int .u64 (dg y 1)) := cell_at y7 1
        have k2 : W.cell? ⟨w1.heap.size, 2, none⟩ = some (.int .u64 (dg y 2)) := cell_at y7 2
        have k3 : W.cell? ⟨w1.heap.size, 3, none⟩ = some (.int .u64 (dg y 3)) := cell_at y7 3
        have l0 : W.cell? ⟨w2.heap.size + 1, 0, none⟩ = some (.int .u64 (dg (x % y) 0)) := cell_at y9 0
        have l1 : W.cell? ⟨w2.heap.size + 1, 1, none⟩ = some (.int .u64 (dg (x % y) 1)) := cell_at y9 1
        have l2 : W.cell? ⟨w2.heap.size + 1, 2, none⟩ = some (.int .u64 (dg (x % y) 2)) := cell_at y9 2
        have l3 : W.cell? ⟨w2.heap.size + 1, 3, none⟩ = some (.int .u64 (dg (x % y) 3)) := cell_at y9 3
        refine wp_region_noPanic ?_
        go_region
        all_goals (simp only [NoPanic]; go_wp2; go_roundw)
        all_goals
          clear g0 g1 g2 g3 k0 k1 k2 k3 l0 l1 l2 l3
          have hL := laid_four (w1.heap.size + 1) W (.int .u64 (dg y 0)) (.int .u64 (dg y 1)) (.int .u64 (dg y 2)) (.int .u64 (dg y 3))
          have hK := laid_four (w1.heap.size) ((((W.setCell ⟨w1.heap.size + 1, 0, none⟩ (.int .u64 (dg y 0))).setCell ⟨w1.heap.size + 1, 1, none⟩ (.int .u64 (dg y 1))).setCell ⟨w1.heap.size + 1, 2, none⟩ (.int .u64 (dg y 2))).setCell ⟨w1.heap.size + 1, 3, none⟩ (.int .u64 (dg y 3))) (.int .u64 (dg (x % y) 0)) (.int .u64 (dg (x % y) 1)) (.int .u64 (dg (x % y) 2)) (.int .u64 (dg (x % y) 3))
          have hlt := Hd.mk (Nat.lt_of_le_of_lt (Nat.mod_le x y) HX.out)
          have h7 := hK.1 (hL.2.1 _ _ n1.symm y7) rfl
        case measure =>
          have h8 := (congrArg (fun h => h[w1.heap.size]?) (drew_heap _)).trans h7
          exact Nat.lt_of_le_of_lt (Nat.le_of_eq (magOf_eq hlt.out h8)) (Nat.lt_of_lt_of_eq (Nat.mod_lt x H0.out) HM.out.symm)
        case rel =>
          refine ⟨y, x % y, HY.out, hlt.out, gcd_swap HG.out, ?_, ?_, ?_, ?_, ?_⟩
          · exact (congrArg (fun h => h[w.heap.size + 1 + 1]?) (drew_heap _)).trans (hK.2.1 _ _ (by omega) (hL.2.1 _ _ (by omega) y2))
          · exact (congrArg (fun h => h[w.heap.size + 1 + 1 + 1]?) (drew_heap _)).trans (hK.2.1 _ _ (by omega) (hL.2.1 _ _ (by omega) y3))
          · exact (congrArg (fun h => h[w1.heap.size + 1]?) (drew_heap _)).trans (hK.2.1 _ _ n1 (hL.1 y6 rfl))
          · exact (congrArg (fun h => h[w1.heap.size]?) (drew_heap _)).trans h7
          · refine Below.drew ?_
            exact hB.trans ((hL.2.2 _ (by omega)).trans (hK.2.2 _ (by omega)))
set_option maxHeartbeats 1000000 in
theorem gcd_bad (p q : Bool × Nat) (hp : p.2 < 2 ^ 256) (hq : q.2 < 2 ^ 256) (h : ¬ (okP p ∧ okP q)) (w : World) :
    Calls Try.prog 12 #[.agg #[.bool (p.1), .int .u64 (dg (p.2) 0), .int .u64 (dg (p.2) 1), .int .u64 (dg (p.2) 2), .int .u64 (dg (p.2) 3)], .agg #[.bool (q.1), .int .u64 (dg (q.2) 0), .int .u64 (dg (q.2) 1), .int .u64 (dg (q.2) 2), .int .u64 (dg (q.2) 3)]] w fun e w' => e = .returned (.tuple #[.agg #[.bool (ng (0)), .int .u64 (dg (ab (0)) 0), .int .u64 (dg (ab (0)) 1), .int .u64 (dg (ab (0)) 2), .int .u64 (dg (ab (0)) 3)], .int .i64 2]) ∧ Below w.heap.size w w' := by
  have hmf : ∀ (fn : Fn) (first cap : Array Value) (w : World), (Instr.makeFunc fn first cap).run Try.prog w = .ok (.func fn first cap) w := fun _ _ _ _ => rfl
  have HP := Hd.mk hp
  have HQ := Hd.mk hq
  have HO := Hd.mk h
  clear hp hq h
  go_enter_defers Try.func12, Try.ntmps12
  go_wp2_with fail
  refine (right_no _ _ [p, q] _ (ints_two (b := w.heap.size + 1 + 1 + 1 + 1) HP.out HQ.out (by focus (repeat (first | (with_reducible exact heap_at (by first | rfl | (simp; done) | (simp; omega)) _) | (with_reducible refine heap_old ?_ _))))) (by simpa using HO.out)).mono ?_
  rintro e w1 ⟨rfl, hb1⟩
  have z1 : w1.heap[w.heap.size + 1 + 1]? = some _ := heap_below hb1 (heap_old (heap_old (heap_at (n := w.heap.size + 1 + 1) (by simp) _) _) _)
  have c1 := cell_at z1
  have f1 := frozen_at z1
  have z2 : w1.heap[w.heap.size + 1 + 1 + 1]? = some _ := heap_below hb1 (heap_old (heap_at (n := w.heap.size + 1 + 1 + 1) (by simp) _) _)
  have c2 := cell_at z2
  have f2 := frozen_at z2
  have hw1 : Below w.heap.size w w1 := by
    focus (repeat (first | (with_reducible exact Below.refl _ _) | (with_reducible assumption) | ((with_reducible refine Below.setCell ?_ ?_ _); rotate_left; (focus (first | omega | (simp; done) | (simp; omega)))) | ((with_reducible refine Below.alloc ?_ ?_ _); rotate_left; (focus (first | omega | (simp; done) | (simp; omega)))) | (with_reducible refine Below.drew ?_) | (refine below_on ?_ (by assumption))))
  clear hb1
  go_wp2
  refine leaves_cons (f := 43) (args := #[.pointer (some ⟨w.heap.size + 1 + 1 + 1, 0, none⟩), .func (.func 49) #[] #[.pointer (some ⟨w.heap.size + 1 + 1, 0, none⟩)]]) (by simp) (by simp [go_sem]) ?_
  refine (caught_full _ _ 2 _ _ _ _ (Laid (w.heap.size + 1 + 1) (#[.bool (ng (0)), .int .u64 (dg (ab (0)) 0), .int .u64 (dg (ab (0)) 1), .int .u64 (dg (ab (0)) 2), .int .u64 (dg (ab (0)) 3)]) _) (cell_at z2 0) (frozen_at z2 0) (fun _ => rfl) (clear_gcd (heap_set_other z1 (by simp) _) rfl)).mono ?_
  rintro e u' w3 ⟨rfl, rfl, hL⟩
  refine abs_leaves (OutAt w (w.heap.size + 1 + 1) (w.heap.size + 1 + 1 + 1) 0 2) (out_cleared (by omega) (by omega) z1 z2 rfl rfl hw1 hL) fun W hW => ?_
  obtain ⟨y1, y2, hB⟩ := hW
  have c1 := cell_at y1
  have c2 := cell_at y2
  simp [Leaves, settle, results, Try.results12, go_sem, c1, c2]
  first | exact ⟨rfl, hB⟩ | exact hB
end Go.Proofs.Yteibcklcegkbcaa
