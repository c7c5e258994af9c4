/-
  Walks: the closures that clear, Neg. Conditions stand in each theorem.
-/
import Derived.Test.YteibcklcegkbcaaLm12
namespace Go.Proofs.Yteibcklcegkbcaa
open Go.RowKit Go.BigFrame

/-- Five cells of a block are laid. -/
def Laid (b : Nat) (v : Array Value) (W w' : World) : Prop :=
  (∀ {c : Array Value} {t : TypeId}, W.heap[b]? = some (.cells c t (0, 0)) → c.size = 5 → w'.heap[b]? = some (.cells v t (0, 0))) ∧ (∀ k o, k ≠ b → W.heap[k]? = some o → w'.heap[k]? = some o) ∧ ∀ n, n ≤ b → Below n W w'
theorem five_of {c : Array Value} (hs : c.size = 5) : ∃ c0 c1 c2 c3 c4, c = #[c0, c1, c2, c3, c4] := by
  obtain ⟨l⟩ := c
  match l, hs with
  | [a, b, c, d, e], _ => exact ⟨a, b, c, d, e, rfl⟩
theorem laid_five (b : Nat) (W : World) (v0 v1 v2 v3 v4 : Value) : Laid b #[v0, v1, v2, v3, v4] W (((((W.setCell ⟨b, 0, none⟩ v0).setCell ⟨b, 1, none⟩ v1).setCell ⟨b, 2, none⟩ v2).setCell ⟨b, 3, none⟩ v3).setCell ⟨b, 4, none⟩ v4) := by
  refine ⟨fun {c t} h hs => ?_, fun k o hk h => ?_, fun n hn => ?_⟩
  · obtain ⟨c0, c1, c2, c3, c4, rfl⟩ := five_of hs
    have := heap_set (heap_set (heap_set (heap_set (heap_set h 0 v0) 1 v1) 2 v2) 3 v3) 4 v4
    simpa using this
  · repeat (refine heap_set_other ?_ hk _)
    exact h
  · repeat (refine Below.setCell ?_ hn _)
    exact Below.refl _ _
/-- One cell of a block is laid. -/
def Laid1 (b : Nat) (v : Value) (W w' : World) : Prop :=
  (∀ {c : Array Value} {t : TypeId}, W.heap[b]? = some (.cells c t (0, 0)) → c.size = 1 → w'.heap[b]? = some (.cells #[v] t (0, 0))) ∧ (∀ k o, k ≠ b → W.heap[k]? = some o → w'.heap[k]? = some o) ∧ ∀ n, n ≤ b → Below n W w'
theorem laid_one (b : Nat) (W : World) (v : Value) : Laid1 b v W (W.setCell ⟨b, 0, none⟩ v) := by
  refine ⟨fun {c t} h hs => ?_, fun k o hk h => heap_set_other h hk _, fun n hn => Below.setCell (Below.refl _ _) hn _⟩
  obtain ⟨c0, rfl⟩ : ∃ c0, c = #[c0] := Array.size_eq_one_iff.1 hs
  simpa using heap_set h 0 v
theorem zero_cells : (#[.bool (ng (0)), .int .u64 (dg (ab (0)) 0), .int .u64 (dg (ab (0)) 1), .int .u64 (dg (ab (0)) 2), .int .u64 (dg (ab (0)) 3)] : Array Value) = #[.bool false, .int .u64 0, .int .u64 0, .int .u64 0, .int .u64 0] := by simp [ng, ab, dg]
set_option maxHeartbeats 400000 in
theorem clear_neg {W : World} {b : Nat} {c : Array Value} {t : TypeId} (h : W.heap[b]? = some (.cells c t (0, 0))) (hs : c.size = 5) :
    Calls Try.prog 69 #[.pointer (some ⟨b, 0, none⟩)] W fun e w' => e = .returned (.tuple #[]) ∧ Laid b (#[.bool (ng (0)), .int .u64 (dg (ab (0)) 0), .int .u64 (dg (ab (0)) 1), .int .u64 (dg (ab (0)) 2), .int .u64 (dg (ab (0)) 3)]) W w' := by
  have hf := frozen_at h
  have hcc := cell_at h
  obtain ⟨c0, c1, c2, c3, c4, rfl⟩ := five_of hs
  have h0 : W.cell? ⟨b, 0, none⟩ = some c0 := hcc 0
  have h1 : W.cell? ⟨b, 1, none⟩ = some c1 := hcc 1
  have h2 : W.cell? ⟨b, 2, none⟩ = some c2 := hcc 2
  have h3 : W.cell? ⟨b, 3, none⟩ = some c3 := hcc 3
  have h4 : W.cell? ⟨b, 4, none⟩ = some c4 := hcc 4
  go_enter Try.func69, Try.ntmps69
  go_wp2
  go_end0
  rw [zero_cells]
  exact ⟨rfl, laid_five ..⟩

theorem abs_leaves {P : Program} {fn : Func} {t : Array Value} {R : Ending → World → Prop} {ds : List Deferred} {u : FrameMode} {w : World} (I : World → Prop) (h0 : I w) (h : ∀ W, I W → Leaves P fn t R ds u W) : Leaves P fn t R ds u w := h w h0
/-- What two named results hold. -/
def OutAt (w : World) (b d : Nat) (z : Int) (n : Int) (W : World) : Prop :=
  W.heap[b]? = some (.cells #[.bool (ng (z)), .int .u64 (dg (ab (z)) 0), .int .u64 (dg (ab (z)) 1), .int .u64 (dg (ab (z)) 2), .int .u64 (dg (ab (z)) 3)] 25 (0, 0)) ∧ W.heap[d]? = some (.cells #[.int .i64 n] 26 (0, 0)) ∧ Below w.heap.size w W
theorem out_stored {w W : World} {b d : Nat} {z n : Int} {c e : Array Value} (hb : w.heap.size ≤ b) (hd : b < d) (h : W.heap[b]? = some (.cells c 25 (0, 0))) (k : W.heap[d]? = some (.cells e 26 (0, 0))) (hc : c.size = 5) (he : e.size = 1) (hB : Below w.heap.size w W) :
    OutAt w b d z n ((((((W.setCell ⟨b, 0, none⟩ (.bool (ng z))).setCell ⟨b, 1, none⟩ (.int .u64 (dg (ab z) 0))).setCell ⟨b, 2, none⟩ (.int .u64 (dg (ab z) 1))).setCell ⟨b, 3, none⟩ (.int .u64 (dg (ab z) 2))).setCell ⟨b, 4, none⟩ (.int .u64 (dg (ab z) 3))).setCell ⟨d, 0, none⟩ (.int .i64 n)) := by
  obtain ⟨l1, l2, l3⟩ := laid_five b W (.bool (ng z)) (.int .u64 (dg (ab z) 0)) (.int .u64 (dg (ab z) 1)) (.int .u64 (dg (ab z) 2)) (.int .u64 (dg (ab z) 3))
  obtain ⟨k1, k2, k3⟩ := laid_one d (((((W.setCell ⟨b, 0, none⟩ (.bool (ng z))).setCell ⟨b, 1, none⟩ (.int .u64 (dg (ab z) 0))).setCell ⟨b, 2, none⟩ (.int .u64 (dg (ab z) 1))).setCell ⟨b, 3, none⟩ (.int .u64 (dg (ab z) 2))).setCell ⟨b, 4, none⟩ (.int .u64 (dg (ab z) 3))) (.int .i64 n)
  exact ⟨k2 _ _ (by omega) (l1 h hc), k1 (l2 _ _ (by omega) k) he, hB.trans ((l3 _ hb).trans (k3 _ (by omega)))⟩
theorem out_cleared {w W W' : World} {b d : Nat} {n : Int} {c e : Array Value} (hb : w.heap.size ≤ b) (hd : b < d) (h : W.heap[b]? = some (.cells c 25 (0, 0))) (k : W.heap[d]? = some (.cells e 26 (0, 0))) (hc : c.size = 5) (he : e.size = 1) (hB : Below w.heap.size w W)
    (hL : Laid b (#[.bool (ng (0)), .int .u64 (dg (ab (0)) 0), .int .u64 (dg (ab (0)) 1), .int .u64 (dg (ab (0)) 2), .int .u64 (dg (ab (0)) 3)]) (W.setCell ⟨d, 0, none⟩ (.int .i64 n)) W') : OutAt w b d 0 n W' := by
  obtain ⟨k1, k2, k3⟩ := laid_one d W (.int .i64 n)
  exact ⟨hL.1 (k2 _ _ (by omega) h) hc, hL.2.1 _ _ (by omega) (k1 k he), hB.trans ((k3 _ (by omega)).trans (hL.2.2 _ hb))⟩
def negV (p : Bool × Nat) : Int := if okP p then -zof p.1 p.2 else 0
theorem neg_any (p : Bool × Nat) (hp : p.2 < 2 ^ 256) (w : World) :
    Calls Try.prog 25 #[.agg #[.bool (p.1), .int .u64 (dg (p.2) 0), .int .u64 (dg (p.2) 1), .int .u64 (dg (p.2) 2), .int .u64 (dg (p.2) 3)]] w fun e w' => e = .returned (.tuple #[.agg #[.bool (ng (negV p)), .int .u64 (dg (ab (negV p)) 0), .int .u64 (dg (ab (negV p)) 1), .int .u64 (dg (ab (negV p)) 2), .int .u64 (dg (ab (negV p)) 3)], .int .i64 (errC p)]) ∧ Below w.heap.size w w' := by
  have HP := Hd.mk hp
  have hmf : ∀ (fn : Fn) (first cap : Array Value) (w : World), (Instr.makeFunc fn first cap).run Try.prog w = .ok (.func fn first cap) w := fun _ _ _ _ => rfl
  clear hp
  by_cases h : okP p
  · have HO := Hd.mk h
    have HV : Hd (negV p = zof (!p.1) p.2) := ⟨by
      obtain ⟨s, n⟩ := p
      unfold negV; rw [if_pos h]; cases s <;> simp [zof]⟩
    have HE : Hd (errC p = 0) := ⟨by unfold errC; rw [if_pos h]⟩
    clear h
    rw [HE.out]
    go_enter_defers Try.func25, Try.ntmps25
    go_wp2_with fail
    refine (right_ok _ _ [p] _ (ints_one (b := w.heap.size + 1 + 1 + 1) HP.out (by focus (repeat (first | (with_reducible exact heap_at (by first | rfl | (simp; done) | (simp; omega)) _) | (with_reducible refine heap_old ?_ _))))) (by simpa using HO.out)).mono ?_
    rintro e w1 ⟨rfl, hb1⟩
    have z0 : w1.heap[w.heap.size]? = some _ := heap_below hb1 (heap_old (heap_old (heap_old (heap_new w _) _) _) _)
    have c0 := cell_at z0
    have f0 := frozen_at z0
    have z1 : w1.heap[w.heap.size + 1]? = some _ := heap_below hb1 (heap_old (heap_old (heap_at (n := w.heap.size + 1) (by simp) _) _) _)
    have c1 := cell_at z1
    have f1 := frozen_at z1
    have z2 : w1.heap[w.heap.size + 1 + 1]? = some _ := heap_below hb1 (heap_old (heap_at (n := w.heap.size + 1 + 1) (by simp) _) _)
    have c2 := cell_at z2
    have f2 := frozen_at z2
    go_wp2_with fail
    refine (of_z _ _ HP.out _).mono ?_
    rintro e w2 ⟨rfl, hb2⟩
    rw [← HV.out]
    clear c0 f0 c1 f1 c2 f2
    have hsz := lt_of_block z2
    have z4 : w2.heap[w.heap.size + 1]? = some _ := heap_below hb2 z1
    have c4 := cell_at z4
    have f4 := frozen_at z4
    have z5 : w2.heap[w.heap.size + 1 + 1]? = some _ := heap_below hb2 z2
    have c5 := cell_at z5
    have f5 := frozen_at z5
    have hw2 : Below w.heap.size w w2 := by
      focus (repeat (first | (with_reducible exact Below.refl _ _) | (with_reducible assumption) | ((with_reducible refine Below.setCell ?_ ?_ _); rotate_left; (focus (first | omega | (simp; done) | (simp; omega)))) | ((with_reducible refine Below.alloc ?_ ?_ _); rotate_left; (focus (first | omega | (simp; done) | (simp; omega)))) | (with_reducible refine Below.drew ?_) | (refine below_on ?_ (by assumption))))
    clear z0 z1 z2 hb1 hb2
    go_wp2
    refine leaves_cons (f := 43) (args := #[.pointer (some ⟨w.heap.size + 1 + 1, 0, none⟩), .func (.func 69) #[] #[.pointer (some ⟨w.heap.size + 1, 0, none⟩)]]) (by simp) (by simp [go_sem]) ?_
    refine (caught_idle _ _ _).mono ?_
    rintro e u' w3 ⟨rfl, rfl, rfl⟩
    refine abs_leaves (OutAt w (w.heap.size + 1) (w.heap.size + 1 + 1) (negV p) 0) (out_stored (by omega) (by omega) z4 z5 rfl rfl hw2) fun W hW => ?_
    obtain ⟨y1, y2, hB⟩ := hW
    have c1 := cell_at y1
    have c2 := cell_at y2
    simp [Leaves, settle, results, Try.results25, go_sem, c1, c2]
    first | exact ⟨HE.out, hB⟩ | exact hB
  · have HO := Hd.mk h
    have HV : Hd (negV p = 0) := ⟨by unfold negV; rw [if_neg h]⟩
    have HE : Hd (errC p = 2) := ⟨by unfold errC; rw [if_neg h]⟩
    clear h
    rw [HV.out, HE.out]
    go_enter_defers Try.func25, Try.ntmps25
    go_wp2_with fail
    refine (right_no _ _ [p] _ (ints_one (b := w.heap.size + 1 + 1 + 1) HP.out (by focus (repeat (first | (with_reducible exact heap_at (by first | rfl | (simp; done) | (simp; omega)) _) | (with_reducible refine heap_old ?_ _))))) (by simpa using HO.out)).mono ?_
    rintro e w1 ⟨rfl, hb1⟩
    have z1 : w1.heap[w.heap.size + 1]? = some _ := heap_below hb1 (heap_old (heap_old (heap_at (n := w.heap.size + 1) (by simp) _) _) _)
    have c1 := cell_at z1
    have f1 := frozen_at z1
    have z2 : w1.heap[w.heap.size + 1 + 1]? = some _ := heap_below hb1 (heap_old (heap_at (n := w.heap.size + 1 + 1) (by simp) _) _)
    have c2 := cell_at z2
    have f2 := frozen_at z2
    have hw1 : Below w.heap.size w w1 := by
      focus (repeat (first | (with_reducible exact Below.refl _ _) | (with_reducible assumption) | ((with_reducible refine Below.setCell ?_ ?_ _); rotate_left; (focus (first | omega | (simp; done) | (simp; omega)))) | ((with_reducible refine Below.alloc ?_ ?_ _); rotate_left; (focus (first | omega | (simp; done) | (simp; omega)))) | (with_reducible refine Below.drew ?_) | (refine below_on ?_ (by assumption))))
    clear hb1
    go_wp2

    refine leaves_cons (f := 43) (args := #[.pointer (some ⟨w.heap.size + 1 + 1, 0, none⟩), .func (.func 69) #[] #[.pointer (some ⟨w.heap.size + 1, 0, none⟩)]]) (by simp) (by simp [go_sem]) ?_
    refine (caught_full _ _ 2 _ _ _ _ (Laid (w.heap.size + 1) (#[.bool (ng (0)), .int .u64 (dg (ab (0)) 0), .int .u64 (dg (ab (0)) 1), .int .u64 (dg (ab (0)) 2), .int .u64 (dg (ab (0)) 3)]) _) (cell_at z2 0) (frozen_at z2 0) (fun _ => rfl) (clear_neg (heap_set_other z1 (by simp) _) rfl)).mono ?_
    rintro e u' w3 ⟨rfl, rfl, hL⟩
    refine abs_leaves (OutAt w (w.heap.size + 1) (w.heap.size + 1 + 1) 0 2) (out_cleared (by omega) (by omega) z1 z2 rfl rfl hw1 hL) fun W hW => ?_
    obtain ⟨y1, y2, hB⟩ := hW
    have c1 := cell_at y1
    have c2 := cell_at y2
    simp [Leaves, settle, results, Try.results25, go_sem, c1, c2]
    first | exact ⟨rfl, hB⟩ | exact hB
end Go.Proofs.Yteibcklcegkbcaa
