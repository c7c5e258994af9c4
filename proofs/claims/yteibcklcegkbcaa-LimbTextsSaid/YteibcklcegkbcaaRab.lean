/-
  A region's post that forgets how it came about; two results laid in two blocks. Conditions stand in each theorem.
-/
import Derived.Test.YteibcklcegkbcaaRf18
namespace Go.Proofs.Yteibcklcegkbcaa
open Go.RowKit Go.BigFrame

theorem lay_two {W : World} {N M : Nat} (zN : W.heap[N]? = some (.cells #[.bool false, .slice none 0 0] 38 (0, 0))) (zM : W.heap[M]? = some (.cells #[.bool false, .slice none 0 0] 38 (0, 0))) (hne : N ≠ M) {x y : Int} {A B : Option Addr} {c d : Nat}
    (h11 : (dd (ab x)).length ≤ c) (h12 : DigAt W A (dd (ab x))) (h21 : (dd (ab y)).length ≤ d) (h22 : DigAt W B (dd (ab y))) :
    BigIn ((((W.setCell ⟨N, 0, none⟩ (.bool (ng x))).setCell ⟨N, 1, none⟩ (.slice A (dd (ab x)).length c)).setCell ⟨M, 0, none⟩ (.bool (ng y))).setCell ⟨M, 1, none⟩ (.slice B (dd (ab y)).length d)) N x ∧
    BigIn ((((W.setCell ⟨N, 0, none⟩ (.bool (ng x))).setCell ⟨N, 1, none⟩ (.slice A (dd (ab x)).length c)).setCell ⟨M, 0, none⟩ (.bool (ng y))).setCell ⟨M, 1, none⟩ (.slice B (dd (ab y)).length d)) M y ∧
    ∀ n, n ≤ N → n ≤ M → Below n W ((((W.setCell ⟨N, 0, none⟩ (.bool (ng x))).setCell ⟨N, 1, none⟩ (.slice A (dd (ab x)).length c)).setCell ⟨M, 0, none⟩ (.bool (ng y))).setCell ⟨M, 1, none⟩ (.slice B (dd (ab y)).length d)) := by
  have y1 := heap_set_other (heap_set_other zM (p := ⟨N, 0, none⟩) (Ne.symm hne) (.bool (ng x))) (p := ⟨N, 1, none⟩) (Ne.symm hne) (.slice A (dd (ab x)).length c)
  exact ⟨⟨A, c, heap_set_other (heap_set_other (laid_both N W _ _ zN rfl) hne _) hne _, h11, (h12.laid zN _ _).laid y1 _ _⟩, ⟨B, d, laid_both _ _ _ _ y1 rfl, h21, (h22.laid zN _ _).laid y1 _ _⟩,
    fun n h1 h2 => ((((Below.refl _ _).setCell h1 _).setCell h1 _).setCell h2 _).setCell h2 _⟩
theorem lay_set_alloc {W : World} {N : Nat} (zN : W.heap[N]? = some (.cells #[.bool false, .slice none 0 0] 38 (0, 0))) {x y : Int} {A B : Option Addr} {c d : Nat}
    (h11 : (dd (ab x)).length ≤ c) (h12 : DigAt W A (dd (ab x))) (h21 : (dd (ab y)).length ≤ d) (h22 : DigAt W B (dd (ab y))) :
    BigIn (((W.setCell ⟨N, 0, none⟩ (.bool (ng x))).setCell ⟨N, 1, none⟩ (.slice A (dd (ab x)).length c)).alloc (.cells #[.bool (ng y), .slice B (dd (ab y)).length d] 38)) N x ∧
    BigIn (((W.setCell ⟨N, 0, none⟩ (.bool (ng x))).setCell ⟨N, 1, none⟩ (.slice A (dd (ab x)).length c)).alloc (.cells #[.bool (ng y), .slice B (dd (ab y)).length d] 38)) W.heap.size y ∧
    ∀ n, n ≤ N → Below n W (((W.setCell ⟨N, 0, none⟩ (.bool (ng x))).setCell ⟨N, 1, none⟩ (.slice A (dd (ab x)).length c)).alloc (.cells #[.bool (ng y), .slice B (dd (ab y)).length d] 38)) := by
  have hl := lt_of_block zN
  have hb : ∀ W' : World, ∀ o, Below W'.heap.size W' (W'.alloc o) := fun W' o => Below.alloc (Below.refl _ _) (Nat.le_refl _) o
  exact ⟨⟨A, c, heap_old (laid_both N W _ _ zN rfl) _, h11, (h12.laid zN _ _).below (hb _ _)⟩, ⟨B, d, heap_at (by simp) _, h21, (h22.laid zN _ _).below (hb _ _)⟩,
    fun n h1 => (((Below.refl _ _).setCell h1 _).setCell h1 _).alloc (by simp; omega) _⟩
theorem lay_alloc2 {W : World} {x y : Int} {A B : Option Addr} {c d : Nat}
    (h11 : (dd (ab x)).length ≤ c) (h12 : DigAt W A (dd (ab x))) (h21 : (dd (ab y)).length ≤ d) (h22 : DigAt W B (dd (ab y))) :
    BigIn ((W.alloc (.cells #[.bool (ng x), .slice A (dd (ab x)).length c] 38)).alloc (.cells #[.bool (ng y), .slice B (dd (ab y)).length d] 38)) W.heap.size x ∧
    BigIn ((W.alloc (.cells #[.bool (ng x), .slice A (dd (ab x)).length c] 38)).alloc (.cells #[.bool (ng y), .slice B (dd (ab y)).length d] 38)) (W.heap.size + 1) y ∧
    ∀ n, n ≤ W.heap.size → Below n W ((W.alloc (.cells #[.bool (ng x), .slice A (dd (ab x)).length c] 38)).alloc (.cells #[.bool (ng y), .slice B (dd (ab y)).length d] 38)) := by
  have hb : ∀ W' : World, ∀ o, Below W'.heap.size W' (W'.alloc o) := fun W' o => Below.alloc (Below.refl _ _) (Nat.le_refl _) o
  exact ⟨⟨A, c, heap_old (heap_new _ _) _, h11, (h12.below (hb _ _)).below (hb _ _)⟩, ⟨B, d, heap_at (by simp) _, h21, (h22.below (hb _ _)).below (hb _ _)⟩,
    fun n h1 => ((Below.refl _ _).alloc h1 _).alloc (by simp; omega) _⟩
theorem heap_two (W : World) (o o' : Obj) : ((W.alloc o).alloc o').heap[W.heap.size + 1]? = some o' := heap_at (by simp) _
/-- A region's post that forgets how it came about. -/
theorem region_abs {P : Program} {id : Nat} {ops : Array Oper} {dr : Bool} {Q : Exit → Act → World → Prop} {a : Act} {w : World} (Qr : Act → Act → World → Prop)
    (h1 : (Code.region id ops dr).wp P (fun ex a' w' => ex = .normal ∧ Qr a a' w') a w) (h2 : ∀ a' w', Qr a a' w' → Q .normal a' w') : (Code.region id ops dr).wp P Q a w :=
  Code.wp_mono (fun ex a' w' h => by obtain ⟨rfl, h⟩ := h; exact h2 a' w' h) h1
end Go.Proofs.Yteibcklcegkbcaa
