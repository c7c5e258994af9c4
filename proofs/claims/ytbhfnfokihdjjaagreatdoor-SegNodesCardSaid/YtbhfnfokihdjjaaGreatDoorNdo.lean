/-
  An argument that is a slice of segments, opened. Conditions stand in each theorem.
-/
import Derived.Test.YtbhfnfokihdjjaaGreatDoorNd2
import Derived.Test.YtbhfnfokihdjjaaGreatDoorSgo
namespace Go.Proofs.YtbhfnfokihdjjaaGreatDoor
open Go.RowKit Go.ChangeShapes Go.WideShapes Go.ChangeAt

theorem add_here (b off n : Nat) : (⟨b, off, none⟩ : Addr).add n = ⟨b, off + n, none⟩ := by
  unfold Addr.add
  split
  · rename_i h; rw [h]; rfl
  · rfl
theorem four_mapM {f : Nat → Option Value} {cs : List Value} (h : (List.range 4).mapM f = some cs) :
    ∃ c0 c1 c2 c3, cs = [c0, c1, c2, c3] ∧ f 0 = some c0 ∧ f 1 = some c1 ∧ f 2 = some c2 ∧ f 3 = some c3 := by
  rw [show List.range 4 = [0, 1, 2, 3] from rfl] at h
  simp only [List.mapM_cons, List.mapM_nil, Option.bind_eq_bind, Option.bind_eq_some_iff, Option.pure_def, Option.some.injEq] at h
  obtain ⟨c0, h0, r0, ⟨c1, h1, r1, ⟨c2, h2, r2, ⟨c3, h3, r3, hr3, hr2⟩, hr1⟩, hr0⟩, hr⟩ := h
  subst hr3; subst hr2; subst hr1; subst hr0; subst hr
  exact ⟨c0, c1, c2, c3, rfl, h0, h1, h2, h3⟩
set_option maxRecDepth 100000 in
theorem open_segs_arg {H : Type} {enc : TypeId × Value → H} {w : World} {base : Nat} {spare : Nat → Bool} {held : Bool} {r : Reach} {b0 : Nat} {v : Value} {d : DataW H} {p : List MemPlace}
    (hv : Value.okWide Tryz.prog w r b0 80 v) (h : DataW.Trod enc Tryz.prog w base spare held 80 v d p) :
    ∃ (A : Option Addr) (n c : Nat), v = .slice A n c ∧ ∃ L : List Sgm, L.length = n ∧ SegsAt w A L := by
  have hu : Tryz.prog.underlying 80 = some (.slice 25) := by kernel_rfl
  obtain ⟨a, n, c, rfl⟩ := okWide_slice hu hv
  obtain ⟨fuel, hf⟩ := h
  have hf' : DataW.trod enc Tryz.prog w base spare held fuel 80 [.slice a n c] = some (d, p) := by simpa [Value.cells] using hf
  rcases DataW.trod_slice hu hf' with ⟨h0, _⟩ | ⟨a', len, cap, elems, rest, m, _, h1, _, _, hl, hm, hlen, hel, _⟩
  · simp only [List.cons.injEq, Value.slice.injEq, and_true] at h0
    obtain ⟨rfl, rfl, rfl⟩ := h0
    exact ⟨none, 0, 0, rfl, [], rfl, fun h => absurd h (by simp)⟩
  · simp only [List.cons.injEq, Value.slice.injEq, and_true] at h1
    obtain ⟨rfl, rfl, rfl⟩ := h1
    refine ⟨some a', n, c, rfl, ?_⟩
    have each : ∀ i, i < n → ∃ q : Sgm, ∀ j, j < 4 → w.cell? ((a'.add (i * 4)).add j) = (sgC q)[j]? := by
      intro i hi
      have hei := hel i hi
      rw [cellsSeg, List.getElem?_eq_getElem (by omega : i < elems.length), Option.bind_eq_some_iff] at hei
      obtain ⟨cs, hcs, ht⟩ := hei
      unfold World.cells? at hcs
      split at hcs
      · obtain ⟨c0, c1, c2, c3, rfl, g0, g1, g2, g3⟩ := four_mapM hcs
        obtain ⟨x, y, u, t, rfl, rfl, rfl, rfl⟩ := seg_read ht
        refine ⟨((x, y), (u, t)), fun j hj => ?_⟩
        obtain rfl | rfl | rfl | rfl : j = 0 ∨ j = 1 ∨ j = 2 ∨ j = 3 := by omega
        · exact g0
        · exact g1
        · exact g2
        · exact g3
      · cases hcs
    have build : ∀ k, k ≤ n → ∃ ps : List Sgm, ps.length = k ∧ ∀ i q, ps[i]? = some q → ∀ j, j < 4 → w.cell? ((a'.add (i * 4)).add j) = (sgC q)[j]? := by
      intro k
      induction k with
      | zero => exact fun _ => ⟨[], rfl, by simp⟩
      | succ k ih =>
        intro hk
        obtain ⟨ps, hl, hc⟩ := ih (by omega)
        obtain ⟨q, hcq⟩ := each k (by omega)
        refine ⟨ps ++ [q], by simp [hl], ?_⟩
        intro i x hx
        by_cases hi : i < ps.length
        · rw [List.getElem?_append_left hi] at hx
          exact hc i x hx
        · rw [List.getElem?_append_right (by omega)] at hx
          have hi2 : i - ps.length = 0 := by
            have := (List.getElem?_eq_some_iff.1 hx).1
            simp at this
            omega
          rw [hi2] at hx
          simp only [List.getElem?_cons_zero, Option.some.injEq] at hx
          subst hx
          obtain rfl : i = k := by omega
          exact hcq
    obtain ⟨ps, hpl, hpc⟩ := build n (Nat.le_refl _)
    refine ⟨ps, hpl, fun h0 => ?_⟩
    obtain ⟨b, off, spot⟩ := a'
    have hs : spot = none := by
      obtain ⟨q, hq⟩ : ∃ q, ps[0]? = some q := ⟨_, List.getElem?_eq_getElem h0⟩
      have g := hpc 0 q hq 0 (by omega)
      have g2 : w.cell? ((⟨b, off, spot⟩ : Addr).add (0 * 4) |>.add 0) = some (.int .i64 q.1.1) := g
      simpa [Addr.add] using World.cell?_spot g2
    subst hs
    refine ⟨b, off, rfl, fun j q hq i hi => ?_⟩
    have g := hpc j q hq i hi
    rw [add_here, add_here] at g
    exact g
end Go.Proofs.YtbhfnfokihdjjaaGreatDoor
