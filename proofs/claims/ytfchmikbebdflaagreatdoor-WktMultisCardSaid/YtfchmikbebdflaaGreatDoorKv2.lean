/-
  An argument that is a multipolygon, opened. Conditions stand in each theorem.
-/
import Derived.Test.YtfchmikbebdflaaGreatDoorKso
import Derived.Test.YtfchmikbebdflaaGreatDoorKu8
import Derived.Test.YtfchmikbebdflaaGreatDoorPo
namespace Go.Proofs.YtfchmikbebdflaaGreatDoor
open Go.RowKit Go.ChangeShapes Go.WideShapes Go.ChangeAt

theorem mapM_at {f : Nat → Option Value} : ∀ (l : List Nat) (cs : List Value), l.mapM f = some cs → cs.length = l.length ∧ ∀ (j : Nat) v, cs[j]? = some v → ∃ i, l[j]? = some i ∧ f i = some v
  | [], cs, h => by
    simp at h
    subst h
    exact ⟨rfl, fun j v h => by simp at h⟩
  | a :: l, cs, h => by
    simp only [List.mapM_cons, Option.bind_eq_bind, Option.bind_eq_some_iff, Option.pure_def, Option.some.injEq] at h
    obtain ⟨c, hc, r, hr, rfl⟩ := h
    obtain ⟨h1, h2⟩ := mapM_at l r hr
    refine ⟨by simp [h1], fun j v hj => ?_⟩
    cases j with
    | zero =>
      obtain rfl : c = v := by simpa using hj
      exact ⟨a, rfl, hc⟩
    | succ j => exact h2 j v (by simpa using hj)
theorem cellsRowP : Tryz.prog.cellsOf 47 = 1 := by kernel_rfl
theorem cellsRowsP : Tryz.prog.cellsOf 46 = 1 := by kernel_rfl
theorem pts_read {H : Type} {enc : TypeId × Value → H} {w : World} {base : Nat} {spare : Nat → Bool} {held : Bool} {fuel : Nat} {cs : List Value} {x : DataW H × List MemPlace}
    (h : DataW.trod enc Tryz.prog w base spare held fuel 47 cs = some x) : ∃ v l, cs = [v] ∧ RingP w v l ∧ ∀ x ∈ l, ltX x := by
  have hu : Tryz.prog.underlying 47 = some (.slice 93) := by kernel_rfl
  rcases DataW.trod_slice hu h with ⟨rfl, _⟩ | ⟨a, n, c, elems, rest, m, _, rfl, _, _, hl, hm, hlen, hel, _⟩
  · exact ⟨_, [], rfl, ⟨none, 0, rfl, Nat.le_refl _, by decide, fun h0 => absurd h0 (by simp)⟩, fun x hx => by simp at hx⟩
  · obtain ⟨ps, hpl, hpc⟩ := list_of (R := fun i (q : Pq) => ltX q ∧ ∀ j v, (pqC q)[j]? = some v → w.cell? ((a.add (i * 20)).add j) = some v) n (fun i hi => by
      have hei := hel i hi
      rw [cellsPnt, List.getElem?_eq_getElem (by omega : i < elems.length), Option.bind_eq_some_iff] at hei
      obtain ⟨cs, hcs, ht⟩ := hei
      unfold World.cells? at hcs
      split at hcs
      · obtain ⟨h1, h2⟩ := mapM_at _ _ hcs
        rw [List.length_range] at h1
        obtain ⟨p, q, r, s, hp, hq, hr, hs, rfl⟩ := pnt_read h1 ht
        refine ⟨(p, q, r, s), ⟨hp, hq, hr, hs⟩, fun j v hj => ?_⟩
        obtain ⟨i', hi', hf⟩ := h2 j v hj
        have e : i' = j := by
          rw [List.getElem?_range] at hi'
          · exact (Option.some.inj hi').symm
          · have := (List.getElem?_eq_some_iff.1 hi').1
            rwa [List.length_range] at this
        subst e
        exact hf
      · cases hcs)
    refine ⟨_, ps, rfl, ⟨some a, c, by rw [hpl], by omega, hm, fun h0 => ?_⟩, fun x hx => ?_⟩
    · obtain ⟨b, off, spot⟩ := a
      have hs : spot = none := by
        obtain ⟨q, hq⟩ : ∃ q, ps[0]? = some q := ⟨_, List.getElem?_eq_getElem h0⟩
        have g := (hpc 0 q hq).2 0 _ rfl
        simpa [Addr.add] using World.cell?_spot g
      subst hs
      refine ⟨b, off, rfl, fun j q hq i v hv => ?_⟩
      have g := (hpc j q hq).2 i v hv
      rw [addr_here, addr_here] at g
      exact g
    · obtain ⟨j, hj⟩ := List.mem_iff_getElem?.1 hx
      exact (hpc j x hj).1
theorem part_read {H : Type} {enc : TypeId × Value → H} {w : World} {base : Nat} {spare : Nat → Bool} {held : Bool} {fuel : Nat} {cs : List Value} {x : DataW H × List MemPlace}
    (h : DataW.trod enc Tryz.prog w base spare held fuel 46 cs = some x) : ∃ v L, cs = [v] ∧ PartIn w v L ∧ ∀ l ∈ L, ∀ x ∈ l, ltX x := by
  have hu : Tryz.prog.underlying 46 = some (.slice 47) := by kernel_rfl
  rcases DataW.trod_slice hu h with ⟨rfl, _⟩ | ⟨a, n, c, elems, rest, m, _, rfl, _, _, hl, hm, hlen, hel, _⟩
  · exact ⟨_, [], rfl, ⟨none, 0, [], rfl, fun h0 => absurd h0 (by simp), rfl, fun _ _ _ h => by simp at h⟩, fun x hx => by simp at hx⟩
  · obtain ⟨ps, hpl, hpc⟩ := list_of (R := fun i (q : Value × List Pq) => w.cell? ((a.add (i * 1)).add 0) = some q.1 ∧ RingP w q.1 q.2 ∧ ∀ x ∈ q.2, ltX x) n (fun i hi => by
      have hei := hel i hi
      rw [cellsRowP, List.getElem?_eq_getElem (by omega : i < elems.length), Option.bind_eq_some_iff] at hei
      obtain ⟨cs, hcs, ht⟩ := hei
      unfold World.cells? at hcs
      split at hcs
      · obtain ⟨c0, rfl, g0⟩ := one_mapM hcs
        obtain ⟨v, l, hv, hr, hlt⟩ := pts_read ht
        obtain rfl : c0 = v := by simpa using hv
        exact ⟨(c0, l), g0, hr, hlt⟩
      · cases hcs)
    refine ⟨_, ps.map (·.2), rfl, ⟨some a, c, ps.map (·.1), by rw [List.length_map, hpl], fun h0 => ?_, by simp, fun j v l hv hl => ?_⟩, fun l hl => ?_⟩
    · obtain ⟨b, off, spot⟩ := a
      have hs : spot = none := by
        obtain ⟨q, hq⟩ : ∃ q, ps[0]? = some q := ⟨_, List.getElem?_eq_getElem (by simpa using h0)⟩
        have g := (hpc 0 q hq).1
        simpa [Addr.add] using World.cell?_spot g
      subst hs
      refine ⟨b, off, rfl, fun j v hv => ?_⟩
      rw [List.getElem?_map, Option.map_eq_some_iff] at hv
      obtain ⟨q, hq, rfl⟩ := hv
      have g := (hpc j q hq).1
      rw [addr_here, addr_here] at g
      simpa using g
    · rw [List.getElem?_map, Option.map_eq_some_iff] at hv hl
      obtain ⟨q, hq, rfl⟩ := hv
      obtain ⟨q', hq', rfl⟩ := hl
      obtain rfl : q = q' := by rw [hq] at hq'; exact Option.some.inj hq'
      exact (hpc j q hq).2.1
    · obtain ⟨j, hj⟩ := List.mem_iff_getElem?.1 hl
      rw [List.getElem?_map, Option.map_eq_some_iff] at hj
      obtain ⟨q, hq, rfl⟩ := hj
      exact (hpc j q hq).2.2
set_option maxRecDepth 100000 in
theorem open_multi_arg {H : Type} {enc : TypeId × Value → H} {w : World} {base : Nat} {spare : Nat → Bool} {held : Bool} {r : Reach} {b0 : Nat} {v : Value} {d : DataW H} {p : List MemPlace}
    (hv : Value.okWide Tryz.prog w r b0 45 v) (h : DataW.Trod enc Tryz.prog w base spare held 45 v d p) :
    ∃ (A : Option Addr) (M : List (List (List Pq))) (cap : Nat), v = .slice A M.length cap ∧ MultiIn w A M ∧ ∀ L ∈ M, ∀ l ∈ L, ∀ x ∈ l, ltX x := by
  have hu : Tryz.prog.underlying 45 = some (.slice 46) := by kernel_rfl
  obtain ⟨a, n, c, rfl⟩ := okWide_slice hu hv
  obtain ⟨fuel, hf⟩ := h
  have hf' : DataW.trod enc Tryz.prog w base spare held fuel 45 [.slice a n c] = some (d, p) := by simpa [Value.cells] using hf
  rcases DataW.trod_slice hu hf' with ⟨h0, _⟩ | ⟨a', len, cap, elems, rest, m, _, h1, _, _, hl, hm, hlen, hel, _⟩
  · simp only [List.cons.injEq, Value.slice.injEq, and_true] at h0
    obtain ⟨rfl, rfl, rfl⟩ := h0
    exact ⟨none, [], 0, rfl, ⟨[], fun h => absurd h (by simp), rfl, fun _ _ _ h => by simp at h⟩, fun x hx => by simp at hx⟩
  · simp only [List.cons.injEq, Value.slice.injEq, and_true] at h1
    obtain ⟨rfl, rfl, rfl⟩ := h1
    obtain ⟨ps, hpl, hpc⟩ := list_of (R := fun i (q : Value × List (List Pq)) => w.cell? ((a'.add (i * 1)).add 0) = some q.1 ∧ PartIn w q.1 q.2 ∧ ∀ l ∈ q.2, ∀ x ∈ l, ltX x) n (fun i hi => by
      have hei := hel i hi
      rw [cellsRowsP, List.getElem?_eq_getElem (by omega : i < elems.length), Option.bind_eq_some_iff] at hei
      obtain ⟨cs, hcs, ht⟩ := hei
      unfold World.cells? at hcs
      split at hcs
      · obtain ⟨c0, rfl, g0⟩ := one_mapM hcs
        obtain ⟨v, L, hv, hr, hlt⟩ := part_read ht
        obtain rfl : c0 = v := by simpa using hv
        exact ⟨(c0, L), g0, hr, hlt⟩
      · cases hcs)
    refine ⟨some a', ps.map (·.2), c, by rw [List.length_map, hpl], ⟨ps.map (·.1), fun h0 => ?_, by simp, fun j v l hv hl => ?_⟩, fun L hL => ?_⟩
    · obtain ⟨b, off, spot⟩ := a'
      have hs : spot = none := by
        obtain ⟨q, hq⟩ : ∃ q, ps[0]? = some q := ⟨_, List.getElem?_eq_getElem (by simpa using h0)⟩
        have g := (hpc 0 q hq).1
        simpa [Addr.add] using World.cell?_spot g
      subst hs
      refine ⟨b, off, rfl, fun j v hv => ?_⟩
      rw [List.getElem?_map, Option.map_eq_some_iff] at hv
      obtain ⟨q, hq, rfl⟩ := hv
      have g := (hpc j q hq).1
      rw [addr_here, addr_here] at g
      simpa using g
    · rw [List.getElem?_map, Option.map_eq_some_iff] at hv hl
      obtain ⟨q, hq, rfl⟩ := hv
      obtain ⟨q', hq', rfl⟩ := hl
      obtain rfl : q = q' := by rw [hq] at hq'; exact Option.some.inj hq'
      exact (hpc j q hq).2.1
    · obtain ⟨j, hj⟩ := List.mem_iff_getElem?.1 hL
      rw [List.getElem?_map, Option.map_eq_some_iff] at hj
      obtain ⟨q, hq, rfl⟩ := hj
      exact (hpc j q hq).2.2
end Go.Proofs.YtfchmikbebdflaaGreatDoor
