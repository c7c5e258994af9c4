/-
  An argument that is a shape, opened: its rings as they are read. Conditions stand in each theorem.
-/
import Derived.Test.YtfchmikbebdflaaGreatDoorKw2
import Derived.Test.YtfchmikbebdflaaGreatDoorSgo
namespace Go.Proofs.YtfchmikbebdflaaGreatDoor
open Go.RowKit Go.ChangeShapes Go.WideShapes Go.ChangeAt

theorem addr_here (b off n : Nat) : (⟨b, off, none⟩ : Addr).add n = ⟨b, off + n, none⟩ := by
  unfold Addr.add
  split
  · rename_i h; rw [h]; rfl
  · rfl
theorem list_of {α : Type} {R : Nat → α → Prop} : ∀ n : Nat, (∀ i, i < n → ∃ q, R i q) → ∃ ps : List α, ps.length = n ∧ ∀ i q, ps[i]? = some q → R i q
  | 0, _ => ⟨[], rfl, by simp⟩
  | n + 1, h => by
    obtain ⟨ps, hl, hc⟩ := list_of n fun i hi => h i (by omega)
    obtain ⟨q, hq⟩ := h n (by omega)
    refine ⟨ps ++ [q], by simp [hl], fun i x hx => ?_⟩
    by_cases hi : i < ps.length
    · rw [List.getElem?_append_left hi] at hx
      exact hc i x hx
    · rw [List.getElem?_append_right (by omega)] at hx
      have hi2 : i - ps.length = 0 := by
        have := (List.getElem?_eq_some_iff.1 hx).1
        simp at this
        omega
      rw [hi2] at hx
      simp only [List.getElem?_cons_zero, Option.some.injEq] at hx
      subst hx
      obtain rfl : i = n := by omega
      exact hq
theorem two_mapM {f : Nat → Option Value} {cs : List Value} (h : (List.range 2).mapM f = some cs) : ∃ c0 c1, cs = [c0, c1] ∧ f 0 = some c0 ∧ f 1 = some c1 := by
  rw [show List.range 2 = [0, 1] from rfl] at h
  simp only [List.mapM_cons, List.mapM_nil, Option.bind_eq_bind, Option.bind_eq_some_iff, Option.pure_def, Option.some.injEq] at h
  obtain ⟨c0, h0, r0, ⟨c1, h1, r1, hr1, hr0⟩, hr⟩ := h
  subst hr1; subst hr0; subst hr
  exact ⟨c0, c1, rfl, h0, h1⟩
theorem one_mapM {f : Nat → Option Value} {cs : List Value} (h : (List.range 1).mapM f = some cs) : ∃ c0, cs = [c0] ∧ f 0 = some c0 := by
  rw [show List.range 1 = [0] from rfl] at h
  simp only [List.mapM_cons, List.mapM_nil, Option.bind_eq_bind, Option.bind_eq_some_iff, Option.pure_def, Option.some.injEq] at h
  obtain ⟨c0, h0, r0, hr0, hr⟩ := h
  subst hr0; subst hr
  exact ⟨c0, rfl, h0⟩
theorem cellsRow : Tryz.prog.cellsOf 30 = 1 := by kernel_rfl
theorem cellsRows : Tryz.prog.cellsOf 27 = 1 := by kernel_rfl
theorem cellsBool : Tryz.prog.cellsOf 4 = 1 := by kernel_rfl
theorem cellsShape : Tryz.prog.cellsOf 29 = 6 := by kernel_rfl
theorem nds_read {H : Type} {enc : TypeId × Value → H} {w : World} {base : Nat} {spare : Nat → Bool} {held : Bool} {fuel : Nat} {cs : List Value} {x : DataW H × List MemPlace}
    (h : DataW.trod enc Tryz.prog w base spare held fuel 30 cs = some x) : ∃ v l, cs = [v] ∧ RingIn w v l := by
  have hu : Tryz.prog.underlying 30 = some (.slice 24) := by kernel_rfl
  rcases DataW.trod_slice hu h with ⟨rfl, _⟩ | ⟨a, n, c, elems, rest, m, _, rfl, _, _, hl, hm, hlen, hel, _⟩
  · exact ⟨_, [], rfl, none, 0, rfl, Nat.le_refl _, by decide, fun h0 => absurd h0 (by simp)⟩
  · obtain ⟨ps, hpl, hpc⟩ := list_of (R := fun i (q : Nd) => w.cell? ((a.add (i * 2)).add 0) = some (.int .i64 q.1) ∧ w.cell? ((a.add (i * 2)).add 1) = some (.int .i64 q.2)) n (fun i hi => by
      have hei := hel i hi
      rw [cellsNode, List.getElem?_eq_getElem (by omega : i < elems.length), Option.bind_eq_some_iff] at hei
      obtain ⟨cs, hcs, ht⟩ := hei
      unfold World.cells? at hcs
      split at hcs
      · obtain ⟨c0, c1, rfl, g0, g1⟩ := two_mapM hcs
        obtain ⟨x, y, rfl, rfl⟩ := node_read ht
        exact ⟨(x, y), g0, g1⟩
      · cases hcs)
    refine ⟨_, ps, rfl, some a, c, by rw [hpl], by omega, hm, fun h0 => ?_⟩
    obtain ⟨b, off, spot⟩ := a
    have hs : spot = none := by
      obtain ⟨q, hq⟩ : ∃ q, ps[0]? = some q := ⟨_, List.getElem?_eq_getElem h0⟩
      have g := (hpc 0 q hq).1
      simpa [Addr.add] using World.cell?_spot g
    subst hs
    refine ⟨b, off, rfl, fun j q hq => ?_⟩
    have g := hpc j q hq
    rw [addr_here, addr_here, addr_here] at g
    exact g
theorem rings_read {H : Type} {enc : TypeId × Value → H} {w : World} {base : Nat} {spare : Nat → Bool} {held : Bool} {fuel : Nat} {cs : List Value} {x : DataW H × List MemPlace}
    (h : DataW.trod enc Tryz.prog w base spare held fuel 27 cs = some x) : ∃ A Ls c, cs = [.slice A (List.length Ls) c] ∧ RingsIn w A Ls ∧ Ls.length ≤ maxLen := by
  have hu : Tryz.prog.underlying 27 = some (.slice 30) := by kernel_rfl
  rcases DataW.trod_slice hu h with ⟨rfl, _⟩ | ⟨a, n, c, elems, rest, m, _, rfl, _, _, hl, hm, hlen, hel, _⟩
  · exact ⟨none, [], 0, rfl, ⟨[], fun h0 => absurd h0 (by simp), rfl, fun _ _ _ h => by simp at h⟩, by decide⟩
  · obtain ⟨ps, hpl, hpc⟩ := list_of (R := fun i (q : Value × List Nd) => w.cell? ((a.add (i * 1)).add 0) = some q.1 ∧ RingIn w q.1 q.2) n (fun i hi => by
      have hei := hel i hi
      rw [cellsRow, List.getElem?_eq_getElem (by omega : i < elems.length), Option.bind_eq_some_iff] at hei
      obtain ⟨cs, hcs, ht⟩ := hei
      unfold World.cells? at hcs
      split at hcs
      · obtain ⟨c0, rfl, g0⟩ := one_mapM hcs
        obtain ⟨v, l, hv, hr⟩ := nds_read ht
        obtain rfl : c0 = v := by simpa using hv
        exact ⟨(c0, l), g0, hr⟩
      · cases hcs)
    refine ⟨some a, ps.map (·.2), c, by rw [List.length_map, hpl], ⟨ps.map (·.1), fun h0 => ?_, by simp, fun j v l hv hl => ?_⟩, by rw [List.length_map]; omega⟩
    · obtain ⟨b, off, spot⟩ := a
      have hs : spot = none := by
        obtain ⟨q, hq⟩ : ∃ q, ps[0]? = some q := ⟨_, List.getElem?_eq_getElem (by simpa using h0)⟩
        have g := (hpc 0 q hq).1
        simpa [Addr.add] using World.cell?_spot g
      subst hs
      refine ⟨b, off, rfl, fun j v hv => ?_⟩
      rw [List.getElem?_map, Option.map_eq_some_iff] at hv
      obtain ⟨q, hq, rfl⟩ := hv
      have g := (hpc j q hq).1
      rw [addr_here, addr_here] at g
      simpa using g
    · rw [List.getElem?_map, Option.map_eq_some_iff] at hv hl
      obtain ⟨q, hq, rfl⟩ := hv
      obtain ⟨q', hq', rfl⟩ := hl
      obtain rfl : q = q' := by rw [hq] at hq'; exact Option.some.inj hq'
      exact (hpc j q hq).2
theorem fields_shape : (Tryz.prog.fieldsOf 29).toList.map (fun f => (f.type, f.offset)) = [(4, 0), (26, 1), (27, 5)] := by kernel_rfl
theorem three_fields {fs : Array Field} {t u v : TypeId} {i j k : Nat} (h : fs.toList.map (fun f => (f.type, f.offset)) = [(t, i), (u, j), (v, k)]) :
    ∃ f0 f1 f2, fs.size = 3 ∧ fs[0]? = some f0 ∧ fs[1]? = some f1 ∧ fs[2]? = some f2 ∧ f0.type = t ∧ f0.offset = i ∧ f1.type = u ∧ f1.offset = j ∧ f2.type = v ∧ f2.offset = k := by
  obtain ⟨l⟩ := fs
  match l, h with
  | [f0, f1, f2], h =>
    simp at h
    exact ⟨f0, f1, f2, rfl, rfl, rfl, rfl, h.1.1, h.1.2, h.2.1.1, h.2.1.2, h.2.2.1, h.2.2.2⟩
theorem len_six {l : List Value} (h : l.length = 6) : ∃ a b c d e f, l = [a, b, c, d, e, f] := by
  match l, h with
  | [a, b, c, d, e, f], _ => exact ⟨a, b, c, d, e, f, rfl⟩
theorem shape_read {H : Type} {enc : TypeId × Value → H} {w : World} {base : Nat} {spare : Nat → Bool} {held : Bool} {fuel : Nat} {c0 c1 c2 c3 c4 c5 : Value} {x : DataW H × List MemPlace}
    (h : DataW.trod enc Tryz.prog w base spare held fuel 29 [c0, c1, c2, c3, c4, c5] = some x) :
    ∃ (is : Bool) (a b c d : Int) (A : Option Addr) (Ls : List (List Nd)) (cap : Nat), c0 = .bool is ∧ c1 = .int .i64 a ∧ c2 = .int .i64 b ∧ c3 = .int .i64 c ∧ c4 = .int .i64 d ∧ c5 = .slice A Ls.length cap ∧ RingsIn w A Ls ∧ Ls.length ≤ maxLen := by
  have hu : Tryz.prog.underlying 29 = some (.struct (Tryz.prog.fieldsOf 29)) := by kernel_rfl
  obtain ⟨xs, m, rfl, hx, hl, hxl, hf⟩ := DataW.trod_struct hu h
  obtain ⟨f0, f1, f2, hs, hf0, hf1, hf2, g0, o0, g1, o1, g2, o2⟩ := three_fields fields_shape
  generalize Tryz.prog.fieldsOf 29 = fs at hf hxl hs hf0 hf1 hf2
  have k0 := hf 0 f0 hf0
  have k1 := hf 1 f1 hf1
  have k2 := hf 2 f2 hf2
  rw [g0, o0, cellsBool] at k0
  rw [g1, o1, cellsSeg] at k1
  rw [g2, o2, cellsRows] at k2
  rw [List.getElem?_eq_getElem (by omega : 0 < xs.length)] at k0
  rw [List.getElem?_eq_getElem (by omega : 1 < xs.length)] at k1
  rw [List.getElem?_eq_getElem (by omega : 2 < xs.length)] at k2
  simp only [List.drop_zero, List.drop_succ_cons, List.take_succ_cons, List.take_zero] at k0 k1 k2
  obtain ⟨is, hb, _⟩ := DataW.trod_bool Tryz.underlying4 k0
  obtain ⟨a, b, c, d, rfl, rfl, rfl, rfl⟩ := seg_read k1
  obtain ⟨A, Ls, cap, hc, hr, hn⟩ := rings_read k2
  exact ⟨is, a, b, c, d, A, Ls, cap, by simpa using hb, rfl, rfl, rfl, rfl, by simpa using hc, hr, hn⟩
set_option maxRecDepth 100000 in
theorem open_shape_arg {H : Type} {enc : TypeId × Value → H} {w : World} {base : Nat} {spare : Nat → Bool} {held : Bool} {r : Reach} {b0 : Nat} {v : Value} {d : DataW H} {p : List MemPlace}
    (hv : Value.okWide Tryz.prog w r b0 29 v) (h : DataW.Trod enc Tryz.prog w base spare held 29 v d p) :
    ∃ (is : Bool) (a b c e : Int) (A : Option Addr) (Ls : List (List Nd)) (cap : Nat), v = .agg #[.bool is, .int .i64 a, .int .i64 b, .int .i64 c, .int .i64 e, .slice A Ls.length cap] ∧ RingsIn w A Ls ∧ Ls.length ≤ maxLen := by
  have hu : Tryz.prog.underlying 29 = some (.struct (Tryz.prog.fieldsOf 29)) := by kernel_rfl
  obtain ⟨⟨l⟩, rfl, hsz⟩ := okWide_struct hu hv
  rw [cellsShape] at hsz
  obtain ⟨c0, c1, c2, c3, c4, c5, rfl⟩ := len_six (by simpa using hsz)
  obtain ⟨fuel, hf⟩ := h
  obtain ⟨is, a, b, c, e, A, Ls, cap, rfl, rfl, rfl, rfl, rfl, rfl, hr, hn⟩ := shape_read (by simpa [Value.cells] using hf)
  exact ⟨is, a, b, c, e, A, Ls, cap, rfl, hr, hn⟩
end Go.Proofs.YtfchmikbebdflaaGreatDoor
