/-
  An argument that is a row of numbers, opened. Conditions stand in each theorem.
-/
import Derived.Below
import Derived.Carry
import Derived.ChangeOld
import Derived.OpenShut
import Derived.ProofKit
import Derived.ShutString
import Derived.Test.YtfgdichdddknlaaDoorGt9
namespace Go.Proofs.YtfgdichdddknlaaDoor
open Go.RowKit Go.ChangeShapes Go.WideShapes Go.ChangeAt

theorem cellsNum : Tryd.prog.cellsOf 2 = 1 := by kernel_rfl
theorem one_cell {f : Nat → Option Value} {cs : List Value} (h : (List.range 1).mapM f = some cs) : ∃ c0, cs = [c0] ∧ f 0 = some c0 := by
  rw [show List.range 1 = [0] from rfl] at h
  simp only [List.mapM_cons, List.mapM_nil, Option.bind_eq_bind, Option.bind_eq_some_iff, Option.pure_def, Option.some.injEq] at h
  obtain ⟨c0, h0, r0, hr0, hr⟩ := h
  subst hr0; subst hr
  exact ⟨c0, rfl, h0⟩
theorem list_ofT {α : Type} {R : Nat → α → Prop} : ∀ (n : Nat), (∀ i, i < n → ∃ x, R i x) → ∃ l : List α, l.length = n ∧ ∀ (i : Nat) x, l[i]? = some x → R i x
  | 0, _ => ⟨[], rfl, fun _ _ h => by simp at h⟩
  | n + 1, h => by
    obtain ⟨l, hl, hr⟩ := list_ofT (R := R) n fun i hi => h i (by omega)
    obtain ⟨x, hx⟩ := h n (by omega)
    refine ⟨l ++ [x], by simp [hl], fun i y hy => ?_⟩
    rcases Nat.lt_or_ge i n with h1 | h1
    · rw [List.getElem?_append_left (by omega)] at hy
      exact hr i y hy
    · have hil := (List.getElem?_eq_some_iff.1 hy).1
      obtain rfl : i = n := by simp [hl] at hil; omega
      rw [List.getElem?_append_right (by omega), hl] at hy
      simp at hy
      subst hy
      exact hx
set_option maxRecDepth 100000 in
theorem open_nums_arg {H : Type} {enc : TypeId × Value → H} {w : World} {base : Nat} {spare : Nat → Bool} {held : Bool} {r : Reach} {b0 : Nat} {v : Value} {d : DataW H} {p : List MemPlace}
    (hv : Value.okWide Tryd.prog w r b0 22 v) (h : DataW.Trod enc Tryd.prog w base spare held 22 v d p) :
    ∃ (A : Option Addr) (l : List Int) (cap : Nat), v = .slice A l.length cap ∧ NumsIn w A l := by
  have hu : Tryd.prog.underlying 22 = some (.slice 2) := by kernel_rfl
  obtain ⟨a, n, c, rfl⟩ := okWide_slice hu hv
  obtain ⟨fuel, hf⟩ := h
  have hf' : DataW.trod enc Tryd.prog w base spare held fuel 22 [.slice a n c] = some (d, p) := by simpa [Value.cells] using hf
  rcases DataW.trod_slice hu hf' with ⟨h0, _⟩ | ⟨a', len, cap, elems, rest, m, _, h1, _, _, hl, hm, hlen, hel, _⟩
  · simp only [List.cons.injEq, Value.slice.injEq, and_true] at h0
    obtain ⟨rfl, rfl, rfl⟩ := h0
    exact ⟨none, [], 0, rfl, fun h => absurd h (by simp)⟩
  · simp only [List.cons.injEq, Value.slice.injEq, and_true] at h1
    obtain ⟨rfl, rfl, rfl⟩ := h1
    obtain ⟨ps, hpl, hpc⟩ := list_ofT (R := fun i (q : Int) => w.cell? ((a'.add (i * 1)).add 0) = some (.int .i64 q)) n (fun i hi => by
      have hei := hel i hi
      rw [cellsNum, List.getElem?_eq_getElem (by omega : i < elems.length), Option.bind_eq_some_iff] at hei
      obtain ⟨cs, hcs, ht⟩ := hei
      unfold World.cells? at hcs
      split at hcs
      · obtain ⟨c0, rfl, g0⟩ := one_cell hcs
        obtain ⟨q, hq, _, _⟩ := DataW.trod_int Tryd.underlying2 ht
        obtain rfl : c0 = .int .i64 q := by simpa using hq
        exact ⟨q, g0⟩
      · cases hcs)
    refine ⟨some a', ps, c, by rw [hpl], fun h0 => ?_⟩
    obtain ⟨b, off, spot⟩ := a'
    have hs : spot = none := by
      obtain ⟨q, hq⟩ : ∃ q, ps[0]? = some q := ⟨_, List.getElem?_eq_getElem h0⟩
      have g := hpc 0 q hq
      simpa [Addr.add] using World.cell?_spot g
    subst hs
    refine ⟨b, off, rfl, fun j x hj => ?_⟩
    have g := hpc j x hj
    rw [addr_at, addr_at] at g
    simpa using g
end Go.Proofs.YtfgdichdddknlaaDoor
