/-
  An argument that is an Int, opened: its sign and its magnitude. Conditions stand in each theorem.
-/
import Derived.Below
import Derived.Carry
import Derived.ChangeOld
import Derived.OpenShut
import Derived.ProofKit
import Derived.ShutString
import Derived.Test.YtfchmikbebdflaaGreatDoorRf6
namespace Go.Proofs.YtfchmikbebdflaaGreatDoor
open Go.RowKit Go.ChangeShapes Go.WideShapes Go.ChangeAt

theorem cellsInt : Tryz.prog.cellsOf 89 = 5 := by kernel_rfl
theorem cellsBool : Tryz.prog.cellsOf 4 = 1 := by kernel_rfl
theorem cellsArr : Tryz.prog.cellsOf 87 = 4 := by kernel_rfl
/-- Five cells that read as an Int. -/
theorem five_read {H : Type} {enc : TypeId × Value → H} {w : World} {base : Nat} {spare : Nat → Bool} {held : Bool} {fuel : Nat} {c0 c1 c2 c3 c4 : Value} {x : DataW H × List MemPlace}
    (h : DataW.trod enc Tryz.prog w base spare held fuel 89 [c0, c1, c2, c3, c4] = some x) :
    ∃ (s : Bool) (n : Nat), n < 2 ^ 256 ∧ c0 = .bool s ∧ c1 = .int .u64 (dg n 0) ∧ c2 = .int .u64 (dg n 1) ∧ c3 = .int .u64 (dg n 2) ∧ c4 = .int .u64 (dg n 3) := by
  have hu : Tryz.prog.underlying 89 = some (.struct (Tryz.prog.fieldsOf 89)) := by kernel_rfl
  obtain ⟨xs, m, rfl, hx, hl, hxl, hf⟩ := DataW.trod_struct hu h
  have hfi := fieldsInt
  generalize Tryz.prog.fieldsOf 89 = fs at hf hfi hxl
  have hs : fs.size = 2 := by
    have := congrArg List.length hfi
    simpa using this
  obtain ⟨f0, hf0⟩ : ∃ f, fs[0]? = some f := ⟨_, Array.getElem?_eq_getElem (by omega)⟩
  obtain ⟨f1, hf1⟩ : ∃ f, fs[1]? = some f := ⟨_, Array.getElem?_eq_getElem (by omega)⟩
  have g0 : f0.type = 4 ∧ f0.offset = 0 := by
    have := congrArg (fun l => l[0]?) hfi
    simp [hf0] at this
    exact this.2
  have g1 : f1.type = 87 ∧ f1.offset = 1 := by
    have := congrArg (fun l => l[1]?) hfi
    simp [hf1] at this
    exact this.2
  have k0 := hf 0 f0 hf0
  have k1 := hf 1 f1 hf1
  rw [g0.1, g0.2, cellsBool] at k0
  rw [g1.1, g1.2, cellsArr] at k1
  obtain ⟨y0, hy0⟩ : ∃ y, xs[0]? = some y := ⟨_, List.getElem?_eq_getElem (by omega)⟩
  obtain ⟨y1, hy1⟩ : ∃ y, xs[1]? = some y := ⟨_, List.getElem?_eq_getElem (by omega)⟩
  rw [hy0] at k0
  rw [hy1] at k1
  simp only [List.drop_zero, List.drop_succ_cons, List.take_succ_cons, List.take_zero] at k0 k1
  obtain ⟨s, hs0, _⟩ := DataW.trod_bool Tryz.underlying4 k0
  obtain ⟨zs, m', _, _, _, hzl, hz⟩ := DataW.trod_array Tryz.underlying87 k1
  have one : ∀ i, i < 4 → ∀ c, ([c1, c2, c3, c4].drop (i * Tryz.prog.cellsOf 86)).take (Tryz.prog.cellsOf 86) = [c] → ∃ a : Int, c = .int .u64 a ∧ 0 ≤ a ∧ a < 18446744073709551616 := by
    intro i hi c hc
    have hzi := hz i hi
    rw [hc, List.getElem?_eq_getElem (by omega : i < zs.length)] at hzi
    obtain ⟨a, ha, _, hw⟩ := DataW.trod_int Tryz.underlying86 hzi
    refine ⟨a, by simpa using ha, ?_⟩
    simp [Lit.wf, IntKind.min, IntKind.max, IntKind.signed, IntKind.bits] at hw
    omega
  rw [cells22] at one
  obtain ⟨a0, rfl, p0, q0⟩ := one 0 (by omega) c1 rfl
  obtain ⟨a1, rfl, p1, q1⟩ := one 1 (by omega) c2 rfl
  obtain ⟨a2, rfl, p2, q2⟩ := one 2 (by omega) c3 rfl
  obtain ⟨a3, rfl, p3, q3⟩ := one 3 (by omega) c4 rfl
  obtain ⟨d0, d1, d2, d3⟩ := dg_mg p0 p1 p2 p3 q0 q1 q2 q3
  exact ⟨s, mg a0 a1 a2 a3, mg_lt p0 p1 p2 p3 q0 q1 q2 q3, by simpa using hs0, by rw [d0], by rw [d1], by rw [d2], by rw [d3]⟩
set_option maxRecDepth 100000 in
theorem open_int_arg {H : Type} {enc : TypeId × Value → H} {w : World} {base : Nat} {spare : Nat → Bool} {held : Bool} {r : Reach} {b0 : Nat} {v : Value} {d : DataW H} {p : List MemPlace}
    (hv : Value.okWide Tryz.prog w r b0 89 v) (h : DataW.Trod enc Tryz.prog w base spare held 89 v d p) :
    ∃ (q : Bool × Nat), q.2 < 2 ^ 256 ∧ v = .agg #[.bool (q.1), .int .u64 (dg (q.2) 0), .int .u64 (dg (q.2) 1), .int .u64 (dg (q.2) 2), .int .u64 (dg (q.2) 3)] := by
  have hu : Tryz.prog.underlying 89 = some (.struct (Tryz.prog.fieldsOf 89)) := by kernel_rfl
  obtain ⟨cs, rfl, hsz⟩ := okWide_struct hu hv
  rw [cellsInt] at hsz
  obtain ⟨c0, c1, c2, c3, c4, rfl⟩ := five_of hsz
  obtain ⟨fuel, hf⟩ := h
  obtain ⟨s, n, hn, rfl, rfl, rfl, rfl, rfl⟩ := five_read (by simpa [Value.cells] using hf)
  exact ⟨(s, n), hn, rfl⟩
end Go.Proofs.YtfchmikbebdflaaGreatDoor
