/-
  Arguments that are a node and a segment, opened. Conditions stand in each theorem.
-/
import Derived.Below
import Derived.Carry
import Derived.ChangeOld
import Derived.OpenShut
import Derived.ProofKit
import Derived.ShutString
import Derived.Test.YtfchmikbebdflaaGreatDoorSg3
namespace Go.Proofs.YtfchmikbebdflaaGreatDoor
open Go.RowKit Go.ChangeShapes Go.WideShapes Go.ChangeAt

theorem cellsNode : Tryz.prog.cellsOf 24 = 2 := by kernel_rfl
theorem cellsSeg : Tryz.prog.cellsOf 26 = 4 := by kernel_rfl
theorem cellsI64 : Tryz.prog.cellsOf 2 = 1 := by kernel_rfl
theorem fields_node : (Tryz.prog.fieldsOf 24).toList.map (fun f => (f.type, f.offset)) = [(2, 0), (2, 1)] := by kernel_rfl
theorem fields_seg : (Tryz.prog.fieldsOf 26).toList.map (fun f => (f.type, f.offset)) = [(24, 0), (24, 2)] := by kernel_rfl
theorem two_fields {fs : Array Field} {t u : TypeId} {i j : Nat} (h : fs.toList.map (fun f => (f.type, f.offset)) = [(t, i), (u, j)]) :
    ∃ f0 f1, fs.size = 2 ∧ fs[0]? = some f0 ∧ fs[1]? = some f1 ∧ f0.type = t ∧ f0.offset = i ∧ f1.type = u ∧ f1.offset = j := by
  obtain ⟨l⟩ := fs
  match l, h with
  | [f0, f1], h =>
    simp at h
    exact ⟨f0, f1, rfl, rfl, rfl, h.1.1, h.1.2, h.2.1, h.2.2⟩
/-- Two cells that read as a node. -/
theorem node_read {H : Type} {enc : TypeId × Value → H} {w : World} {base : Nat} {spare : Nat → Bool} {held : Bool} {fuel : Nat} {c0 c1 : Value} {x : DataW H × List MemPlace}
    (h : DataW.trod enc Tryz.prog w base spare held fuel 24 [c0, c1] = some x) : ∃ (a b : Int), c0 = .int .i64 a ∧ c1 = .int .i64 b := by
  have hu : Tryz.prog.underlying 24 = some (.struct (Tryz.prog.fieldsOf 24)) := by kernel_rfl
  obtain ⟨xs, m, rfl, hx, hl, hxl, hf⟩ := DataW.trod_struct hu h
  obtain ⟨f0, f1, hs, hf0, hf1, g0, o0, g1, o1⟩ := two_fields fields_node
  generalize Tryz.prog.fieldsOf 24 = fs at hf hxl hs hf0 hf1
  have k0 := hf 0 f0 hf0
  have k1 := hf 1 f1 hf1
  rw [g0, o0, cellsI64] at k0
  rw [g1, o1, cellsI64] at k1
  rw [List.getElem?_eq_getElem (by omega : 0 < xs.length)] at k0
  rw [List.getElem?_eq_getElem (by omega : 1 < xs.length)] at k1
  simp only [List.drop_zero, List.drop_succ_cons, List.take_succ_cons, List.take_zero] at k0 k1
  obtain ⟨a, ha, _, _⟩ := DataW.trod_int Tryz.underlying2 k0
  obtain ⟨b, hb, _, _⟩ := DataW.trod_int Tryz.underlying2 k1
  exact ⟨a, b, by simpa using ha, by simpa using hb⟩
theorem seg_read {H : Type} {enc : TypeId × Value → H} {w : World} {base : Nat} {spare : Nat → Bool} {held : Bool} {fuel : Nat} {c0 c1 c2 c3 : Value} {x : DataW H × List MemPlace}
    (h : DataW.trod enc Tryz.prog w base spare held fuel 26 [c0, c1, c2, c3] = some x) : ∃ (a b c d : Int), c0 = .int .i64 a ∧ c1 = .int .i64 b ∧ c2 = .int .i64 c ∧ c3 = .int .i64 d := by
  have hu : Tryz.prog.underlying 26 = some (.struct (Tryz.prog.fieldsOf 26)) := by kernel_rfl
  obtain ⟨xs, m, rfl, hx, hl, hxl, hf⟩ := DataW.trod_struct hu h
  obtain ⟨f0, f1, hs, hf0, hf1, g0, o0, g1, o1⟩ := two_fields fields_seg
  generalize Tryz.prog.fieldsOf 26 = fs at hf hxl hs hf0 hf1
  have k0 := hf 0 f0 hf0
  have k1 := hf 1 f1 hf1
  rw [g0, o0, cellsNode] at k0
  rw [g1, o1, cellsNode] at k1
  rw [List.getElem?_eq_getElem (by omega : 0 < xs.length)] at k0
  rw [List.getElem?_eq_getElem (by omega : 1 < xs.length)] at k1
  simp only [List.drop_zero, List.drop_succ_cons, List.take_succ_cons, List.take_zero] at k0 k1
  obtain ⟨a, b, ha, hb⟩ := node_read k0
  obtain ⟨c, d, hc, hd⟩ := node_read k1
  exact ⟨a, b, c, d, ha, hb, hc, hd⟩
theorem ints2_of {l : List Value} (h : l.length = 2) : ∃ a b, l = [a, b] := by
  match l, h with
  | [a, b], _ => exact ⟨a, b, rfl⟩
theorem ints4_of {l : List Value} (h : l.length = 4) : ∃ a b c d, l = [a, b, c, d] := by
  match l, h with
  | [a, b, c, d], _ => exact ⟨a, b, c, d, rfl⟩
set_option maxRecDepth 100000 in
theorem open_node_arg {H : Type} {enc : TypeId × Value → H} {w : World} {base : Nat} {spare : Nat → Bool} {held : Bool} {r : Reach} {b0 : Nat} {v : Value} {d : DataW H} {p : List MemPlace}
    (hv : Value.okWide Tryz.prog w r b0 24 v) (h : DataW.Trod enc Tryz.prog w base spare held 24 v d p) :
    ∃ (x y : Int), v = .agg #[.int .i64 x, .int .i64 y] := by
  have hu : Tryz.prog.underlying 24 = some (.struct (Tryz.prog.fieldsOf 24)) := by kernel_rfl
  obtain ⟨⟨l⟩, rfl, hsz⟩ := okWide_struct hu hv
  rw [cellsNode] at hsz
  obtain ⟨c0, c1, rfl⟩ := ints2_of (by simpa using hsz)
  obtain ⟨fuel, hf⟩ := h
  obtain ⟨a, b, rfl, rfl⟩ := node_read (by simpa [Value.cells] using hf)
  exact ⟨a, b, rfl⟩
set_option maxRecDepth 100000 in
theorem open_seg_arg {H : Type} {enc : TypeId × Value → H} {w : World} {base : Nat} {spare : Nat → Bool} {held : Bool} {r : Reach} {b0 : Nat} {v : Value} {d : DataW H} {p : List MemPlace}
    (hv : Value.okWide Tryz.prog w r b0 26 v) (h : DataW.Trod enc Tryz.prog w base spare held 26 v d p) :
    ∃ (a b c e : Int), v = .agg #[.int .i64 a, .int .i64 b, .int .i64 c, .int .i64 e] := by
  have hu : Tryz.prog.underlying 26 = some (.struct (Tryz.prog.fieldsOf 26)) := by kernel_rfl
  obtain ⟨⟨l⟩, rfl, hsz⟩ := okWide_struct hu hv
  rw [cellsSeg] at hsz
  obtain ⟨c0, c1, c2, c3, rfl⟩ := ints4_of (by simpa using hsz)
  obtain ⟨fuel, hf⟩ := h
  obtain ⟨a, b, c, e, rfl, rfl, rfl, rfl⟩ := seg_read (by simpa [Value.cells] using hf)
  exact ⟨a, b, c, e, rfl⟩
end Go.Proofs.YtfchmikbebdflaaGreatDoor
