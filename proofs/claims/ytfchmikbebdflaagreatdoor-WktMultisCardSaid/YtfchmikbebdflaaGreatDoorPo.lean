/-
  An argument that is a point, opened: four signs and magnitudes. Conditions stand in each theorem.
-/
import Derived.Test.YtfchmikbebdflaaGreatDoorSgo
import Derived.Test.YtfchmikbebdflaaGreatDoorOp
namespace Go.Proofs.YtfchmikbebdflaaGreatDoor
open Go.RowKit Go.ChangeShapes Go.WideShapes Go.ChangeAt

theorem cellsRat : Tryz.prog.cellsOf 91 = 10 := by kernel_rfl
theorem cellsPnt : Tryz.prog.cellsOf 93 = 20 := by kernel_rfl
theorem fields_rat : (Tryz.prog.fieldsOf 91).toList.map (fun f => (f.type, f.offset)) = [(89, 0), (89, 5)] := by kernel_rfl
theorem fields_pnt : (Tryz.prog.fieldsOf 93).toList.map (fun f => (f.type, f.offset)) = [(91, 0), (91, 10)] := by kernel_rfl
theorem len5 {l : List Value} (h : l.length = 5) : ∃ a b c d e, l = [a, b, c, d, e] := by
  match l, h with
  | [a, b, c, d, e], _ => exact ⟨a, b, c, d, e, rfl⟩
theorem int_read {H : Type} {enc : TypeId × Value → H} {w : World} {base : Nat} {spare : Nat → Bool} {held : Bool} {fuel : Nat} {l : List Value} {x : DataW H × List MemPlace} (hl : l.length = 5)
    (h : DataW.trod enc Tryz.prog w base spare held fuel 89 l = some x) : ∃ q : Bool × Nat, q.2 < 2 ^ 256 ∧ l = [.bool q.1, .int .u64 (dg (q.2) 0), .int .u64 (dg (q.2) 1), .int .u64 (dg (q.2) 2), .int .u64 (dg (q.2) 3)] := by
  obtain ⟨c0, c1, c2, c3, c4, rfl⟩ := len5 hl
  obtain ⟨s, n, hn, rfl, rfl, rfl, rfl, rfl⟩ := five_read h
  exact ⟨(s, n), hn, rfl⟩
theorem rat_read {H : Type} {enc : TypeId × Value → H} {w : World} {base : Nat} {spare : Nat → Bool} {held : Bool} {fuel : Nat} {l : List Value} {x : DataW H × List MemPlace} (hl : l.length = 10)
    (h : DataW.trod enc Tryz.prog w base spare held fuel 91 l = some x) : ∃ p q : Bool × Nat, p.2 < 2 ^ 256 ∧ q.2 < 2 ^ 256 ∧ l = [.bool p.1, .int .u64 (dg (p.2) 0), .int .u64 (dg (p.2) 1), .int .u64 (dg (p.2) 2), .int .u64 (dg (p.2) 3), .bool q.1, .int .u64 (dg (q.2) 0), .int .u64 (dg (q.2) 1), .int .u64 (dg (q.2) 2), .int .u64 (dg (q.2) 3)] := by
  have hu : Tryz.prog.underlying 91 = some (.struct (Tryz.prog.fieldsOf 91)) := by kernel_rfl
  obtain ⟨xs, m, rfl, hx, hlen, hxl, hf⟩ := DataW.trod_struct hu h
  obtain ⟨f0, f1, hs, hf0, hf1, g0, o0, g1, o1⟩ := two_fields fields_rat
  generalize Tryz.prog.fieldsOf 91 = fs at hf hxl hs hf0 hf1
  have k0 := hf 0 f0 hf0
  have k1 := hf 1 f1 hf1
  rw [g0, o0, cellsInt] at k0
  rw [g1, o1, cellsInt] at k1
  rw [List.getElem?_eq_getElem (by omega : 0 < xs.length)] at k0
  rw [List.getElem?_eq_getElem (by omega : 1 < xs.length)] at k1
  obtain ⟨p, hp, e0⟩ := int_read (by simp [hl]) k0
  obtain ⟨q, hq, e1⟩ := int_read (by simp [hl]) k1
  refine ⟨p, q, hp, hq, ?_⟩
  have e2 : l.take 5 = [.bool p.1, .int .u64 (dg (p.2) 0), .int .u64 (dg (p.2) 1), .int .u64 (dg (p.2) 2), .int .u64 (dg (p.2) 3)] := by simpa using e0
  have e3 : l.drop 5 = [.bool q.1, .int .u64 (dg (q.2) 0), .int .u64 (dg (q.2) 1), .int .u64 (dg (q.2) 2), .int .u64 (dg (q.2) 3)] := by
    rw [List.take_of_length_le (by simp [hl])] at e1
    exact e1
  rw [← List.take_append_drop 5 l, e2, e3]
  rfl
theorem pnt_read {H : Type} {enc : TypeId × Value → H} {w : World} {base : Nat} {spare : Nat → Bool} {held : Bool} {fuel : Nat} {l : List Value} {x : DataW H × List MemPlace} (hl : l.length = 20)
    (h : DataW.trod enc Tryz.prog w base spare held fuel 93 l = some x) : ∃ p q r s : Bool × Nat, p.2 < 2 ^ 256 ∧ q.2 < 2 ^ 256 ∧ r.2 < 2 ^ 256 ∧ s.2 < 2 ^ 256 ∧ l = [.bool p.1, .int .u64 (dg (p.2) 0), .int .u64 (dg (p.2) 1), .int .u64 (dg (p.2) 2), .int .u64 (dg (p.2) 3), .bool q.1, .int .u64 (dg (q.2) 0), .int .u64 (dg (q.2) 1), .int .u64 (dg (q.2) 2), .int .u64 (dg (q.2) 3), .bool r.1, .int .u64 (dg (r.2) 0), .int .u64 (dg (r.2) 1), .int .u64 (dg (r.2) 2), .int .u64 (dg (r.2) 3), .bool s.1, .int .u64 (dg (s.2) 0), .int .u64 (dg (s.2) 1), .int .u64 (dg (s.2) 2), .int .u64 (dg (s.2) 3)] := by
  have hu : Tryz.prog.underlying 93 = some (.struct (Tryz.prog.fieldsOf 93)) := by kernel_rfl
  obtain ⟨xs, m, rfl, hx, hlen, hxl, hf⟩ := DataW.trod_struct hu h
  obtain ⟨f0, f1, hs, hf0, hf1, g0, o0, g1, o1⟩ := two_fields fields_pnt
  generalize Tryz.prog.fieldsOf 93 = fs at hf hxl hs hf0 hf1
  have k0 := hf 0 f0 hf0
  have k1 := hf 1 f1 hf1
  rw [g0, o0, cellsRat] at k0
  rw [g1, o1, cellsRat] at k1
  rw [List.getElem?_eq_getElem (by omega : 0 < xs.length)] at k0
  rw [List.getElem?_eq_getElem (by omega : 1 < xs.length)] at k1
  obtain ⟨p, q, hp, hq, e0⟩ := rat_read (by simp [hl]) k0
  obtain ⟨r, s, hr, hs', e1⟩ := rat_read (by simp [hl]) k1
  refine ⟨p, q, r, s, hp, hq, hr, hs', ?_⟩
  have e2 : l.take 10 = [.bool p.1, .int .u64 (dg (p.2) 0), .int .u64 (dg (p.2) 1), .int .u64 (dg (p.2) 2), .int .u64 (dg (p.2) 3), .bool q.1, .int .u64 (dg (q.2) 0), .int .u64 (dg (q.2) 1), .int .u64 (dg (q.2) 2), .int .u64 (dg (q.2) 3)] := by
    rw [List.drop_zero] at e0
    exact e0
  have e3 : l.drop 10 = [.bool r.1, .int .u64 (dg (r.2) 0), .int .u64 (dg (r.2) 1), .int .u64 (dg (r.2) 2), .int .u64 (dg (r.2) 3), .bool s.1, .int .u64 (dg (s.2) 0), .int .u64 (dg (s.2) 1), .int .u64 (dg (s.2) 2), .int .u64 (dg (s.2) 3)] := by
    rw [List.take_of_length_le (by simp [hl])] at e1
    exact e1
  rw [← List.take_append_drop 10 l, e2, e3]
  rfl
set_option maxRecDepth 100000 in
/-- A point that is handed in: four pairs of a sign and a magnitude. -/
theorem open_pnt_arg {H : Type} {enc : TypeId × Value → H} {w : World} {base : Nat} {spare : Nat → Bool} {held : Bool} {r : Reach} {b0 : Nat} {v : Value} {d : DataW H} {p : List MemPlace}
    (hv : Value.okWide Tryz.prog w r b0 93 v) (h : DataW.Trod enc Tryz.prog w base spare held 93 v d p) :
    ∃ p q r s : Bool × Nat, p.2 < 2 ^ 256 ∧ q.2 < 2 ^ 256 ∧ r.2 < 2 ^ 256 ∧ s.2 < 2 ^ 256 ∧ v = .agg #[.bool p.1, .int .u64 (dg (p.2) 0), .int .u64 (dg (p.2) 1), .int .u64 (dg (p.2) 2), .int .u64 (dg (p.2) 3), .bool q.1, .int .u64 (dg (q.2) 0), .int .u64 (dg (q.2) 1), .int .u64 (dg (q.2) 2), .int .u64 (dg (q.2) 3), .bool r.1, .int .u64 (dg (r.2) 0), .int .u64 (dg (r.2) 1), .int .u64 (dg (r.2) 2), .int .u64 (dg (r.2) 3), .bool s.1, .int .u64 (dg (s.2) 0), .int .u64 (dg (s.2) 1), .int .u64 (dg (s.2) 2), .int .u64 (dg (s.2) 3)] := by
  have hu : Tryz.prog.underlying 93 = some (.struct (Tryz.prog.fieldsOf 93)) := by kernel_rfl
  obtain ⟨⟨l⟩, rfl, hsz⟩ := okWide_struct hu hv
  rw [cellsPnt] at hsz
  obtain ⟨fuel, hf⟩ := h
  obtain ⟨p, q, r, s, hp, hq, hr, hs, rfl⟩ := pnt_read (l := l) (by simpa using hsz) (by simpa [Value.cells] using hf)
  exact ⟨p, q, r, s, hp, hq, hr, hs, rfl⟩
end Go.Proofs.YtfchmikbebdflaaGreatDoor
