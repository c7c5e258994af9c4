/-
  few, Same and Text of any shape, for the law WktBack. Conditions stand in each theorem.
-/
import Derived.Test.YtfchmikbebdflaaGreatDoorKl3
namespace Go.Proofs.YtfchmikbebdflaaGreatDoor
open Go.RowKit Go.BigFrame Go.Shelf

/-- Few corners. -/
def Few (Ls : List (List Nd)) : Prop := (∀ l ∈ Ls, l.length ≤ 40) ∧ Ls.length ≤ 10
theorem Few.total : ∀ {Ls : List (List Nd)}, (∀ l ∈ Ls, l.length ≤ 40) → total Ls ≤ 40 * Ls.length
  | [], _ => by simp [Go.Proofs.YtfchmikbebdflaaGreatDoor.total]
  | l :: Ls, h => by
    have h1 := h l (by simp)
    have h2 := Few.total (Ls := Ls) fun k hk => h k (by simp [hk])
    simp [Go.Proofs.YtfchmikbebdflaaGreatDoor.total] at h2 ⊢
    omega
theorem few_ring {l : List Nd} (hl : l.length ≤ 40) (h : ∀ p ∈ l, P64 p) : (ringL l).length ≤ 2000 := by
  have h1 := join_le (B := 43) (ps := (l ++ l.take 1).map nodeL) (fun p hp => by
    obtain ⟨q, hq, rfl⟩ := List.mem_map.1 hp
    rcases List.mem_append.1 hq with h2 | h2
    · exact nodeL_len (h q h2)
    · exact nodeL_len (h q (List.mem_of_mem_take h2)))
  rw [List.length_map, List.length_append, List.length_take] at h1
  unfold ringL bodyL
  rw [List.length_cons, List.length_append, List.length_cons, List.length_nil]
  omega
theorem few_text {s : Shp} (h : checkV s = 0) (hf : Few s.rs) : (textL s).length ≤ 1000000 := by
  obtain ⟨is, g, Ls⟩ := s
  rcases wcheck_ok h with ⟨h1, h2, h3⟩ | ⟨h1, h2, h3, _, _⟩
  · simp only at h1 h2 h3
    subst h1
    have hn := segB_nodes h3
    have e1 := nodeL_len (node_64 hn.1)
    have e2 := nodeL_len (node_64 hn.2)
    rw [textL, if_pos rfl, List.length_append, List.length_append]
    simp only
    rw [sgL_parts]
    simp [segW] at e1 e2 ⊢
    omega
  · simp only at h1 h3 hf
    subst h1
    have hlen : ∀ p ∈ Ls.map ringL, p.length ≤ 2000 := fun p hp => by
      obtain ⟨q, hq, rfl⟩ := List.mem_map.1 hp
      exact few_ring (hf.1 q hq) (h3.2.2 q hq).2.2
    have h5 := join_le hlen
    have h6 := hf.2
    rw [List.length_map] at h5
    rw [textL, if_neg (by simp), List.length_append]
    unfold tailL
    simp [polW]
    omega
/-- Text, of a shape that may be. -/
theorem wtext_any (s : Shp) (h : checkV s = 0) (A : Option Addr) (c : Nat) (w : World) (hV : Vars w) (hR : RingsIn w A s.rs) :
    Calls Tryz.prog 8 #[.agg (shV s A c)] w fun e w' => e = .returned (.tuple #[.string (bs (textL s)), .int .i64 0]) ∧ Below w.heap.size w w' := by
  obtain ⟨is, g, Ls⟩ := s
  rcases wcheck_ok h with ⟨h1, h2, h3⟩ | ⟨h1, h2, h3, h4, h5⟩
  · simp only at h1 h2 h3
    subst h1
    subst h2
    exact wtext_seg g h3 A c w hV
  · simp only at h1 h2 h3 h4 h5
    subst h1
    subst h2
    exact wtext_rings Ls h3 h4 h5 A c w hV hR
set_option maxRecDepth 100000 in
set_option maxHeartbeats 4000000 in
/-- few, of any shape. -/
theorem few_any (is : Bool) (g0 g1 g2 g3 : Int) (Ls : List (List Nd)) (hl : (Ls.length : Int) ≤ 9223372036854775807) (A : Option Addr) (c : Nat) (w : World) (hR : RingsIn w A Ls) :
    Calls Tryz.prog 17 #[.agg #[.bool is, .int .i64 g0, .int .i64 g1, .int .i64 g2, .int .i64 g3, .slice A Ls.length c]] w fun e w' => ∃ b, e = .returned (.bool b) ∧ (b = true ↔ Few Ls) ∧ Below w.heap.size w w' := by
  obtain ⟨vs, hcl, hro⟩ := hR
  have HV := Hd.mk (And.intro hcl hro)
  have hvl := hro.1
  clear hcl hro
  go_enter Tryz.func17, Tryz.ntmps17
  go_upto_region 1 with (fail)
  refine abs_wp (fun W => W.heap[w.heap.size]? = some (.cells #[.bool is, .int .i64 g0, .int .i64 g1, .int .i64 g2, .int .i64 g3, .slice A Ls.length c] 29 (0, 0)) ∧ Below w.heap.size w W) ⟨heap_new _ _, (Below.refl _ _).alloc (Nat.le_refl _) _⟩ fun W0 ⟨z0, hB⟩ => ?_
  have c0 := cell_at z0
  go_wp2
  go_loopw [3] (fun iv wr => ∃ i : Nat, iv = .int .i64 i ∧ i ≤ Ls.length ∧ wr = W0 ∧ Hd (∀ l ∈ Ls.take i, l.length ≤ 40)) (fun iv _ => Ls.length - (intOf iv).toNat)
  case atStart => exact ⟨0, rfl, Nat.zero_le _, rfl, ⟨by simp⟩⟩
  case round =>
    obtain ⟨i, rfl, hi, rfl, HL⟩ := hrel
    by_cases hlt : i < Ls.length
    · have hd1 : decide ((i : Int) < (Ls.length : Int)) = true := by simp; omega
      have hd2 : decide (i < Ls.length) = true := by simp; omega
      obtain ⟨b1, o1, rfl, hcv⟩ := HV.out.1.below hB (by omega)
      obtain ⟨lr, hlr⟩ : ∃ lr, Ls[i]? = some lr := ⟨_, List.getElem?_eq_getElem hlt⟩
      obtain ⟨v, hv⟩ : ∃ v, vs[i]? = some v := ⟨_, List.getElem?_eq_getElem (by omega)⟩
      have q1 := hcv i v hv
      obtain ⟨A1, d1, rfl, _, _, _⟩ := HV.out.2.2 i v lr hv hlr
      have HM := Hd.mk hlr
      clear hcv hlr hv
      by_cases h40 : 40 < lr.length
      · have hd3 : decide ((40 : Int) < (lr.length : Int)) = true := by simp; omega
        go_wp2
        go_ret
        exact ⟨_, rfl, ⟨(fun h => by cases h), (fun h => by have := h.1 lr (List.mem_of_getElem? HM.out); omega)⟩, hB⟩
      · have hd3 : decide ((40 : Int) < (lr.length : Int)) = false := by simp; omega
        go_wp2
        go_roundw
        case rel => exact ⟨i + 1, by go_num, by omega, trivial, ⟨fun l hm => by
          rw [List.take_add_one, HM.out, List.mem_append] at hm
          rcases hm with hm | hm
          · exact HL.out l hm
          · simp at hm
            subst hm
            omega⟩⟩
        case measure => simp [intOf]; omega
    · obtain rfl : i = Ls.length := by omega
      have hd1 : decide (((Ls.length : Nat) : Int) < (Ls.length : Int)) = false := by simp
      go_wp2
      go_ret
      refine ⟨_, rfl, ?_, hB⟩
      have := HL.out
      rw [List.take_length] at this
      unfold Few
      simp
      constructor
      · exact fun h => ⟨this, by omega⟩
      · exact fun h => by have := h.2; omega
end Go.Proofs.YtfchmikbebdflaaGreatDoor
