/-
  The reference Node: of any text, by what it tells. Conditions stand in each theorem.
-/
import Derived.Test.YtbhfnfokihdjjaaGreatDoorTy4
namespace Go.Proofs.YtbhfnfokihdjjaaGreatDoor
open Go.RowKit Go.BigFrame
theorem mem_first {l : List UInt8} {c : UInt8} (h : c ∈ l) : ∃ j, l[j]? = some c ∧ c ∉ l.take j := by
  induction l with
  | nil => cases h
  | cons a l ih =>
    by_cases ha : a = c
    · exact ⟨0, by rw [ha]; rfl, by simp⟩
    · have hm : c ∈ l := by
        rcases List.mem_cons.1 h with h1 | h1
        · exact absurd h1.symm ha
        · exact h1
      obtain ⟨j, h1, h2⟩ := ih hm
      refine ⟨j + 1, h1, ?_⟩
      rw [List.take_succ_cons]
      intro h3
      rcases List.mem_cons.1 h3 with h4 | h4
      · exact ha h4.symm
      · exact h2 h4
theorem blank_in (x y : Int) : (32 : UInt8) ∈ (nodeS x y).data.toList := by
  rw [node_list]
  simp
/-- The reference Node, of any text. -/
theorem rnode_ex (s : ByteArray) (hsz : s.size ≤ 100) :
    ∃ (x y : Int) (b : Bool), (b = true → s = nodeS x y ∧ nodeB x y = true) ∧ (∀ x' y' : Int, nodeB x' y' = true → s = nodeS x' y' → b = true) ∧
    ∀ w : World, Calls Tryz.prog 68 #[.string s] w fun e w' => e = .returned (.tuple #[.agg #[.int .i64 x, .int .i64 y], .bool b]) ∧ Below w.heap.size w w' := by
  by_cases hm : (32 : UInt8) ∈ s.data.toList
  · obtain ⟨j, hj, hno⟩ := mem_first hm
    have hjs : j < s.size := by
      have := (List.getElem?_eq_some_iff.1 hj).1
      rw [size_list] at this
      exact this
    have hsp := cut_list s j 32 hj
    have hL : (32 : UInt8) ∉ (s.extract 0 j).data.toList := by rw [take_list]; exact hno
    obtain ⟨x, a, ha, ca, HX⟩ := rnumber_ex (s.extract 0 j) (by rw [ByteArray.size_extract]; omega)
    obtain ⟨y, b, hb, cb, HY⟩ := rnumber_ex (s.extract (j + 1) s.size) (by rw [ByteArray.size_extract]; omega)
    refine ⟨x, y, a && (b && nodeB x y), fun h => ?_, fun x' y' h1 h2 => ?_, fun w => rnode_cut s hsz j hjs hj hno x y a b (nodeB x y) ⟨HX⟩ ⟨HY⟩ rfl w⟩
    · simp only [Bool.and_eq_true] at h
      exact ⟨node_join hsp (ha h.1).1 (hb h.2.1).1, h.2.2⟩
    · obtain ⟨r1, r2⟩ := node_range h1
      have hl : s.data.toList = Lib.itoa x' ++ 32 :: Lib.itoa y' := by rw [h2, node_list]
      have hsp2 := hl.symm.trans hsp
      obtain ⟨e1, e2⟩ := join_inj 32 _ _ _ _ hsp2 (itoa_no x' 32 (by decide)) hL
      have f1 : s.extract 0 j = itS x' := itS_of e1.symm
      have f2 : s.extract (j + 1) s.size = itS y' := itS_of e2.symm
      have ta := ca x' r1 f1
      have tb := cb y' r2 f2
      obtain ⟨g1, g2, g3⟩ := ha ta
      obtain ⟨g4, g5, g6⟩ := hb tb
      have i1 : x = x' := itS_inj (by omega) (by omega) (g1.symm.trans f1)
      have i2 : y = y' := itS_inj (by omega) (by omega) (g4.symm.trans f2)
      rw [ta, tb, i1, i2, h1]
      rfl
  · exact ⟨0, 0, false, fun h => (by cases h), fun x' y' _ h2 => absurd (h2 ▸ blank_in x' y') hm, fun w => rnode_none s hsz hm w⟩
end Go.Proofs.YtbhfnfokihdjjaaGreatDoor
