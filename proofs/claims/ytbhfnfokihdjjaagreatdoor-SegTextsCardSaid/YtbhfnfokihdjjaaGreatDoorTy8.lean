/-
  seg.Parse, of any text: as the reference. Conditions stand in each theorem.
-/
import Derived.Test.YtbhfnfokihdjjaaGreatDoorTy7
namespace Go.Proofs.YtbhfnfokihdjjaaGreatDoor
open Go.RowKit Go.BigFrame
theorem index_none (c : UInt8) : ∀ l : List UInt8, c ∉ l → Lib.index l [c] = -1
  | [], _ => rfl
  | a :: l, h => by
    have h1 : a ≠ c := fun e => h (by simp [e])
    have h2 : c ∉ l := fun e => h (by simp [e])
    have h3 : ([c] : List UInt8).isPrefixOf (a :: l) = false := by
      simp [List.isPrefixOf]
      exact fun e => absurd e.symm h1
    rw [Lib.index, index_none c l h2, h3]
    rfl
theorem cut_none (c : UInt8) (l : List UInt8) (h : c ∉ l) : Lib.cut l [c] = (l, [], false) := by
  unfold Lib.cut
  rw [index_none c l h, if_neg (by omega)]
def I64 (n : Int) : Prop := -9223372036854775808 ≤ n ∧ n ≤ 9223372036854775807
/-- node of seg, of any text. -/
theorem node_any (s : ByteArray) (hsz : s.size ≤ 100) :
    (∃ x y : Int, I64 x ∧ I64 y ∧ s = nodeS x y ∧ Hd (∀ w, Vars w → Calls Tryz.prog 67 #[.string s] w fun e w' => e = .returned (.agg #[.int .i64 x, .int .i64 y]) ∧ Below w.heap.size w w')) ∨
    Hd (∀ w : World, Vars w → Calls Tryz.prog 67 #[.string s] w fun e w' => e = .panicked [{ v := .iface 26 (.int .i64 140), recovered := false }] ∧ Below w.heap.size w w') := by
  have num : ∀ t : ByteArray, t.size ≤ 100 → (∃ n : Int, I64 n ∧ t = itS n ∧ Hd (∀ w, Vars w → Calls Tryz.prog 96 #[.string t] w fun e w' => e = .returned (.int .i64 n) ∧ Below w.heap.size w w')) ∨
      Hd (∀ w : World, Vars w → Calls Tryz.prog 96 #[.string t] w fun e w' => e = .panicked [{ v := .iface 26 (.int .i64 140), recovered := false }] ∧ Below w.heap.size w w') := by
    intro t ht
    by_cases h : ∃ n : Int, I64 n ∧ t = itS n
    · obtain ⟨n, hn, he⟩ := h
      exact .inl ⟨n, hn, he, ⟨fun w hv => number_ok t n (by omega) hn.1 hn.2 (by rw [he]; exact parse_itoa n hn.1 hn.2) he.symm w hv⟩⟩
    · exact .inr ⟨fun w hv => number_no t ht (fun n hn he => h ⟨n, hn, he⟩) w hv⟩
  by_cases hm : (32 : UInt8) ∈ s.data.toList
  · obtain ⟨j, hj, hno⟩ := mem_first hm
    have hjs : j < s.size := by
      have := (List.getElem?_eq_some_iff.1 hj).1
      rw [size_list] at this
      exact this
    have hsp := cut_list s j 32 hj
    have hL : (32 : UInt8) ∉ (s.extract 0 j).data.toList := by rw [take_list]; exact hno
    have hc : Lib.cut s.data.toList (⟨#[32]⟩ : ByteArray).data.toList = ((s.extract 0 j).data.toList, (s.extract (j + 1) s.size).data.toList, true) := by
      have h1 := cut_at 32 _ (s.extract (j + 1) s.size).data.toList hL
      rw [← hsp] at h1
      exact h1
    rcases num (s.extract 0 j) (by rw [ByteArray.size_extract]; omega) with ⟨x, hx, ex, HX⟩ | HX
    · rcases num (s.extract (j + 1) s.size) (by rw [ByteArray.size_extract]; omega) with ⟨y, hy, ey, HY⟩ | HY
      · exact .inl ⟨x, y, hx, hy, node_join hsp ex ey, ⟨fun w hv => seg_node_ok s _ _ x y (by omega) hc HX HY w hv⟩⟩
      · exact .inr ⟨fun w hv => node_n3 s _ _ (by omega) hc x HX HY w hv⟩
    · exact .inr ⟨fun w hv => node_n2 s _ _ (by omega) hc HX w hv⟩
  · have hc : Lib.cut s.data.toList (⟨#[32]⟩ : ByteArray).data.toList = (s.data.toList, (⟨#[]⟩ : ByteArray).data.toList, false) := cut_none 32 _ hm
    exact .inr ⟨fun w hv => node_n1 s s ⟨#[]⟩ (by omega) hc w hv⟩
/-- Parse of seg, of any text: what the reference tells. -/
theorem segp_any (s : ByteArray) (hsz : s.size ≤ 100) (c0 c1 c2 c3 e : Int) (h : e = 0 ∧ segB c0 c1 c2 c3 = true ∧ s = segS c0 c1 c2 c3 ∨ e = 140 ∧ c0 = 0 ∧ c1 = 0 ∧ c2 = 0 ∧ c3 = 0 ∧ ∀ a b c d : Int, segB a b c d = true → s ≠ segS a b c d) (w : World) (hV : Vars w) :
    Calls Tryz.prog 31 #[.string s] w fun x w' => x = .returned (.tuple #[.agg #[.int .i64 c0, .int .i64 c1, .int .i64 c2, .int .i64 c3], .int .i64 e]) ∧ Below w.heap.size w w' := by
  rcases h with ⟨rfl, hg, rfl⟩ | ⟨rfl, rfl, rfl, rfl, rfl, hno⟩
  · exact parse_text c0 c1 c2 c3 hg w hV
  · by_cases hm : (44 : UInt8) ∈ s.data.toList
    · obtain ⟨j, hj, hnj⟩ := mem_first hm
      have hjs : j < s.size := by
        have := (List.getElem?_eq_some_iff.1 hj).1
        rw [size_list] at this
        exact this
      have hsp := cut_list s j 44 hj
      have hL : (44 : UInt8) ∉ (s.extract 0 j).data.toList := by rw [take_list]; exact hnj
      have hc : Lib.cut s.data.toList (⟨#[44]⟩ : ByteArray).data.toList = ((s.extract 0 j).data.toList, (s.extract (j + 1) s.size).data.toList, true) := by
        have h1 := cut_at 44 _ (s.extract (j + 1) s.size).data.toList hL
        rw [← hsp] at h1
        exact h1
      rcases node_any (s.extract 0 j) (by rw [ByteArray.size_extract]; omega) with ⟨ax, ay, _, _, ea, HA⟩ | HA
      · rcases node_any (s.extract (j + 1) s.size) (by rw [ByteArray.size_extract]; omega) with ⟨bx, by_, _, _, eb, HB⟩ | HB
        · have hs : s = segS ax ay bx by_ := by
            apply bytes_ext
            rw [hsp, seg_list, ← ea, ← eb]
          have hg : segB ax ay bx by_ = false := by
            cases hq : segB ax ay bx by_ with
            | false => rfl
            | true => exact absurd hs (hno ax ay bx by_ hq)
          exact segp_none s _ _ ax ay bx by_ (by omega) hc hg HA HB w hV
        · exact segp_n3 s _ _ (by omega) hc ax ay HA HB w hV
      · exact segp_n2 s _ _ (by omega) hc HA w hV
    · have hc : Lib.cut s.data.toList (⟨#[44]⟩ : ByteArray).data.toList = (s.data.toList, (⟨#[]⟩ : ByteArray).data.toList, false) := cut_none 44 _ hm
      exact segp_n1 s s ⟨#[]⟩ (by omega) hc w hV
end Go.Proofs.YtbhfnfokihdjjaaGreatDoor
