/-
  Walk of a reference: Parse of any text. Conditions stand in each theorem.
-/
import Derived.Test.YteibcklcegkbcaaRt2
import Derived.Test.YteibcklcegkbcaaRt3
import Derived.Test.YteibcklcegkbcaaRt4
import Derived.Test.YteibcklcegkbcaaRt5
namespace Go.Proofs.Yteibcklcegkbcaa
open Go.RowKit Go.BigFrame

theorem str_tail1 (x : Int) (l : List Int) : (strOfNums (x :: l)).extract 1 (l.length + 1) = strOfNums l := by
  apply ByteArray.ext
  rw [ByteArray.data_extract]
  apply Array.ext'
  simp [strOfNums]
  exact List.take_of_length_le (by simp)
set_option maxRecDepth 20000 in
set_option maxHeartbeats 40000000 in
theorem rparse_neg_zero (y : Int) (ys : List Int) (hl : ∀ c ∈ 45 :: y :: ys, 0 ≤ c ∧ c < 256) (hs : ys.length ≤ 198) (h48 : y = 48) (w : World) : 
    Calls Try.prog 22 #[.string (strOfNums (45 :: y :: ys))] w fun e w' => ∃ v, e = .returned (.tuple #[v, .int .i64 (parseE (45 :: y :: ys))]) ∧ BigAt w' v (parseV (45 :: y :: ys)) ∧ Below w.heap.size w w' := by
  have HPV : Hd (parseV (45 :: y :: ys) = if goodD true (y :: ys) then ((decF 0 (y :: ys)).map (fun m => zof true m)).getD 0 else 0) := ⟨rfl⟩
  have HPE : Hd (parseE (45 :: y :: ys) = if goodD true (y :: ys) then (if (decF 0 (y :: ys)).isSome then 0 else 110) else 111) := ⟨rfl⟩
  have hemp : (strOfNums (y :: ys)).toList.isEmpty = false := by rw [ByteArray.toList_eq, strOfNums_data]; rfl
  have hsz1 : (strOfNums (y :: ys)).size = ys.length + 1 := strOfNums_size _
  have HBD : Hd (∀ c ∈ y :: ys, 0 ≤ c ∧ c < 256) := ⟨fun c hc => hl c (List.mem_cons_of_mem _ hc)⟩
  have h1 : ((strOfNums (y :: ys))[0]'(by rw [hsz1]; omega)).toNat = y := str_get (y :: ys) HBD.out 0 (by rw [hsz1]; omega)
  have HG := Hd.mk (goodD_eq true y ys)
  have hsz : (strOfNums (45 :: y :: ys)).size = ys.length + 2 := strOfNums_size _
  have hn0 : ((strOfNums (45 :: y :: ys))[0]'(by rw [hsz]; omega)).toNat = 45 := Int.ofNat.inj (str_get (45 :: y :: ys) hl 0 (by rw [hsz]; omega))
  have hext : (strOfNums (45 :: y :: ys)).extract 1 (ys.length + 2) = strOfNums (y :: ys) := str_tail1 45 (y :: ys)
  clear hl
  have hx : (y == 48) = true := by simpa using h48
  have hg : goodD true (y :: ys) = false := by rw [HG.out, h48]; simp
  have HV : Hd (parseV (45 :: y :: ys) = 0) := ⟨by rw [HPV.out, hg]; rfl⟩
  have HE : Hd (parseE (45 :: y :: ys) = 111) := ⟨by rw [HPE.out, hg]; rfl⟩
  clear h48 hg HPV HPE
  go_enter Try.func22, Try.ntmps22
  go_upto_region 5 with (fail)
  clear hext hsz hn0
  by_cases hys : ys.length = 0
  · have hl1 : decide ((ys.length : Int) + 1 > 1) = false := by simp; omega
    clear hys
    go_wp2
    refine abs_post (fun W => W.heap[w.heap.size]? = some (.cells #[.bool false, .slice none 0 0] 38 (0, 0)) ∧ Below w.heap.size w W) ?_ fun W ⟨k1, hB⟩ => ?_
    · first | exact ⟨heap_new _ _, by focus (repeat (first | (with_reducible exact Below.refl _ _) | (with_reducible assumption) | ((with_reducible refine Below.setCell ?_ ?_ _); rotate_left; (focus (first | omega | (simp; done) | (simp; omega)))) | ((with_reducible refine Below.alloc ?_ ?_ _); rotate_left; (focus (first | omega | (simp; done) | (simp; omega)))) | (with_reducible refine Below.drew ?_) | (refine below_on ?_ (by assumption))))⟩ | exact ⟨laid_both _ _ _ _ (heap_new _ _) rfl, by focus (repeat (first | (with_reducible exact Below.refl _ _) | (with_reducible assumption) | ((with_reducible refine Below.setCell ?_ ?_ _); rotate_left; (focus (first | omega | (simp; done) | (simp; omega)))) | ((with_reducible refine Below.alloc ?_ ?_ _); rotate_left; (focus (first | omega | (simp; done) | (simp; omega)))) | (with_reducible refine Below.drew ?_) | (refine below_on ?_ (by assumption))))⟩ | exact ⟨y0, hB⟩ | exact ⟨laid_both _ _ _ _ y0 rfl, by focus (repeat (first | (with_reducible exact Below.refl _ _) | (with_reducible assumption) | ((with_reducible refine Below.setCell ?_ ?_ _); rotate_left; (focus (first | omega | (simp; done) | (simp; omega)))) | ((with_reducible refine Below.alloc ?_ ?_ _); rotate_left; (focus (first | omega | (simp; done) | (simp; omega)))) | (with_reducible refine Below.drew ?_) | (refine below_on ?_ (by assumption))))⟩
    · have k2 := cell_at k1
      have hz := big_zero W
      refine bodyPost_ret (by simp [results, Try.results22, go_sem, k2]; rfl) rfl ⟨_, by rw [HE.out], by rw [HV.out]; exact hz, hB⟩
  · have hl1 : decide ((ys.length : Int) + 1 > 1) = true := by simp; omega
    clear hys
    go_wp2
    refine abs_post (fun W => W.heap[w.heap.size]? = some (.cells #[.bool false, .slice none 0 0] 38 (0, 0)) ∧ Below w.heap.size w W) ?_ fun W ⟨k1, hB⟩ => ?_
    · first | exact ⟨heap_new _ _, by focus (repeat (first | (with_reducible exact Below.refl _ _) | (with_reducible assumption) | ((with_reducible refine Below.setCell ?_ ?_ _); rotate_left; (focus (first | omega | (simp; done) | (simp; omega)))) | ((with_reducible refine Below.alloc ?_ ?_ _); rotate_left; (focus (first | omega | (simp; done) | (simp; omega)))) | (with_reducible refine Below.drew ?_) | (refine below_on ?_ (by assumption))))⟩ | exact ⟨laid_both _ _ _ _ (heap_new _ _) rfl, by focus (repeat (first | (with_reducible exact Below.refl _ _) | (with_reducible assumption) | ((with_reducible refine Below.setCell ?_ ?_ _); rotate_left; (focus (first | omega | (simp; done) | (simp; omega)))) | ((with_reducible refine Below.alloc ?_ ?_ _); rotate_left; (focus (first | omega | (simp; done) | (simp; omega)))) | (with_reducible refine Below.drew ?_) | (refine below_on ?_ (by assumption))))⟩ | exact ⟨y0, hB⟩ | exact ⟨laid_both _ _ _ _ y0 rfl, by focus (repeat (first | (with_reducible exact Below.refl _ _) | (with_reducible assumption) | ((with_reducible refine Below.setCell ?_ ?_ _); rotate_left; (focus (first | omega | (simp; done) | (simp; omega)))) | ((with_reducible refine Below.alloc ?_ ?_ _); rotate_left; (focus (first | omega | (simp; done) | (simp; omega)))) | (with_reducible refine Below.drew ?_) | (refine below_on ?_ (by assumption))))⟩
    · have k2 := cell_at k1
      have hz := big_zero W
      refine bodyPost_ret (by simp [results, Try.results22, go_sem, k2]; rfl) rfl ⟨_, by rw [HE.out], by rw [HV.out]; exact hz, hB⟩
set_option maxRecDepth 20000 in
set_option maxHeartbeats 4000000 in
theorem rparse_neg_nil (w : World) :
    Calls Try.prog 22 #[.string (strOfNums [45])] w fun e w' => ∃ v, e = .returned (.tuple #[v, .int .i64 (parseE [45])]) ∧ BigAt w' v (parseV [45]) ∧ Below w.heap.size w w' := by
  have HV : Hd (parseV [45] = 0) := ⟨by decide⟩
  have HE : Hd (parseE [45] = 111) := ⟨by decide⟩
  have hsz : (strOfNums [45]).size = 1 := strOfNums_size _
  have hn0 : ((strOfNums [45])[0]'(by rw [hsz]; omega)).toNat = 45 := Int.ofNat.inj (str_get [45] (by simp) 0 (by rw [hsz]; omega))
  have hext : (strOfNums [45]).extract 1 1 = strOfNums [] := str_tail1 45 []
  have hemp : (strOfNums []).toList.isEmpty = true := by rw [ByteArray.toList_eq, strOfNums_data]; rfl
  go_enter Try.func22, Try.ntmps22
  go_wp2
  refine abs_post (fun W => W.heap[w.heap.size]? = some (.cells #[.bool false, .slice none 0 0] 38 (0, 0)) ∧ Below w.heap.size w W) ?_ fun W ⟨k1, hB⟩ => ?_
  · first | exact ⟨heap_new _ _, by focus (repeat (first | (with_reducible exact Below.refl _ _) | (with_reducible assumption) | ((with_reducible refine Below.setCell ?_ ?_ _); rotate_left; (focus (first | omega | (simp; done) | (simp; omega)))) | ((with_reducible refine Below.alloc ?_ ?_ _); rotate_left; (focus (first | omega | (simp; done) | (simp; omega)))) | (with_reducible refine Below.drew ?_) | (refine below_on ?_ (by assumption))))⟩ | exact ⟨laid_both _ _ _ _ (heap_new _ _) rfl, by focus (repeat (first | (with_reducible exact Below.refl _ _) | (with_reducible assumption) | ((with_reducible refine Below.setCell ?_ ?_ _); rotate_left; (focus (first | omega | (simp; done) | (simp; omega)))) | ((with_reducible refine Below.alloc ?_ ?_ _); rotate_left; (focus (first | omega | (simp; done) | (simp; omega)))) | (with_reducible refine Below.drew ?_) | (refine below_on ?_ (by assumption))))⟩ | exact ⟨y0, hB⟩ | exact ⟨laid_both _ _ _ _ y0 rfl, by focus (repeat (first | (with_reducible exact Below.refl _ _) | (with_reducible assumption) | ((with_reducible refine Below.setCell ?_ ?_ _); rotate_left; (focus (first | omega | (simp; done) | (simp; omega)))) | ((with_reducible refine Below.alloc ?_ ?_ _); rotate_left; (focus (first | omega | (simp; done) | (simp; omega)))) | (with_reducible refine Below.drew ?_) | (refine below_on ?_ (by assumption))))⟩
  · have k2 := cell_at k1
    have hz := big_zero W
    refine bodyPost_ret (by simp [results, Try.results22, go_sem, k2]; rfl) rfl ⟨_, by rw [HE.out], by rw [HV.out]; exact hz, hB⟩
open Go.RowKit Go.BigFrame

theorem strB_of (s : ByteArray) : strOfNums (strB s) = s := by
  apply ByteArray.ext
  apply Array.ext'
  unfold strOfNums strB
  simp only [List.map_map]
  refine (List.map_congr_left fun c _ => ?_).trans (List.map_id _)
  simp
theorem strB_range (s : ByteArray) : ∀ c ∈ strB s, 0 ≤ c ∧ c < 256 := by
  intro c hc
  unfold strB at hc
  obtain ⟨b, _, rfl⟩ := List.mem_map.1 hc
  have := b.toNat_lt
  omega
theorem rparse_list : ∀ (l : List Int), (∀ c ∈ l, 0 ≤ c ∧ c < 256) → l.length ≤ 200 → ∀ (w : World),
    Calls Try.prog 22 #[.string (strOfNums l)] w fun e w' => ∃ v, e = .returned (.tuple #[v, .int .i64 (parseE l)]) ∧ BigAt w' v (parseV l) ∧ Below w.heap.size w w'
  | [], _, _, w => rparse_nil w
  | x :: xs, hl, hs, w => by
    have hs' : xs.length ≤ 199 := by simpa using hs
    by_cases hn : x = 45
    · subst hn
      cases xs with
      | nil => exact rparse_neg_nil w
      | cons y ys =>
        have hs2 : ys.length ≤ 198 := by simpa using hs'
        by_cases h48 : y = 48
        · exact rparse_neg_zero y ys hl hs2 h48 w
        · exact rparse_neg_one y ys hl hs2 h48 w
    · by_cases h48 : x = 48
      · by_cases hxs : xs.length = 0
        · exact rparse_two x xs hl hs' hn h48 ⟨hxs⟩ w
        · exact rparse_three x xs hl hs' hn h48 ⟨hxs⟩ w
      · exact rparse_one x xs hl hs' hn h48 w
theorem rparse_any (s : ByteArray) (hs : s.size ≤ 200) (w : World) :
    Calls Try.prog 22 #[.string s] w fun e w' => ∃ v, e = .returned (.tuple #[v, .int .i64 (parseE (strB s))]) ∧ BigAt w' v (parseV (strB s)) ∧ Below w.heap.size w w' := by
  have h := rparse_list (strB s) (strB_range s) (by rw [strB_length]; exact hs) w
  rw [strB_of] at h
  exact h
theorem parseV_lt (l : List Int) : ab (parseV l) < 2 ^ 256 := by
  unfold parseV
  split
  · rw [decF_dval _ 0 (by decide)]
    split
    · rename_i h
      simp only [Option.map_some, Option.getD_some, ab_zof]
      exact h
    · exact (by decide : ab 0 < 2 ^ 256)
  · exact (by decide : ab 0 < 2 ^ 256)
end Go.Proofs.Yteibcklcegkbcaa
