/-
  Walk of a reference: Parse, a text with a sign. Conditions stand in each theorem.
-/
import Derived.Test.YteibcklcegkbcaaRt2
namespace Go.Proofs.Yteibcklcegkbcaa
open Go.RowKit Go.BigFrame

theorem str_tail (x : Int) (l : List Int) : (strOfNums (x :: l)).extract 1 (l.length + 1) = strOfNums l := by
  apply ByteArray.ext
  rw [ByteArray.data_extract]
  apply Array.ext'
  simp [strOfNums]
  exact List.take_of_length_le (by simp)
set_option maxRecDepth 20000 in
set_option maxHeartbeats 40000000 in
theorem rparse_neg_one (y : Int) (ys : List Int) (hl : ∀ c ∈ 45 :: y :: ys, 0 ≤ c ∧ c < 256) (hs : ys.length ≤ 198) (h48 : y ≠ 48) (w : World) : 
    Calls Try.prog 22 #[.string (strOfNums (45 :: y :: ys))] w fun e w' => ∃ v, e = .returned (.tuple #[v, .int .i64 (parseE (45 :: y :: ys))]) ∧ BigAt w' v (parseV (45 :: y :: ys)) ∧ Below w.heap.size w w' := by
  have HPV : Hd (parseV (45 :: y :: ys) = if goodD true (y :: ys) then ((decF 0 (y :: ys)).map (fun m => zof true m)).getD 0 else 0) := ⟨rfl⟩
  have HPE : Hd (parseE (45 :: y :: ys) = if goodD true (y :: ys) then (if (decF 0 (y :: ys)).isSome then 0 else 110) else 111) := ⟨rfl⟩
  have hemp : (strOfNums (y :: ys)).toList.isEmpty = false := by rw [ByteArray.toList_eq, strOfNums_data]; rfl
  have hsz1 : (strOfNums (y :: ys)).size = ys.length + 1 := strOfNums_size _
  have HBD : Hd (∀ c ∈ y :: ys, 0 ≤ c ∧ c < 256) := ⟨fun c hc => hl c (List.mem_cons_of_mem _ hc)⟩
  have h1 : ((strOfNums (y :: ys))[0]'(by rw [hsz1]; omega)).toNat = y := str_get (y :: ys) HBD.out 0 (by rw [hsz1]; omega)
  have HG := Hd.mk (goodD_eq true y ys)
  have hsz : (strOfNums (45 :: y :: ys)).size = ys.length + 2 := strOfNums_size _
  have hn0 : ((strOfNums (45 :: y :: ys))[0]'(by rw [hsz]; omega)).toNat = 45 := Int.ofNat.inj (str_get (45 :: y :: ys) hl 0 (by rw [hsz]; omega))
  have hext : (strOfNums (45 :: y :: ys)).extract 1 (ys.length + 2) = strOfNums (y :: ys) := str_tail 45 (y :: ys)
  clear hl
  have hx : (y == 48) = false := by simpa using h48
  have HG : Hd (goodD true (y :: ys) = (y :: ys).all isDig) := ⟨by rw [HG.out]; simp [h48]⟩
  have HLD : Hd (y ≠ 48 ∨ ys.length = 0) := ⟨.inl h48⟩
  clear h48
  go_enter Try.func22, Try.ntmps22
  go_upto_region 5 with (fail)
  clear hext hsz hn0
  have hget := str_get (y :: ys) HBD.out
  have hszd : (strOfNums (y :: ys)).size = (ys).length + 1 := strOfNums_size _
  go_wp2
  refine abs_wp (fun W => W.heap[w.heap.size]? = some (.cells #[.bool false, .slice none 0 0] 38 (0, 0)) ∧ Below w.heap.size w W) ⟨heap_new _ _, by focus (repeat (first | (with_reducible exact Below.refl _ _) | (with_reducible assumption) | ((with_reducible refine Below.setCell ?_ ?_ _); rotate_left; (focus (first | omega | (simp; done) | (simp; omega)))) | ((with_reducible refine Below.alloc ?_ ?_ _); rotate_left; (focus (first | omega | (simp; done) | (simp; omega)))) | (with_reducible refine Below.drew ?_) | (refine below_on ?_ (by assumption))))⟩ fun W ⟨y0, hB⟩ => ?_
  go_loopw [6] (fun iv wr => ∃ k : Nat, k ≤ (ys).length + 1 ∧ iv = .int .i64 k ∧ Hd (((y :: ys).take k).all isDig = true) ∧ wr.heap[w.heap.size]? = some (.cells #[.bool false, .slice none 0 0] 38 (0, 0)) ∧ Below w.heap.size w wr) (fun iv _ => (ys).length + 1 - (intOf iv).toNat)
  case atStart => exact ⟨0, Nat.zero_le _, rfl, ⟨rfl⟩, y0, hB⟩
  case round =>
    clear y0 hB
    obtain ⟨k, hk, rfl, HK, y0, hB⟩ := hrel
    have hs0 := lt_of_block y0
    by_cases hlt : k < (ys).length + 1
    · have hd1 : decide ((k : Int) < ((ys).length : Int) + 1) = true := by simp; omega
      obtain ⟨c, hc⟩ : ∃ c, (y :: ys)[k]? = some c := ⟨_, List.getElem?_eq_getElem (by simpa using hlt)⟩
      have hgk : (y :: ys).getD k 0 = c := by rw [List.getD_eq_getElem?_getD, hc]; rfl
      have hgk2 : ((strOfNums (y :: ys))[k]'(by rw [hszd]; omega)).toNat = c := (hget k (by rw [hszd]; omega)).trans hgk
      have HC := Hd.mk hc
      have q0 := cell_at y0
      have f0 := frozen_at y0
      have hcr := HBD.out c (List.mem_of_getElem? hc)
      clear hgk hc hget
      by_cases h1 : c < 48
      · have hd2 : decide (c < 48) = true := by simpa using h1
        have hg : goodD true (y :: ys) = false := by rw [HG.out]; exact all_false HC.out (by unfold isDig; simp; omega)
        have HV : Hd (parseV (45 :: y :: ys) = 0) := ⟨by rw [HPV.out, hg]; rfl⟩
        have HE : Hd (parseE (45 :: y :: ys) = 111) := ⟨by rw [HPE.out, hg]; rfl⟩
        clear hg h1
        go_wp2
        refine abs_post (fun W => W.heap[w.heap.size]? = some (.cells #[.bool false, .slice none 0 0] 38 (0, 0)) ∧ Below w.heap.size w W) ?_ fun W ⟨k1, hB⟩ => ?_
        · first | exact ⟨heap_new _ _, by focus (repeat (first | (with_reducible exact Below.refl _ _) | (with_reducible assumption) | ((with_reducible refine Below.setCell ?_ ?_ _); rotate_left; (focus (first | omega | (simp; done) | (simp; omega)))) | ((with_reducible refine Below.alloc ?_ ?_ _); rotate_left; (focus (first | omega | (simp; done) | (simp; omega)))) | (with_reducible refine Below.drew ?_) | (refine below_on ?_ (by assumption))))⟩ | exact ⟨laid_both _ _ _ _ (heap_new _ _) rfl, by focus (repeat (first | (with_reducible exact Below.refl _ _) | (with_reducible assumption) | ((with_reducible refine Below.setCell ?_ ?_ _); rotate_left; (focus (first | omega | (simp; done) | (simp; omega)))) | ((with_reducible refine Below.alloc ?_ ?_ _); rotate_left; (focus (first | omega | (simp; done) | (simp; omega)))) | (with_reducible refine Below.drew ?_) | (refine below_on ?_ (by assumption))))⟩ | exact ⟨y0, hB⟩ | exact ⟨laid_both _ _ _ _ y0 rfl, by focus (repeat (first | (with_reducible exact Below.refl _ _) | (with_reducible assumption) | ((with_reducible refine Below.setCell ?_ ?_ _); rotate_left; (focus (first | omega | (simp; done) | (simp; omega)))) | ((with_reducible refine Below.alloc ?_ ?_ _); rotate_left; (focus (first | omega | (simp; done) | (simp; omega)))) | (with_reducible refine Below.drew ?_) | (refine below_on ?_ (by assumption))))⟩
        · have k2 := cell_at k1
          have hz := big_zero W
          refine bodyPost_ret (by simp [results, Try.results22, go_sem, k2]; rfl) rfl ⟨_, by rw [HE.out], by rw [HV.out]; exact hz, hB⟩
      · have hd2 : decide (c < 48) = false := by simpa using h1
        by_cases h2 : c > 57
        · have hd3 : decide (c > 57) = true := by simpa using h2
          have hg : goodD true (y :: ys) = false := by rw [HG.out]; exact all_false HC.out (by unfold isDig; simp; omega)
          have HV : Hd (parseV (45 :: y :: ys) = 0) := ⟨by rw [HPV.out, hg]; rfl⟩
          have HE : Hd (parseE (45 :: y :: ys) = 111) := ⟨by rw [HPE.out, hg]; rfl⟩
          clear hg h1 h2
          go_wp2
          refine abs_post (fun W => W.heap[w.heap.size]? = some (.cells #[.bool false, .slice none 0 0] 38 (0, 0)) ∧ Below w.heap.size w W) ?_ fun W ⟨k1, hB⟩ => ?_
          · first | exact ⟨heap_new _ _, by focus (repeat (first | (with_reducible exact Below.refl _ _) | (with_reducible assumption) | ((with_reducible refine Below.setCell ?_ ?_ _); rotate_left; (focus (first | omega | (simp; done) | (simp; omega)))) | ((with_reducible refine Below.alloc ?_ ?_ _); rotate_left; (focus (first | omega | (simp; done) | (simp; omega)))) | (with_reducible refine Below.drew ?_) | (refine below_on ?_ (by assumption))))⟩ | exact ⟨laid_both _ _ _ _ (heap_new _ _) rfl, by focus (repeat (first | (with_reducible exact Below.refl _ _) | (with_reducible assumption) | ((with_reducible refine Below.setCell ?_ ?_ _); rotate_left; (focus (first | omega | (simp; done) | (simp; omega)))) | ((with_reducible refine Below.alloc ?_ ?_ _); rotate_left; (focus (first | omega | (simp; done) | (simp; omega)))) | (with_reducible refine Below.drew ?_) | (refine below_on ?_ (by assumption))))⟩ | exact ⟨y0, hB⟩ | exact ⟨laid_both _ _ _ _ y0 rfl, by focus (repeat (first | (with_reducible exact Below.refl _ _) | (with_reducible assumption) | ((with_reducible refine Below.setCell ?_ ?_ _); rotate_left; (focus (first | omega | (simp; done) | (simp; omega)))) | ((with_reducible refine Below.alloc ?_ ?_ _); rotate_left; (focus (first | omega | (simp; done) | (simp; omega)))) | (with_reducible refine Below.drew ?_) | (refine below_on ?_ (by assumption))))⟩
          · have k2 := cell_at k1
            have hz := big_zero W
            refine bodyPost_ret (by simp [results, Try.results22, go_sem, k2]; rfl) rfl ⟨_, by rw [HE.out], by rw [HV.out]; exact hz, hB⟩
        · have hd3 : decide (c > 57) = false := by simpa using h2
          have HK2 : Hd (((y :: ys).take (k + 1)).all isDig = true) := ⟨by
            rw [List.take_add_one, HC.out, List.all_append, HK.out]
            simp [isDig]; omega⟩
          clear h1 h2
          go_wp2
          go_roundw
          case rel => exact ⟨k + 1, by omega, by go_num, HK2, y0, hB⟩
          case measure => simp [intOf]; omega
    · have hkk : k = (ys).length + 1 := by omega
      have hd1 : decide ((k : Int) < ((ys).length : Int) + 1) = false := by simp; omega
      have hall : (y :: ys).all isDig = true := by
        have h := HK.out
        rwa [List.take_of_length_le (by simp only [List.length_cons]; omega)] at h
      clear hkk
      have HALL := Hd.mk hall
      have hgood : goodD true (y :: ys) = true := by rw [HG.out]; exact hall
      have HPV := Hd.mk HPV.out
      have hpv := HPV.out
      have hpe := HPE.out
      rw [hgood, if_pos rfl, decF_dval _ 0 (by decide)] at hpv hpe
      have HPV := Hd.mk hpv
      have HPE := Hd.mk hpe
      clear hall hgood hpv hpe
      by_cases h100 : (ys).length + 1 > 100
      · have hd2 : decide (((ys).length : Int) + 1 > 100) = true := by simp; omega
        have hbig := many_digits HALL.out HLD.out h100
        have HV : Hd (parseV (45 :: y :: ys) = 0) := ⟨by rw [HPV.out, if_neg hbig]; rfl⟩
        have HE : Hd (parseE (45 :: y :: ys) = 110) := ⟨by rw [HPE.out, if_neg hbig]; rfl⟩
        have q0 := cell_at y0
        have f0 := frozen_at y0
        clear hbig
        go_wp2
        refine abs_post (fun W => W.heap[w.heap.size]? = some (.cells #[.bool false, .slice none 0 0] 38 (0, 0)) ∧ Below w.heap.size w W) ?_ fun W ⟨k1, hB⟩ => ?_
        · first | exact ⟨heap_new _ _, by focus (repeat (first | (with_reducible exact Below.refl _ _) | (with_reducible assumption) | ((with_reducible refine Below.setCell ?_ ?_ _); rotate_left; (focus (first | omega | (simp; done) | (simp; omega)))) | ((with_reducible refine Below.alloc ?_ ?_ _); rotate_left; (focus (first | omega | (simp; done) | (simp; omega)))) | (with_reducible refine Below.drew ?_) | (refine below_on ?_ (by assumption))))⟩ | exact ⟨laid_both _ _ _ _ (heap_new _ _) rfl, by focus (repeat (first | (with_reducible exact Below.refl _ _) | (with_reducible assumption) | ((with_reducible refine Below.setCell ?_ ?_ _); rotate_left; (focus (first | omega | (simp; done) | (simp; omega)))) | ((with_reducible refine Below.alloc ?_ ?_ _); rotate_left; (focus (first | omega | (simp; done) | (simp; omega)))) | (with_reducible refine Below.drew ?_) | (refine below_on ?_ (by assumption))))⟩ | exact ⟨y0, hB⟩ | exact ⟨laid_both _ _ _ _ y0 rfl, by focus (repeat (first | (with_reducible exact Below.refl _ _) | (with_reducible assumption) | ((with_reducible refine Below.setCell ?_ ?_ _); rotate_left; (focus (first | omega | (simp; done) | (simp; omega)))) | ((with_reducible refine Below.alloc ?_ ?_ _); rotate_left; (focus (first | omega | (simp; done) | (simp; omega)))) | (with_reducible refine Below.drew ?_) | (refine below_on ?_ (by assumption))))⟩
        · have k2 := cell_at k1
          have hz := big_zero W
          refine bodyPost_ret (by simp [results, Try.results22, go_sem, k2]; rfl) rfl ⟨_, by rw [HE.out], by rw [HV.out]; exact hz, hB⟩
      · have hd2 : decide (((ys).length : Int) + 1 > 100) = false := by simp; omega
        go_wp2
        obtain ⟨b7, hb7⟩ : ∃ b7, b7 = wr.heap.size := ⟨_, rfl⟩
        refine abs_wp (fun W => W.heap[w.heap.size]? = some (.cells #[.bool false, .slice none 0 0] 38 (0, 0)) ∧ NatIn W b7 0 ∧ Below w.heap.size w W) ⟨heap_old y0 _, by rw [hb7]; exact nat_zero _, by focus (repeat (first | (with_reducible exact Below.refl _ _) | (with_reducible assumption) | ((with_reducible refine Below.setCell ?_ ?_ _); rotate_left; (focus (first | omega | (simp; done) | (simp; omega)))) | ((with_reducible refine Below.alloc ?_ ?_ _); rotate_left; (focus (first | omega | (simp; done) | (simp; omega)))) | (with_reducible refine Below.drew ?_) | (refine below_on ?_ (by assumption))))⟩ fun W ⟨y0, yb, hB⟩ => ?_
        rw [← hb7]
        have hwb : w.heap.size < b7 := by omega
        clear hb7 hs0 hd1 hd2 hget HK hk hlt
        go_loopw [8] (fun iv wr => ∃ k : Nat, k ≤ (ys).length + 1 ∧ iv = .int .i64 k ∧ wr.heap[w.heap.size]? = some (.cells #[.bool false, .slice none 0 0] 38 (0, 0)) ∧ NatIn wr b7 (dval 0 ((y :: ys).take k)) ∧ Below w.heap.size w wr) (fun iv _ => (ys).length + 1 - (intOf iv).toNat)
        case atStart => exact ⟨0, Nat.zero_le _, rfl, y0, yb, hB⟩
        case round =>
          clear y0 yb hB
          obtain ⟨k, hk, rfl, y0, ⟨C, c3, y7, h3, hC⟩, hB⟩ := hrel
          have hs7 := lt_of_block y7
          have HC := Hd.mk hC
          clear hC
          by_cases hlt : k < (ys).length + 1
          · have hd1 : decide ((k : Int) < ((ys).length : Int) + 1) = true := by simp; omega
            obtain ⟨c, hc⟩ : ∃ c, (y :: ys)[k]? = some c := ⟨_, List.getElem?_eq_getElem (by simpa using hlt)⟩
            have hgk : (y :: ys).getD k 0 = c := by rw [List.getD_eq_getElem?_getD, hc]; rfl
            have hgk2 : ((strOfNums (y :: ys))[k]'(by rw [hszd]; omega)).toNat = c := (str_get _ HBD.out k (by rw [hszd]; omega)).trans hgk
            obtain ⟨hc1, hc2⟩ := dig_range HALL.out (List.mem_of_getElem? hc)
            obtain ⟨N, hN⟩ : ∃ N, N = dval 0 ((y :: ys).take k) := ⟨_, rfl⟩
            have hN100 := dval_lt ((y :: ys).take k) 0 (all_take HALL.out k)
            have hl100 : ((y :: ys).take k).length ≤ 100 := by rw [List.length_take]; simp only [List.length_cons]; omega
            rw [← hN] at hN100 y7 h3 HC
            have HNL := Hd.mk (num_len hN100 hl100)
            have HNX : Hd (((N : Int) * 10 + (c - 48)) = ((dval 0 ((y :: ys).take (k + 1)) : Nat) : Int)) := ⟨by
              rw [List.take_add_one, hc]
              show _ = ((dval 0 ((y :: ys).take k ++ [c]) : Nat) : Int)
              rw [dval_append, ← hN]
              omega⟩
            clear hgk hc hN hN100 hl100
            go_upto_region 18 with (fail)
            have hB0 : Below w.heap.size w wr.drew := Below.drew hB
            have z0 : wr.drew.heap[b7]? = some (.cells #[.bool false, .slice C (dd N).length c3] 38 (0, 0)) := y7
            have x0 : wr.drew.heap[w.heap.size]? = some (.cells #[.bool false, .slice none 0 0] 38 (0, 0)) := y0
            have q0 := cell_at z0
            have t0 := cell_at y7
            have hDz0 : DigAt wr.drew C (dd N) := HC.out
            clear y7 y0 hB
            refine region_abs_k (fun a0 a' w' => ∃ v : Nat → Value, (a' = (Act.put (Act.put (Act.put (Act.put (Act.put (Act.put (Act.put (Act.put (Act.put (Act.put a0 (some 66) (v 66)) (some 67) (v 67)) (some 68) (v 68)) (some 69) (v 69)) (some 70) (v 70)) (some 71) (v 71)) (some 72) (v 72)) (some 73) (v 73)) (some 74) (v 74)) (some 75) (v 75))) ∧ NatIn w' b7 (dval 0 ((y :: ys).take (k + 1))) ∧ w'.heap[w.heap.size]? = some (.cells #[.bool false, .slice none 0 0] 38 (0, 0)) ∧ Below w.heap.size w w') (fun KR hKR => wp_region_noPanic ?_) ?_
            · go_region_with
                ((first
                  | (go_at_call 30; have hq := hVm; clear hq; refine (rnum_dig _ c hc1 hc2 (by first | rfl | exact wrap_dig hc1 hc2 | exact (IntWalk.i64_left _).symm.trans (wrap_dig hc1 hc2)) _).mono ?_; rintro e wd ⟨vd, rfl, hVd, hb⟩; have hVm2 := hVm.below hb; have hB3 := below_on hB2 hb; have z3 := heap_below hb z2; have x3 := heap_below hb x2; clear hb)
                  | (go_at_call 30; refine (rnum_any 10 (by omega) (by omega) _).mono ?_; rintro e wa ⟨va, rfl, hVa, hb⟩; have hB1 := below_on hB0 hb; have z1 := heap_below hb z0; have x1 := heap_below hb x0; have q1 := cell_at z1; have hDz1 := hDz0.below hb; clear hb)
                  | (go_at_call 64; refine (rmul_any (N : Int) 10 _ _ HNL.out.1 ten_len _ (nat_big h3 hDz1) hVa).mono ?_; rintro e wm ⟨vm, rfl, hVm, hb⟩; have hB2 := below_on hB1 hb; have z2 := heap_below hb z1; have x2 := heap_below hb x1; have q2 := cell_at z2; clear hb)
                  | (go_at_call 63; refine (radd_any ((N : Int) * 10) (c - 48) _ _ HNL.out.2 (small_len (by omega) (by omega)) _ hVm2 hVd).mono ?_; rintro e wb ⟨vb, rfl, hVb, hb⟩; rw [HNX.out] at hVb; obtain ⟨A2, c2, rfl, h1, h2⟩ := big_nat hVb; have hB4 := below_on hB3 hb; have z4 := heap_below hb z3; have x4 := heap_below hb x3; have q4 := cell_at z4; have f4 := frozen_at z4; clear hb)))
              all_goals
                have z5 := laid_both b7 wb (.bool false) (.slice A2 (dd (dval 0 ((y :: ys).take (k + 1)))).length c2) z4 rfl
                have x5 : ((wb.setCell ⟨b7, 0, none⟩ (.bool false)).setCell ⟨b7, 1, none⟩ (.slice A2 (dd (dval 0 ((y :: ys).take (k + 1)))).length c2)).heap[w.heap.size]? = some (.cells #[.bool false, .slice none 0 0] 38 (0, 0)) := heap_set_other (heap_set_other x4 (by simp; omega) _) (by simp; omega) _
                have HB5 : Hd (Below w.heap.size w ((wb.setCell ⟨b7, 0, none⟩ (.bool false)).setCell ⟨b7, 1, none⟩ (.slice A2 (dd (dval 0 ((y :: ys).take (k + 1)))).length c2))) := ⟨by focus (repeat (first | (with_reducible exact Below.refl _ _) | (with_reducible assumption) | ((with_reducible refine Below.setCell ?_ ?_ _); rotate_left; (focus (first | omega | (simp; done) | (simp; omega)))) | ((with_reducible refine Below.alloc ?_ ?_ _); rotate_left; (focus (first | omega | (simp; done) | (simp; omega)))) | (with_reducible refine Below.drew ?_) | (refine below_on ?_ (by assumption))))⟩
                have HN5 : Hd (NatIn ((wb.setCell ⟨b7, 0, none⟩ (.bool false)).setCell ⟨b7, 1, none⟩ (.slice A2 (dd (dval 0 ((y :: ys).take (k + 1)))).length c2)) b7 (dval 0 ((y :: ys).take (k + 1)))) := ⟨⟨A2, c2, z5, h1, h2.laid z4 _ _⟩⟩
                have HX5 := Hd.mk x5
                clear z0 x0 q0 t0 hDz0 hB0 z1 x1 q1 hDz1 hB1 z2 x2 q2 hB2 z3 x3 hB3 z4 x4 q4 f4 hB4 z5 x5 h2 hVm hVm2 hVd hVb hVa
                exact NoPanic.normal ⟨rfl, hKR _ _ (ex_put ⟨by kernel_rfl, HN5.out, HX5.out, HB5.out⟩)⟩
            rintro a' w5 ⟨v, rfl, HN5, HX5, HB5⟩
            clear z0 x0 q0 t0 hDz0 hB0
            simp only [Act.put, List.setIfInBounds_toArray, List.set_cons_succ, List.set_cons_zero]
            go_wp2
            go_roundw
            case rel => exact ⟨k + 1, by omega, by go_num, HX5, HN5, HB5⟩
            case measure => simp [intOf]; omega
          · obtain rfl : k = (ys).length + 1 := by omega
            have hd1 : decide (((((ys).length + 1 : Nat)) : Int) < ((ys).length : Int) + 1) = false := by simp
            rw [List.take_of_length_le (by simp)] at y7 h3 HC
            obtain ⟨N, hN⟩ : ∃ N, N = dval 0 (y :: ys) := ⟨_, rfl⟩
            have hNL : (dd N).length ≤ 1000 := by
              have h := (num_len (dval_lt (y :: ys) 0 HALL.out) (by simp only [List.length_cons]; omega)).1
              rw [ab_nat, ← hN] at h
              exact h
            rw [← hN] at y7 h3 HC HPV HPE
            clear hN hlt
            obtain ⟨M, hM⟩ : ∃ M : Int, M = -(N : Int) := ⟨_, rfl⟩
            have hab : ab M = N := by rw [hM]; unfold ab; omega
            have HPV : Hd (parseV (45 :: y :: ys) = if ab M < 2 ^ 256 then M else 0) := ⟨by rw [HPV.out, hab]; by_cases h : N < 2 ^ 256 <;> simp only [h, if_pos, if_neg, not_false_eq_true] <;> first | rfl | exact hM.symm⟩
            have HPE : Hd (parseE (45 :: y :: ys) = if ab M < 2 ^ 256 then 0 else 110) := ⟨by rw [HPE.out, hab]; by_cases h : N < 2 ^ 256 <;> simp only [h, if_pos, if_neg, not_false_eq_true] <;> rfl⟩
            have HM := Hd.mk hM.symm
            clear hM hab
            have q7 := cell_at y7
            go_wp2_with fail
            refine (rneg_any (N : Int) M HM.out _ _ (nat_big h3 HC.out)).mono ?_
            rintro e wn ⟨v, rfl, hV, hb⟩
            obtain ⟨A7, c7, rfl, h7, hD⟩ := hV
            have z7 := heap_below hb y7
            have z0 := heap_below hb y0
            have HDn := Hd.mk hD
            have HBn := Hd.mk (below_on hB hb)
            clear y7 y0 hB hb hD q7 HC h3
            have q7 := cell_at z7
            have f7 := frozen_at z7
            have l0 := lt_of_block z0
            have l7 := lt_of_block z7
            go_upto_region 21 with (fail)
            have hBn := HBn.out
            refine abs_wp (fun W => W.heap[w.heap.size]? = some (.cells #[.bool false, .slice none 0 0] 38 (0, 0)) ∧ W.heap[b7]? = some (.cells #[.bool (ng M), .slice A7 (dd (ab M)).length c7] 38 (0, 0)) ∧ DigAt W A7 (dd (ab M)) ∧ Below w.heap.size w W) ⟨heap_set_other (heap_set_other z0 (by simp; omega) _) (by simp; omega) _, laid_both b7 wn _ _ z7 rfl, HDn.out.laid z7 _ _, by focus (repeat (first | (with_reducible exact Below.refl _ _) | (with_reducible assumption) | ((with_reducible refine Below.setCell ?_ ?_ _); rotate_left; (focus (first | omega | (simp; done) | (simp; omega)))) | ((with_reducible refine Below.alloc ?_ ?_ _); rotate_left; (focus (first | omega | (simp; done) | (simp; omega)))) | (with_reducible refine Below.drew ?_) | (refine below_on ?_ (by assumption))))⟩ fun W9 ⟨y0, y7, hD, hB⟩ => ?_
            have HC := Hd.mk hD
            clear z7 z0 HDn HBn hBn q7 f7 l0 l7 hD
            have q7 := cell_at y7
            have f7 := frozen_at y7
            by_cases hbig : ab (M) < 2 ^ 256
            · have HV : Hd (parseV (45 :: y :: ys) = M) := ⟨HPV.out.trans (if_pos hbig)⟩
              have HE : Hd (parseE (45 :: y :: ys) = 0) := ⟨HPE.out.trans (if_pos hbig)⟩
              have HBG := Hd.mk hbig
              clear hbig
              go_wp2_with fail
              refine (rto_ok (M) HBG.out _ _ ⟨A7, c7, rfl, h7, HC.out⟩).mono ?_
              rintro e wz ⟨rfl, hb⟩
              have z7 := heap_below hb y7
              have z0 := heap_below hb y0
              have HCz := Hd.mk (HC.out.below hb)
              have HBz := Hd.mk (below_on hB hb)
              have q7 := cell_at z7
              have q0 := cell_at z0
              have f0 := frozen_at z0
              have l0 := lt_of_block z0
              have l7 := lt_of_block z7
              clear y7 y0 hB hb f7
              go_wp2
              have hBz := HBz.out
              have k1 := laid_both w.heap.size wz (.bool (ng (M))) (.slice A7 (dd (ab (M))).length c7) z0 rfl
              have k2 := cell_at (heap_old k1 (.cells #[.bool (ng (M)), .int .u64 (dg (ab (M)) 0), .int .u64 (dg (ab (M)) 1), .int .u64 (dg (ab (M)) 2), .int .u64 (dg (ab (M)) 3)] 25))
              refine bodyPost_ret (by simp [results, Try.results22, go_sem, k2]; rfl) rfl ⟨_, by rw [HE.out], by rw [HV.out]; exact ⟨A7, c7, rfl, h7, (HCz.out.laid z0 _ _).below (by focus (repeat (first | (with_reducible exact Below.refl _ _) | (with_reducible assumption) | ((with_reducible refine Below.setCell ?_ ?_ _); rotate_left; (focus (first | omega | (simp; done) | (simp; omega)))) | ((with_reducible refine Below.alloc ?_ ?_ _); rotate_left; (focus (first | omega | (simp; done) | (simp; omega)))) | (with_reducible refine Below.drew ?_) | (refine below_on ?_ (by assumption)))))⟩, by focus (repeat (first | (with_reducible exact Below.refl _ _) | (with_reducible assumption) | ((with_reducible refine Below.setCell ?_ ?_ _); rotate_left; (focus (first | omega | (simp; done) | (simp; omega)))) | ((with_reducible refine Below.alloc ?_ ?_ _); rotate_left; (focus (first | omega | (simp; done) | (simp; omega)))) | (with_reducible refine Below.drew ?_) | (refine below_on ?_ (by assumption))))⟩
            · have HV : Hd (parseV (45 :: y :: ys) = 0) := ⟨HPV.out.trans (if_neg hbig)⟩
              have HE : Hd (parseE (45 :: y :: ys) = 110) := ⟨HPE.out.trans (if_neg hbig)⟩
              have HBG := Hd.mk hbig
              clear hbig
              go_wp2_with fail
              refine (rto_no (M) HBG.out _ _ ⟨A7, c7, rfl, h7, HC.out⟩).mono ?_
              rintro e wz ⟨rfl, hb⟩
              have z0 := heap_below hb y0
              have HBz := Hd.mk (below_on hB hb)
              have q0 := cell_at z0
              have f0 := frozen_at z0
              have l0 := lt_of_block z0
              clear y7 y0 hB hb f7 q7
              go_wp2
              have hBz := HBz.out
              have k1 := laid_both w.heap.size wz (.bool false) (.slice none 0 0) z0 rfl
              have k2 := cell_at (heap_old k1 (.cells #[.bool (ng (0)), .int .u64 (dg (ab (0)) 0), .int .u64 (dg (ab (0)) 1), .int .u64 (dg (ab (0)) 2), .int .u64 (dg (ab (0)) 3)] 25))
              refine bodyPost_ret (by simp [results, Try.results22, go_sem, k2]; rfl) rfl ⟨_, by rw [HE.out], by rw [HV.out]; exact big_zero _, by focus (repeat (first | (with_reducible exact Below.refl _ _) | (with_reducible assumption) | ((with_reducible refine Below.setCell ?_ ?_ _); rotate_left; (focus (first | omega | (simp; done) | (simp; omega)))) | ((with_reducible refine Below.alloc ?_ ?_ _); rotate_left; (focus (first | omega | (simp; done) | (simp; omega)))) | (with_reducible refine Below.drew ?_) | (refine below_on ?_ (by assumption))))⟩
end Go.Proofs.Yteibcklcegkbcaa
