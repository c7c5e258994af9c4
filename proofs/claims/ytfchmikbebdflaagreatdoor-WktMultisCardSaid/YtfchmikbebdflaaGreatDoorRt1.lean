/-
  Walks of the references: Text. Conditions stand in each theorem.
-/
import Derived.Test.YtfchmikbebdflaaGreatDoorRf6
import Derived.Test.YtfchmikbebdflaaGreatDoorRab
namespace Go.Proofs.YtfchmikbebdflaaGreatDoor
open Go.RowKit Go.BigFrame

theorem nums_append (a b : List Int) : strOfNums a ++ strOfNums b = strOfNums (a ++ b) := by
  apply ByteArray.ext
  simp [strOfNums]
theorem one_str {W : World} {g : Nat} {x : Int} (h : W.cell? ⟨g, 0, none⟩ = some (.int .u8 x)) :
    (convert 130 9 (.slice (some ⟨g, 0, none⟩) 1 1)).run Tryz.prog W = .ok (.string (strOfNums [x])) W := by
  refine run_convert_bytes_arg W 130 5 (by kernel_rfl) (by kernel_rfl) g 0 1 1 [x] rfl (fun k hk => ?_) _ (by kernel_rfl)
  obtain rfl : k = 0 := by omega
  exact h
theorem digB_step {n : Nat} (_h : n ≠ 0) (t : List Int) : (n / 10 = 0 → (48 + ((n % 10 : Nat) : Int)) :: t = digB n ++ t) ∧ (n / 10 ≠ 0 → digB (n / 10) ++ (48 + ((n % 10 : Nat) : Int)) :: t = digB n ++ t) := by
  constructor
  · intro h0
    have h1 : n < 10 := by omega
    have e : n % 10 = n := Nat.mod_eq_of_lt h1
    rw [e]
    unfold digB
    rw [dec10_small h1]
    rfl
  · intro h0
    have h1 : ¬ n < 10 := by omega
    have h3 : digB n = digB (n / 10) ++ [48 + ((n % 10 : Nat) : Int)] := by
      unfold digB
      rw [dec10_big h1]
      simp
    rw [h3]
    simp
/-- The digits that are put, and those that are left. -/
def DLeft (n0 n : Nat) (t : List Int) : Prop := (n = 0 ∧ (n0 ≠ 0 → t = digB n0) ∧ (n0 = 0 → t = [])) ∨ (n ≠ 0 ∧ n0 ≠ 0 ∧ digB n ++ t = digB n0)
theorem left_start (n : Nat) : DLeft n n [] := by
  by_cases h : n = 0
  · exact .inl ⟨h, fun h' => absurd h h', fun _ => rfl⟩
  · exact .inr ⟨h, h, by simp⟩
theorem left_step {n0 n : Nat} {t : List Int} (h : DLeft n0 n t) (hn : n ≠ 0) : DLeft n0 (n / 10) ((48 + ((n % 10 : Nat) : Int)) :: t) := by
  obtain ⟨h1, h2⟩ := digB_step hn t
  rcases h with ⟨h0, _⟩ | ⟨_, h3, h4⟩
  · exact absurd h0 hn
  · by_cases hq : n / 10 = 0
    · exact .inl ⟨hq, fun _ => (h1 hq).trans h4, fun h => absurd h h3⟩
    · exact .inr ⟨hq, h3, (h2 hq).trans h4⟩
theorem left_len {n0 n : Nat} {t : List Int} (h : DLeft n0 n t) (h0 : n0 < 2 ^ 256) : t.length ≤ 78 := by
  have hl : (digB n0).length ≤ 78 := by unfold digB; simpa using dec10_len256 h0
  rcases h with ⟨_, h1, h2⟩ | ⟨_, _, h1⟩
  · by_cases h : n0 = 0
    · rw [h2 h]; exact Nat.zero_le _
    · rw [h1 h]; exact hl
  · rw [← h1, List.length_append] at hl
    omega
theorem text_zero : textZ 0 = ⟨#[48]⟩ := by
  unfold textZ revB
  rw [show ab 0 = 0 from rfl, dec10_small (by decide)]
  rfl
def strLen : Value → Nat
  | .string s => s.size
  | _ => 0
theorem tdiv_ten (n : Nat) : Int.tdiv (n : Int) 10 = ((n / 10 : Nat) : Int) := by rw [Int.tdiv_eq_ediv_of_nonneg (by omega)]; omega
theorem tmod_ten (n : Nat) : Int.tmod (n : Int) 10 = ((n % 10 : Nat) : Int) := by rw [Int.tmod_eq_emod_of_nonneg (by omega)]; omega
set_option maxRecDepth 20000 in
set_option maxHeartbeats 8000000 in
theorem rtext_any (z : Int) (hz : ab z < 2 ^ 256) (u : Value) (w : World) (hu : BigAt w u z) :
    Calls Tryz.prog 119 #[u] w fun e w' => e = .returned (.string (textZ z)) ∧ Below w.heap.size w w' := by
  obtain ⟨A, c, rfl, hc, hA⟩ := hu
  have HA := Hd.mk hA
  have HZ := Hd.mk hz
  clear hA hz
  go_enter Tryz.func119, Tryz.ntmps119
  go_wp2_with fail
  refine (rof_abs (ab z) A c hc _ (HA.out.below (by focus (repeat (first | (with_reducible exact Below.refl _ _) | (with_reducible assumption) | ((with_reducible refine Below.setCell ?_ ?_ _); rotate_left; (focus (first | omega | (simp; done) | (simp; omega)))) | ((with_reducible refine Below.alloc ?_ ?_ _); rotate_left; (focus (first | omega | (simp; done) | (simp; omega)))) | (with_reducible refine Below.drew ?_) | (refine below_on ?_ (by assumption))))))).mono ?_
  rintro e w1 ⟨A1, c1, rfl, h11, h12, hb⟩
  have y0 := heap_below hb (heap_new w _)
  have hB : Below w.heap.size w w1 := by focus (repeat (first | (with_reducible exact Below.refl _ _) | (with_reducible assumption) | ((with_reducible refine Below.setCell ?_ ?_ _); rotate_left; (focus (first | omega | (simp; done) | (simp; omega)))) | ((with_reducible refine Below.alloc ?_ ?_ _); rotate_left; (focus (first | omega | (simp; done) | (simp; omega)))) | (with_reducible refine Below.drew ?_) | (refine below_on ?_ (by assumption))))
  have HD := Hd.mk h12
  have hs1 := hB.size
  have hs2 := lt_of_block y0
  clear hb h12
  go_upto_region 3 with (fail)
  refine abs_wp (fun W => NatIn W w1.heap.size (ab z) ∧ W.heap[w.heap.size]? = some (.cells #[.bool (ng z), .slice A (dd (ab z)).length c] 123 (0, 0)) ∧ Below w.heap.size w W) ⟨⟨A1, c1, heap_new _ _, h11, HD.out.below (by focus (repeat (first | (with_reducible exact Below.refl _ _) | (with_reducible assumption) | ((with_reducible refine Below.setCell ?_ ?_ _); rotate_left; (focus (first | omega | (simp; done) | (simp; omega)))) | ((with_reducible refine Below.alloc ?_ ?_ _); rotate_left; (focus (first | omega | (simp; done) | (simp; omega)))) | (with_reducible refine Below.drew ?_) | (refine below_on ?_ (by assumption)))))⟩, heap_old y0 _, by focus (repeat (first | (with_reducible exact Below.refl _ _) | (with_reducible assumption) | ((with_reducible refine Below.setCell ?_ ?_ _); rotate_left; (focus (first | omega | (simp; done) | (simp; omega)))) | ((with_reducible refine Below.alloc ?_ ?_ _); rotate_left; (focus (first | omega | (simp; done) | (simp; omega)))) | (with_reducible refine Below.drew ?_) | (refine below_on ?_ (by assumption))))⟩ fun W ⟨hN, y0, hB⟩ => ?_
  go_loopw [3] (fun sv wr => ∃ (n : Nat) (t : List Int), sv = .string (strOfNums t) ∧ Hd (n < 2 ^ 256) ∧ Hd (DLeft (ab z) n t) ∧ NatIn wr w1.heap.size n ∧ wr.heap[w.heap.size]? = some (.cells #[.bool (ng z), .slice A (dd (ab z)).length c] 123 (0, 0)) ∧ Below w.heap.size w wr) (fun sv _ => 1000 - strLen sv)
  case atStart => exact ⟨ab z, [], rfl, HZ, ⟨left_start _⟩, hN, y0, hB⟩
  case round =>
    clear hN y0 hB
    obtain ⟨n, t, rfl, HN, HL, ⟨C, c3, y4, h3, hC⟩, y0, hB⟩ := hrel
    have HC := Hd.mk hC
    have q4 := cell_at y4
    have hs4 := lt_of_block y4
    clear hC
    by_cases hn : n = 0
    · have hl0 : (dd n).length = 0 := by rw [hn, dd_zero]; rfl
      rw [hl0] at y4 q4
      have q0 := cell_at y0
      have HB := Hd.mk hB
      have HZ0 : Hd (strOfNums t = if ab z = 0 then strOfNums [] else strOfNums (digB (ab z))) := ⟨by
        rcases HL.out with ⟨_, h1, h2⟩ | ⟨h1, _⟩
        · split
          · rename_i h; rw [h2 h]
          · rename_i h; rw [h1 h]
        · exact absurd hn h1⟩
      by_cases hz0 : ab z = 0
      · have HS : Hd (strOfNums t = ⟨#[]⟩) := ⟨by rw [HZ0.out, if_pos hz0]; rfl⟩
        have HTX : Hd (textZ z = ⟨#[48]⟩) := ⟨by
          have : z = 0 := by unfold ab at hz0; omega
          subst this; exact text_zero⟩
        rw [HS.out]
        clear y0 hB hz0 hn
        go_wp2
        go_ret
        exact ⟨by rw [HTX.out]; rfl, HB.out⟩
      · have hS : strOfNums t = strOfNums (digB (ab z)) := by rw [HZ0.out, if_neg hz0]
        have ht : t.length ≤ 78 := left_len HL.out HZ.out
        have hlz : (digB (ab z)).length ≤ 78 := by unfold digB; simpa using dec10_len256 HZ.out
        have hz2 : (strOfNums (digB (ab z))).size = (digB (ab z)).length := strOfNums_size _
        have hemp : (strOfNums (digB (ab z))).toList.isEmpty = false := by
          rw [ByteArray.toList_eq, strOfNums_data]
          have := digB_ne (ab z)
          cases h : digB (ab z) with
          | nil => exact absurd h this
          | cons x l => rfl
        have hap : (⟨#[45]⟩ : ByteArray) ++ strOfNums (digB (ab z)) = strOfNums (45 :: digB (ab z)) := nums_append [45] _
        have HTX : Hd (textZ z = if ng z then strOfNums (45 :: digB (ab z)) else strOfNums (digB (ab z))) := ⟨by
          unfold textZ
          rw [rev_text]
          cases ng z <;> rfl⟩
        rw [hS]
        clear y0 hB hz0 hn hS
        cases hs : ng z
        · rw [hs] at q0 HTX
          go_wp2
          go_ret
          exact ⟨by rw [HTX.out]; rfl, HB.out⟩
        · rw [hs] at q0 HTX
          go_wp2
          go_ret
          exact ⟨by rw [HTX.out]; rfl, HB.out⟩
    · have hlen := len_pos.2 hn
      obtain ⟨Qn, hQn⟩ : ∃ Q, Q = n / 10 := ⟨_, rfl⟩
      obtain ⟨Rn, hRn⟩ : ∃ R, R = n % 10 := ⟨_, rfl⟩
      have hls := left_step HL.out hn
      have htd := tdiv_ten n
      have htm := tmod_ten n
      rw [← hQn] at htd
      rw [← hRn] at htm
      rw [← hQn, ← hRn] at hls
      have HL2 := Hd.mk hls
      have HTD := Hd.mk htd
      have HTM := Hd.mk htm
      have HQ : Hd (Qn < 2 ^ 256) := ⟨by rw [hQn]; exact Nat.lt_of_le_of_lt (Nat.div_le_self _ _) HN.out⟩
      have HR : Hd (Rn < 10) := ⟨by omega⟩
      clear hls htd htm hQn hRn
      have HT : Hd (t.length ≤ 78) := ⟨left_len HL.out HZ.out⟩
      have HNE := Hd.mk hn
      clear hn
      go_upto_region 4 with (fail)
      clear q4 hlen
      have hD0 : Below wr.heap.size wr wr := Below.refl _ _
      refine region_abs (fun a0 a' w' => ∃ u15 u16 u17 u14 u18 u19 M1 M2, a' = Act.put (Act.put (Act.put (Act.put (Act.put (Act.put (Act.put (Act.put a0 (some 15) u15) (some 16) u16) (some 17) u17) (some 14) u14) (some 18) u18) (some 19) u19) (some 5) (.pointer (some ⟨M1, 0, none⟩))) (some 6) (.pointer (some ⟨M2, 0, none⟩)) ∧ (BigIn w' M1 (Qn : Int) ∧ BigIn w' M2 (Rn : Int)) ∧ Below wr.heap.size wr w') ?_ ?_
      · have HS : Hd (∀ W', Below wr.heap.size wr W' → W'.cell? ⟨w1.heap.size, 0, none⟩ = some (.bool false) ∧ W'.cell? ⟨w1.heap.size, 1, none⟩ = some (.slice C (dd n).length c3)) := ⟨fun W' h => ⟨(h.cell hs4).trans (cell_at y4 0), (h.cell hs4).trans (cell_at y4 1)⟩⟩
        have hD : Below wr.heap.size wr wr.drew := Below.drew (Below.refl _ _)
        have hDz := hD.size
        clear hB y0 y4 hD0
        go_region_held3 (fun W' => W'.cell? ⟨w1.heap.size, 0, none⟩ = some (.bool false) ∧ W'.cell? ⟨w1.heap.size, 1, none⟩ = some (.slice C (dd n).length c3)) ((exact HS.out _ (by focus (repeat (first | (with_reducible exact Below.refl _ _) | (with_reducible assumption) | ((with_reducible refine Below.setCell ?_ ?_ _); rotate_left; (focus (first | omega | (simp; done) | (simp; omega)))) | ((with_reducible refine Below.alloc ?_ ?_ _); rotate_left; (focus (first | omega | (simp; done) | (simp; omega)))) | (with_reducible refine Below.drew ?_) | (refine below_on ?_ (by assumption)))))))
          ((first
            | (go_at_call 118; refine (rnum_any 10 (by omega) (by omega) _).mono ?_; rintro e wa ⟨va, rfl, hVa, hb⟩; have hD : Below wr.heap.size wr wa := below_on (by focus (repeat (first | (with_reducible exact Below.refl _ _) | (with_reducible assumption) | ((with_reducible refine Below.setCell ?_ ?_ _); rotate_left; (focus (first | omega | (simp; done) | (simp; omega)))) | ((with_reducible refine Below.alloc ?_ ?_ _); rotate_left; (focus (first | omega | (simp; done) | (simp; omega)))) | (with_reducible refine Below.drew ?_) | (refine below_on ?_ (by assumption))))) hb; have hDz := hD.size; (first | (have zN := heap_below hb zN; have qN := cell_at zN; have fN := frozen_at zN; have lN := lt_of_block zN; have nN := Nat.ne_of_lt lN; have nN2 := Nat.ne_of_gt lN; (first | (have zM := heap_below hb zM; have qM := cell_at zM; have fM := frozen_at zM; have lM := lt_of_block zM; have nM := Nat.ne_of_lt lM; have nM2 := Nat.ne_of_gt lM) | skip)) | (have zN := heap_below hb (heap_old zN _); have qN := cell_at zN; have fN := frozen_at zN; have lN := lt_of_block zN; have nN := Nat.ne_of_lt lN; have nN2 := Nat.ne_of_gt lN; have zM := heap_below hb (heap_new _ (.cells #[.bool false, .slice none 0 0] 123)); have qM := cell_at zM; have fM := frozen_at zM; have lM := lt_of_block zM; have nM := Nat.ne_of_lt lM; have nM2 := Nat.ne_of_gt lM) | (have zM := heap_below hb (heap_two _ (.cells #[.bool false, .slice none 0 0] 123) (.cells #[.bool false, .slice none 0 0] 123)); have zN := heap_below hb (heap_old (heap_new _ (.cells #[.bool false, .slice none 0 0] 123)) _); have qN := cell_at zN; have fN := frozen_at zN; have lN := lt_of_block zN; have nN := Nat.ne_of_lt lN; have nN2 := Nat.ne_of_gt lN; have qM := cell_at zM; have fM := frozen_at zM; have lM := lt_of_block zM; have nM := Nat.ne_of_lt lM; have nM2 := Nat.ne_of_gt lM) | (have zN := heap_below hb (heap_new _ (.cells #[.bool false, .slice none 0 0] 123)); have qN := cell_at zN; have fN := frozen_at zN; have lN := lt_of_block zN; have nN := Nat.ne_of_lt lN; have nN2 := Nat.ne_of_gt lN) | skip); clear hb)
            | (go_at_call 143; refine (rquo_any (n : Int) 10 (by omega) _ _ (by rw [ab_nat]; exact Nat.le_trans ((dd_len16 _).2 HN.out) (by decide)) (Nat.le_trans (dd_mono (show ab 10 ≤ 65535 by decide)) (Nat.le_trans ((dd_len 1 _).2 (by decide)) (by decide))) _ (nat_big h3 (HC.out.below (by focus (repeat (first | (with_reducible exact Below.refl _ _) | (with_reducible assumption) | ((with_reducible refine Below.setCell ?_ ?_ _); rotate_left; (focus (first | omega | (simp; done) | (simp; omega)))) | ((with_reducible refine Below.alloc ?_ ?_ _); rotate_left; (focus (first | omega | (simp; done) | (simp; omega)))) | (with_reducible refine Below.drew ?_) | (refine below_on ?_ (by assumption))))))) (hVa.below (by focus (repeat (first | (with_reducible exact Below.refl _ _) | (with_reducible assumption) | ((with_reducible refine Below.setCell ?_ ?_ _); rotate_left; (focus (first | omega | (simp; done) | (simp; omega)))) | ((with_reducible refine Below.alloc ?_ ?_ _); rotate_left; (focus (first | omega | (simp; done) | (simp; omega)))) | (with_reducible refine Below.drew ?_) | (refine below_on ?_ (by assumption))))))).mono ?_; rintro e wc ⟨vc, vd, rfl, hVc, hVd, hb⟩; rw [HTD.out] at hVc; rw [HTM.out] at hVd; obtain ⟨A1, c1, rfl, h11, h12⟩ := hVc; obtain ⟨A2, c2, rfl, h21, h22⟩ := hVd; have hD : Below wr.heap.size wr wc := below_on (by focus (repeat (first | (with_reducible exact Below.refl _ _) | (with_reducible assumption) | ((with_reducible refine Below.setCell ?_ ?_ _); rotate_left; (focus (first | omega | (simp; done) | (simp; omega)))) | ((with_reducible refine Below.alloc ?_ ?_ _); rotate_left; (focus (first | omega | (simp; done) | (simp; omega)))) | (with_reducible refine Below.drew ?_) | (refine below_on ?_ (by assumption))))) hb; have hDz := hD.size; (first | (have zN := heap_below hb zN; have qN := cell_at zN; have fN := frozen_at zN; have lN := lt_of_block zN; have nN := Nat.ne_of_lt lN; have nN2 := Nat.ne_of_gt lN; (first | (have zM := heap_below hb zM; have qM := cell_at zM; have fM := frozen_at zM; have lM := lt_of_block zM; have nM := Nat.ne_of_lt lM; have nM2 := Nat.ne_of_gt lM) | skip)) | (have zN := heap_below hb (heap_old zN _); have qN := cell_at zN; have fN := frozen_at zN; have lN := lt_of_block zN; have nN := Nat.ne_of_lt lN; have nN2 := Nat.ne_of_gt lN; have zM := heap_below hb (heap_new _ (.cells #[.bool false, .slice none 0 0] 123)); have qM := cell_at zM; have fM := frozen_at zM; have lM := lt_of_block zM; have nM := Nat.ne_of_lt lM; have nM2 := Nat.ne_of_gt lM) | (have zM := heap_below hb (heap_two _ (.cells #[.bool false, .slice none 0 0] 123) (.cells #[.bool false, .slice none 0 0] 123)); have zN := heap_below hb (heap_old (heap_new _ (.cells #[.bool false, .slice none 0 0] 123)) _); have qN := cell_at zN; have fN := frozen_at zN; have lN := lt_of_block zN; have nN := Nat.ne_of_lt lN; have nN2 := Nat.ne_of_gt lN; have qM := cell_at zM; have fM := frozen_at zM; have lM := lt_of_block zM; have nM := Nat.ne_of_lt lM; have nM2 := Nat.ne_of_gt lM) | (have zN := heap_below hb (heap_new _ (.cells #[.bool false, .slice none 0 0] 123)); have qN := cell_at zN; have fN := frozen_at zN; have lN := lt_of_block zN; have nN := Nat.ne_of_lt lN; have nN2 := Nat.ne_of_gt lN) | skip); clear hb)))
        all_goals first
        | (obtain ⟨L1, L2, L3⟩ := lay_two zN zM (by omega) h11 h12 h21 h22; refine ⟨rfl, _, _, _, _, _, _, _, _, rfl, ?_⟩; (with_reducible exact ⟨⟨L1, L2⟩, hD.trans (L3 _ (by omega) (by omega))⟩))
        | (obtain ⟨L1, L2, L3⟩ := lay_two zM zN (by omega) h11 h12 h21 h22; refine ⟨rfl, _, _, _, _, _, _, _, _, rfl, ?_⟩; (with_reducible exact ⟨⟨L1, L2⟩, hD.trans (L3 _ (by omega) (by omega))⟩))
        | (obtain ⟨L1, L2, L3⟩ := lay_set_alloc zN h11 h12 h21 h22; refine ⟨rfl, _, _, _, _, _, _, _, _, rfl, ?_⟩; (with_reducible exact ⟨⟨L1, L2⟩, hD.trans (L3 _ (by omega))⟩))
        | (obtain ⟨L1, L2, L3⟩ := lay_set_alloc zN h21 h22 h11 h12; refine ⟨rfl, _, _, _, _, _, _, _, _, rfl, ?_⟩; (with_reducible exact ⟨⟨L2, L1⟩, hD.trans (L3 _ (by omega))⟩))
        | (obtain ⟨L1, L2, L3⟩ := lay_alloc2 h11 h12 h21 h22; refine ⟨rfl, _, _, _, _, _, _, _, _, rfl, ?_⟩; (with_reducible exact ⟨⟨L1, L2⟩, hD.trans (L3 _ (by omega))⟩))
        | (obtain ⟨L1, L2, L3⟩ := lay_alloc2 h21 h22 h11 h12; refine ⟨rfl, _, _, _, _, _, _, _, _, rfl, ?_⟩; (with_reducible exact ⟨⟨L2, L1⟩, hD.trans (L3 _ (by omega))⟩))
      rintro a' w2 ⟨u15, u16, u17, u14, u18, u19, M1, M2, rfl, ⟨zM1, zM2⟩, hF⟩
      have x0 := (hF.block _ (lt_of_block y0)).trans y0
      have x4 := (hF.block _ (lt_of_block y4)).trans y4
      have hB2 := below_on hB hF
      obtain ⟨D1, d1, zq, hq1, hq2⟩ := zM1
      obtain ⟨D2, d2, zr, hr1, hr2⟩ := zM2
      rw [ng_nat, ab_nat] at zq zr
      rw [ab_nat] at hq1 hq2 hr1 hr2
      have HQ2 := Hd.mk hq2
      have HR2 := Hd.mk hr2
      have c_q := cell_at zq
      have c_r := cell_at zr
      have c_4 := cell_at x4
      have f_4 := frozen_at x4
      have l_4 := lt_of_block x4
      have l_q := lt_of_block zq
      have hr10 : (Rn : Int) < 10 := by have := HR.out; omega
      have hcv := one_str (W := w2.alloc (.cells #[.int .u8 (48 + (Rn : Int))] 5)) (g := w2.heap.size) (x := 48 + (Rn : Int)) (cell_at (heap_new _ _) 0)
      have hap := nums_append [48 + (Rn : Int)] t
      have hz1 : (strOfNums [48 + (Rn : Int)]).size = 1 := strOfNums_size _
      have hz2 : (strOfNums t).size = t.length := strOfNums_size _
      have hz3 := HT.out
      clear y0 y4 hB hF hq2 hr2 zr
      generalize w2 = V4 at *
      go_wp2_with fail
      refine (rat_d Rn 0 (Rn : Int) (by unfold d16; have := HR.out; rw [Nat.pow_zero, Nat.div_one, Nat.mod_eq_of_lt (by omega)]) D2 d2 hr1 _ HR2.out).mono ?_
      rintro e w3 ⟨rfl, rfl⟩
      clear c_r
      go_wp2
      refine ⟨⟨Qn, (48 + (Rn : Int)) :: t, rfl, HQ, HL2, ⟨D1, d1, heap_old (laid_both w1.heap.size V4 _ _ x4 rfl) _, hq1, (HQ2.out.laid x4 _ _).below (Below.alloc (Below.refl _ _) (Nat.le_refl _) _)⟩, heap_old (heap_set_other (heap_set_other x0 (by simp; omega) _) (by simp; omega) _) _, ?_⟩, ?_⟩
      · have hsV := hB2.size
        focus (repeat (first | (with_reducible exact Below.refl _ _) | (with_reducible assumption) | ((with_reducible refine Below.setCell ?_ ?_ _); rotate_left; (focus (first | omega | (simp; done) | (simp; omega)))) | ((with_reducible refine Below.alloc ?_ ?_ _); rotate_left; (focus (first | omega | (simp; done) | (simp; omega)))) | (with_reducible refine Below.drew ?_) | (refine below_on ?_ (by assumption))))
      · simp only [strLen, strOfNums_size, List.length_cons]
        omega
end Go.Proofs.YtfchmikbebdflaaGreatDoor
