/-
  Walk of a reference: number. Conditions stand in each theorem.
-/
import Derived.Test.YtbhfnfokihdjjaaGreatDoorTy1
namespace Go.Proofs.YtbhfnfokihdjjaaGreatDoor
open Go.RowKit Go.BigFrame
/-- Which digits are a number, and which one. -/
def goodU (neg : Bool) (d : List UInt8) : Bool := !d.isEmpty && (decide (d.length ≤ 9) && ((d.head? != some 48 || (d.length == 1 && !neg)) && d.all digU))
def valS (neg : Bool) (d : List UInt8) : Int := if goodU neg d then (if neg then -(valU d : Int) else (valU d : Int)) else 0
theorem bt_head (D : ByteArray) (h : 0 < D.size) : (D.data.toList.head? != some 48) = !(bt D 0 == 48) := by
  have h1 : 0 < D.data.toList.length := by simpa using h
  unfold bt
  cases hl : D.data.toList with
  | nil => rw [hl] at h1; cases h1
  | cons a l =>
    show (some a != some 48) = !(((a.toNat : Nat) : Int) == 48)
    have e : (a = 48) ↔ (((a.toNat : Nat) : Int) = 48) := by
      constructor
      · rintro rfl
        decide
      · intro h2
        apply UInt8.toNat_inj.1
        have : (48 : UInt8).toNat = 48 := by decide
        omega
    by_cases hh : a = 48
    · subst hh
      decide
    · have h3 : ¬ (((a.toNat : Nat) : Int) = 48) := fun h4 => hh (e.2 h4)
      have h5 : (some a != some 48) = true := by simpa using hh
      have h6 : (((a.toNat : Nat) : Int) == 48) = false := by simpa using h3
      rw [h5, h6]
      rfl
theorem bt_dig (D : ByteArray) (k : Nat) (h : k < D.size) : ∃ c, D.data.toList[k]? = some c ∧ bt D k = ((c.toNat : Nat) : Int) := by
  have h1 : k < D.data.toList.length := by simpa using h
  refine ⟨D.data.toList[k], List.getElem?_eq_getElem h1, ?_⟩
  unfold bt
  rw [List.getD_eq_getElem?_getD, List.getElem?_eq_getElem h1]
  rfl
theorem empty_bytes (D : ByteArray) : D.toList.isEmpty = decide (D.size = 0) := by
  rw [ByteArray.toList_eq]
  have : D.data.toList.length = D.size := by simp
  cases h : D.data.toList with
  | nil => rw [h] at this; simp at this; simp [← this]
  | cons a l => rw [h] at this; simp at this; simp [← this]
set_option maxRecDepth 20000 in
set_option maxHeartbeats 4000000 in
theorem number_none (s : ByteArray) (h0 : s.size = 0) (_hsz : s.size ≤ 100) (w : World) :
    Calls Tryz.prog 97 #[.string s] w fun e w' => e = .returned (.tuple #[.int .i64 (valS false s.data.toList), .bool (goodU false s.data.toList)]) ∧ w' = w := by
  have HG : Hd (goodU false s.data.toList = false) := ⟨by
    have : s.data.toList = [] := List.eq_nil_of_length_eq_zero (by simpa using h0)
    rw [this]; rfl⟩
  have HVS : Hd (valS false s.data.toList = 0) := ⟨by unfold valS; rw [HG.out]; rfl⟩
  have hemp : s.toList.isEmpty = true := by rw [empty_bytes]; simpa using h0
  go_enter Tryz.func97, Tryz.ntmps97
  go_wp2
  refine bodyPost_ret (by first | (simp [results, Tryz.results97, go_sem]; done) | (simp [results, Tryz.results97, go_sem]; rfl)) rfl ?_
  exact ⟨by first | (rw [HVS.out, HG.out]; done) | (rw [HVS.out, HG.out]; simp only [*]), rfl⟩
set_option maxRecDepth 20000 in
set_option maxHeartbeats 4000000 in
theorem number_plain (s : ByteArray) (h0 : 0 < s.size) (h45 : bt s 0 ≠ 45) (hsz : s.size ≤ 100) (w : World) :
    Calls Tryz.prog 97 #[.string s] w fun e w' => e = .returned (.tuple #[.int .i64 (valS false s.data.toList), .bool (goodU false s.data.toList)]) ∧ w' = w := by
  have hl0 : decide ((s.size : Int) > 0) = true := by simp; omega
  have hb0 := get_bt s 0 h0
  have hne : (bt s 0 == 45) = false := by simpa using h45
  have hDs : s.size ≤ 100 := hsz
  clear h45
  have HLEN : Hd (s.data.toList.length = s.size) := ⟨by simp⟩
  by_cases hz : s.size = 0
  · have HG : Hd (goodU false s.data.toList = false) := ⟨by
      have : s.data.toList = [] := List.eq_nil_of_length_eq_zero (by simpa using hz)
      rw [this]; rfl⟩
    have HVS : Hd (valS false s.data.toList = 0) := ⟨by unfold valS; rw [HG.out]; rfl⟩
    have hemp : s.toList.isEmpty = true := by rw [empty_bytes]; simpa using hz
    go_enter Tryz.func97, Tryz.ntmps97
    go_wp2
    refine bodyPost_ret (by first | (simp [results, Tryz.results97, go_sem]; done) | (simp [results, Tryz.results97, go_sem]; rfl)) rfl ?_
    exact ⟨by first | (rw [HVS.out, HG.out]; done) | (rw [HVS.out, HG.out]; simp only [*]), rfl⟩
  have hemp : s.toList.isEmpty = false := by rw [empty_bytes]; simpa using hz
  by_cases h9 : s.size > 9
  · have HG : Hd (goodU false s.data.toList = false) := ⟨by
      unfold goodU
      rw [HLEN.out, decide_eq_false (by omega : ¬ s.size ≤ 9)]
      simp⟩
    have HVS : Hd (valS false s.data.toList = 0) := ⟨by unfold valS; rw [HG.out]; rfl⟩
    have hd9 : decide ((s.size : Int) > 9) = true := by simp; omega
    go_enter Tryz.func97, Tryz.ntmps97
    go_wp2
    refine bodyPost_ret (by first | (simp [results, Tryz.results97, go_sem]; done) | (simp [results, Tryz.results97, go_sem]; rfl)) rfl ?_
    exact ⟨by first | (rw [HVS.out, HG.out]; done) | (rw [HVS.out, HG.out]; simp only [*]), rfl⟩
  have hd9 : decide ((s.size : Int) > 9) = false := by simp; omega
  have hp : 0 < s.size := by omega
  have hbD := get_bt s 0 hp
  have HHD := Hd.mk (bt_head s hp)
  by_cases h48 : bt s 0 = 48
  · rw [h48] at hbD hb0
    clear hne
    by_cases hg1 : s.size > 1
    · have hd11 : decide ((s.size : Int) > 1) = true := by simp; omega
      have HG : Hd (goodU false s.data.toList = false) := ⟨by
        unfold goodU
        rw [HHD.out, h48, HLEN.out, show (s.size == 1) = false by simp; omega]
        simp⟩
      have HVS : Hd (valS false s.data.toList = 0) := ⟨by unfold valS; rw [HG.out]; rfl⟩
      go_enter Tryz.func97, Tryz.ntmps97
      go_wp2
      all_goals
        refine bodyPost_ret (by first | (simp [results, Tryz.results97, go_sem]; done) | (simp [results, Tryz.results97, go_sem]; rfl)) rfl ?_
        exact ⟨by first | (rw [HVS.out, HG.out]; done) | (rw [HVS.out, HG.out]; simp only [*]), rfl⟩
    have hd11 : decide ((s.size : Int) > 1) = false := by simp; omega
    have HOK : Hd ((s.data.toList.head? != some 48 || (s.data.toList.length == 1 && !false)) = true) := ⟨by rw [HLEN.out, show (s.size == 1) = true by simp; omega]; simp⟩
    have hok : (s.data.toList.head? != some 48 || (s.data.toList.length == 1 && !false)) = true := HOK.out
    have HGA : Hd (goodU false s.data.toList = s.data.toList.all digU) := ⟨by
      unfold goodU
      rw [hok, HLEN.out, decide_eq_true (by omega : s.size ≤ 9)]
      have : s.data.toList.isEmpty = false := by
        cases hl : s.data.toList with
        | nil =>
          have := HLEN.out
          rw [hl] at this
          simp at this
          omega
        | cons a l => rfl
      rw [this]
      rfl⟩
    clear hok HOK HHD
    go_enter Tryz.func97, Tryz.ntmps97
    go_upto_region 8 with (fail)
    go_wp2
    clear hbD
    go_loopw [6, 7] (fun nv iv wr => ∃ k : Nat, k ≤ s.size ∧ iv = .int .i64 k ∧ nv = .int .i64 (valU (s.data.toList.take k)) ∧ Hd ((s.data.toList.take k).all digU = true) ∧ wr = w) (fun _ iv _ => s.size - (intOf iv).toNat)
    case atStart => exact ⟨0, Nat.zero_le _, rfl, rfl, ⟨rfl⟩, rfl⟩
    case round =>
      obtain ⟨k, hk, rfl, rfl, HK, rfl⟩ := hrel
      by_cases hlt : k < s.size
      · have hd1 : decide ((k : Int) < (s.size : Int)) = true := by simp; omega
        obtain ⟨c, hc, hbc⟩ := bt_dig s k hlt
        have hgk := (get_bt s k hlt).trans hbc
        have HC := Hd.mk hc
        clear hc hbc
        by_cases h1 : c.toNat < 48
        · have hd2 : decide (((c.toNat : Nat) : Int) < 48) = true := by simp; omega
          have HG : Hd (goodU false s.data.toList = false) := ⟨by
            rw [HGA.out, List.all_eq_false]
            refine ⟨c, List.mem_of_getElem? HC.out, ?_⟩
            unfold digU
            simp
            omega⟩
          have HVS : Hd (valS false s.data.toList = 0) := ⟨by unfold valS; rw [HG.out]; rfl⟩
          clear h1
          go_wp2
          refine bodyPost_ret (by first | (simp [results, Tryz.results97, go_sem]; done) | (simp [results, Tryz.results97, go_sem]; rfl)) rfl ?_
          exact ⟨by first | (rw [HVS.out, HG.out]; done) | (rw [HVS.out, HG.out]; simp only [*]), rfl⟩
        · have hd2 : decide (((c.toNat : Nat) : Int) < 48) = false := by simp; omega
          by_cases h2 : c.toNat > 57
          · have hd3 : decide (((c.toNat : Nat) : Int) > 57) = true := by simp; omega
            have HG : Hd (goodU false s.data.toList = false) := ⟨by
              rw [HGA.out, List.all_eq_false]
              refine ⟨c, List.mem_of_getElem? HC.out, ?_⟩
              unfold digU
              simp
              omega⟩
            have HVS : Hd (valS false s.data.toList = 0) := ⟨by unfold valS; rw [HG.out]; rfl⟩
            clear h1 h2
            go_wp2
            refine bodyPost_ret (by first | (simp [results, Tryz.results97, go_sem]; done) | (simp [results, Tryz.results97, go_sem]; rfl)) rfl ?_
            exact ⟨by first | (rw [HVS.out, HG.out]; done) | (rw [HVS.out, HG.out]; simp only [*]), rfl⟩
          · have hd3 : decide (((c.toNat : Nat) : Int) > 57) = false := by simp; omega
            have hdc : digU c = true := by unfold digU; simp; omega
            have htk : s.data.toList.take (k + 1) = s.data.toList.take k ++ [c] := by
              rw [List.take_add_one, HC.out]
              rfl
            have HK2 : Hd ((s.data.toList.take (k + 1)).all digU = true) := ⟨by
              rw [htk, List.all_append, HK.out]
              simpa using hdc⟩
            have hv := valU_snoc (s.data.toList.take k) c
            rw [← htk] at hv
            have hv9 := valU_lt _ HK.out
            have hv8 : (10 : Nat) ^ (s.data.toList.take k).length ≤ 10 ^ 9 := Nat.pow_le_pow_right (by decide) (by rw [List.length_take, HLEN.out]; omega)
            have hvb : valU (s.data.toList.take k) < 10 ^ 9 := Nat.lt_of_lt_of_le hv9 hv8
            have hw1 : wrap64 (10 * (valU (s.data.toList.take k) : Int)) = 10 * (valU (s.data.toList.take k) : Int) := by unfold wrap64; omega
            have hw3 : wrap64 (10 * (valU (s.data.toList.take k) : Int) + ((((c.toNat : Nat) : Int) - 48) % 256)) = (valU (s.data.toList.take (k + 1)) : Int) := by
              rw [hv]
              unfold wrap64
              omega
            have HW := Hd.mk (And.intro hw1 hw3)
            clear h1 h2 hdc htk hv hv9 hv8 hvb hw1 hw3
            go_wp2
            go_roundw
            case rel =>
              refine ⟨k + 1, by omega, by go_num, ?_, HK2, by first | rfl | trivial⟩
              simp only [HW.out.1, HW.out.2]
            case measure => simp [intOf]; omega
      · have hkk : k = s.size := by omega
        have hd1 : decide ((k : Int) < (s.size : Int)) = false := by simp; omega
        have hall : s.data.toList.take k = s.data.toList := List.take_of_length_le (by rw [HLEN.out]; omega)
        rw [hall] at HK ⊢
        have HG : Hd (goodU false s.data.toList = true) := ⟨by rw [HGA.out]; exact HK.out⟩
        have hv9 := valU_lt _ HK.out
        have hv8 : (10 : Nat) ^ (s.data.toList).length ≤ 10 ^ 9 := Nat.pow_le_pow_right (by decide) (by rw [HLEN.out]; omega)
        have hvb : valU (s.data.toList) < 10 ^ 9 := Nat.lt_of_lt_of_le hv9 hv8
        have HVS : Hd (valS false s.data.toList = (valU s.data.toList : Int)) := ⟨by unfold valS; rw [HG.out]; rfl⟩
        have hwn : wrap64 (-(valU s.data.toList : Int)) = -(valU s.data.toList : Int) := by unfold wrap64; omega
        clear hkk hall hv9 hv8 hvb
        go_wp2
        refine bodyPost_ret (by first | (simp [results, Tryz.results97, go_sem]; done) | (simp [results, Tryz.results97, go_sem]; rfl)) rfl ?_
        exact ⟨by first | (rw [HVS.out, HG.out]; done) | (rw [HVS.out, HG.out]; simp only [*]), rfl⟩
  have hx48 : (bt s 0 == 48) = false := by simpa using h48
  have HOK : Hd ((s.data.toList.head? != some 48 || (s.data.toList.length == 1 && !false)) = true) := ⟨by rw [HHD.out, hx48]; rfl⟩
  clear h48
  have hok : (s.data.toList.head? != some 48 || (s.data.toList.length == 1 && !false)) = true := HOK.out
  have HGA : Hd (goodU false s.data.toList = s.data.toList.all digU) := ⟨by
    unfold goodU
    rw [hok, HLEN.out, decide_eq_true (by omega : s.size ≤ 9)]
    have : s.data.toList.isEmpty = false := by
      cases hl : s.data.toList with
      | nil =>
        have := HLEN.out
        rw [hl] at this
        simp at this
        omega
      | cons a l => rfl
    rw [this]
    rfl⟩
  clear hok HOK HHD
  go_enter Tryz.func97, Tryz.ntmps97
  go_upto_region 8 with (fail)
  go_wp2
  clear hbD
  go_loopw [6, 7] (fun nv iv wr => ∃ k : Nat, k ≤ s.size ∧ iv = .int .i64 k ∧ nv = .int .i64 (valU (s.data.toList.take k)) ∧ Hd ((s.data.toList.take k).all digU = true) ∧ wr = w) (fun _ iv _ => s.size - (intOf iv).toNat)
  case atStart => exact ⟨0, Nat.zero_le _, rfl, rfl, ⟨rfl⟩, rfl⟩
  case round =>
    obtain ⟨k, hk, rfl, rfl, HK, rfl⟩ := hrel
    by_cases hlt : k < s.size
    · have hd1 : decide ((k : Int) < (s.size : Int)) = true := by simp; omega
      obtain ⟨c, hc, hbc⟩ := bt_dig s k hlt
      have hgk := (get_bt s k hlt).trans hbc
      have HC := Hd.mk hc
      clear hc hbc
      by_cases h1 : c.toNat < 48
      · have hd2 : decide (((c.toNat : Nat) : Int) < 48) = true := by simp; omega
        have HG : Hd (goodU false s.data.toList = false) := ⟨by
          rw [HGA.out, List.all_eq_false]
          refine ⟨c, List.mem_of_getElem? HC.out, ?_⟩
          unfold digU
          simp
          omega⟩
        have HVS : Hd (valS false s.data.toList = 0) := ⟨by unfold valS; rw [HG.out]; rfl⟩
        clear h1
        go_wp2
        refine bodyPost_ret (by first | (simp [results, Tryz.results97, go_sem]; done) | (simp [results, Tryz.results97, go_sem]; rfl)) rfl ?_
        exact ⟨by first | (rw [HVS.out, HG.out]; done) | (rw [HVS.out, HG.out]; simp only [*]), rfl⟩
      · have hd2 : decide (((c.toNat : Nat) : Int) < 48) = false := by simp; omega
        by_cases h2 : c.toNat > 57
        · have hd3 : decide (((c.toNat : Nat) : Int) > 57) = true := by simp; omega
          have HG : Hd (goodU false s.data.toList = false) := ⟨by
            rw [HGA.out, List.all_eq_false]
            refine ⟨c, List.mem_of_getElem? HC.out, ?_⟩
            unfold digU
            simp
            omega⟩
          have HVS : Hd (valS false s.data.toList = 0) := ⟨by unfold valS; rw [HG.out]; rfl⟩
          clear h1 h2
          go_wp2
          refine bodyPost_ret (by first | (simp [results, Tryz.results97, go_sem]; done) | (simp [results, Tryz.results97, go_sem]; rfl)) rfl ?_
          exact ⟨by first | (rw [HVS.out, HG.out]; done) | (rw [HVS.out, HG.out]; simp only [*]), rfl⟩
        · have hd3 : decide (((c.toNat : Nat) : Int) > 57) = false := by simp; omega
          have hdc : digU c = true := by unfold digU; simp; omega
          have htk : s.data.toList.take (k + 1) = s.data.toList.take k ++ [c] := by
            rw [List.take_add_one, HC.out]
            rfl
          have HK2 : Hd ((s.data.toList.take (k + 1)).all digU = true) := ⟨by
            rw [htk, List.all_append, HK.out]
            simpa using hdc⟩
          have hv := valU_snoc (s.data.toList.take k) c
          rw [← htk] at hv
          have hv9 := valU_lt _ HK.out
          have hv8 : (10 : Nat) ^ (s.data.toList.take k).length ≤ 10 ^ 9 := Nat.pow_le_pow_right (by decide) (by rw [List.length_take, HLEN.out]; omega)
          have hvb : valU (s.data.toList.take k) < 10 ^ 9 := Nat.lt_of_lt_of_le hv9 hv8
          have hw1 : wrap64 (10 * (valU (s.data.toList.take k) : Int)) = 10 * (valU (s.data.toList.take k) : Int) := by unfold wrap64; omega
          have hw3 : wrap64 (10 * (valU (s.data.toList.take k) : Int) + ((((c.toNat : Nat) : Int) - 48) % 256)) = (valU (s.data.toList.take (k + 1)) : Int) := by
            rw [hv]
            unfold wrap64
            omega
          have HW := Hd.mk (And.intro hw1 hw3)
          clear h1 h2 hdc htk hv hv9 hv8 hvb hw1 hw3
          go_wp2
          go_roundw
          case rel =>
            refine ⟨k + 1, by omega, by go_num, ?_, HK2, by first | rfl | trivial⟩
            simp only [HW.out.1, HW.out.2]
          case measure => simp [intOf]; omega
    · have hkk : k = s.size := by omega
      have hd1 : decide ((k : Int) < (s.size : Int)) = false := by simp; omega
      have hall : s.data.toList.take k = s.data.toList := List.take_of_length_le (by rw [HLEN.out]; omega)
      rw [hall] at HK ⊢
      have HG : Hd (goodU false s.data.toList = true) := ⟨by rw [HGA.out]; exact HK.out⟩
      have hv9 := valU_lt _ HK.out
      have hv8 : (10 : Nat) ^ (s.data.toList).length ≤ 10 ^ 9 := Nat.pow_le_pow_right (by decide) (by rw [HLEN.out]; omega)
      have hvb : valU (s.data.toList) < 10 ^ 9 := Nat.lt_of_lt_of_le hv9 hv8
      have HVS : Hd (valS false s.data.toList = (valU s.data.toList : Int)) := ⟨by unfold valS; rw [HG.out]; rfl⟩
      have hwn : wrap64 (-(valU s.data.toList : Int)) = -(valU s.data.toList : Int) := by unfold wrap64; omega
      clear hkk hall hv9 hv8 hvb
      go_wp2
      refine bodyPost_ret (by first | (simp [results, Tryz.results97, go_sem]; done) | (simp [results, Tryz.results97, go_sem]; rfl)) rfl ?_
      exact ⟨by first | (rw [HVS.out, HG.out]; done) | (rw [HVS.out, HG.out]; simp only [*]), rfl⟩
set_option maxRecDepth 20000 in
set_option maxHeartbeats 4000000 in
theorem number_neg (s : ByteArray) (D : ByteArray) (h0 : 0 < s.size) (h45 : bt s 0 = 45) (hD : s.extract 1 s.size = D) (hsz : s.size ≤ 100) (w : World) :
    Calls Tryz.prog 97 #[.string s] w fun e w' => e = .returned (.tuple #[.int .i64 (valS true D.data.toList), .bool (goodU true D.data.toList)]) ∧ w' = w := by
  have hl0 : decide ((s.size : Int) > 0) = true := by simp; omega
  have hb0 := get_bt s 0 h0
  rw [h45] at hb0
  have hl1 : (1 : Int) ≤ (s.size : Int) := by omega
  have hDs : D.size ≤ 100 := by
    rw [← hD, ByteArray.size_extract]
    omega
  clear h45
  have HLEN : Hd (D.data.toList.length = D.size) := ⟨by simp⟩
  by_cases hz : D.size = 0
  · have HG : Hd (goodU true D.data.toList = false) := ⟨by
      have : D.data.toList = [] := List.eq_nil_of_length_eq_zero (by simpa using hz)
      rw [this]; rfl⟩
    have HVS : Hd (valS true D.data.toList = 0) := ⟨by unfold valS; rw [HG.out]; rfl⟩
    have hemp : D.toList.isEmpty = true := by rw [empty_bytes]; simpa using hz
    go_enter Tryz.func97, Tryz.ntmps97
    go_wp2
    refine bodyPost_ret (by first | (simp [results, Tryz.results97, go_sem]; done) | (simp [results, Tryz.results97, go_sem]; rfl)) rfl ?_
    exact ⟨by first | (rw [HVS.out, HG.out]; done) | (rw [HVS.out, HG.out]; simp only [*]), rfl⟩
  have hemp : D.toList.isEmpty = false := by rw [empty_bytes]; simpa using hz
  by_cases h9 : D.size > 9
  · have HG : Hd (goodU true D.data.toList = false) := ⟨by
      unfold goodU
      rw [HLEN.out, decide_eq_false (by omega : ¬ D.size ≤ 9)]
      simp⟩
    have HVS : Hd (valS true D.data.toList = 0) := ⟨by unfold valS; rw [HG.out]; rfl⟩
    have hd9 : decide ((D.size : Int) > 9) = true := by simp; omega
    go_enter Tryz.func97, Tryz.ntmps97
    go_wp2
    refine bodyPost_ret (by first | (simp [results, Tryz.results97, go_sem]; done) | (simp [results, Tryz.results97, go_sem]; rfl)) rfl ?_
    exact ⟨by first | (rw [HVS.out, HG.out]; done) | (rw [HVS.out, HG.out]; simp only [*]), rfl⟩
  have hd9 : decide ((D.size : Int) > 9) = false := by simp; omega
  have hp : 0 < D.size := by omega
  have hbD := get_bt D 0 hp
  have HHD := Hd.mk (bt_head D hp)
  by_cases h48 : bt D 0 = 48
  · rw [h48] at hbD
    have HG : Hd (goodU true D.data.toList = false) := ⟨by
      unfold goodU
      rw [HHD.out, h48]
      simp⟩
    have HVS : Hd (valS true D.data.toList = 0) := ⟨by unfold valS; rw [HG.out]; rfl⟩
    go_enter Tryz.func97, Tryz.ntmps97
    go_wp2
    all_goals
      refine bodyPost_ret (by first | (simp [results, Tryz.results97, go_sem]; done) | (simp [results, Tryz.results97, go_sem]; rfl)) rfl ?_
      exact ⟨by first | (rw [HVS.out, HG.out]; done) | (rw [HVS.out, HG.out]; simp only [*]), rfl⟩
  have hx48 : (bt D 0 == 48) = false := by simpa using h48
  have HOK : Hd ((D.data.toList.head? != some 48 || (D.data.toList.length == 1 && !true)) = true) := ⟨by rw [HHD.out, hx48]; rfl⟩
  clear h48
  have hok : (D.data.toList.head? != some 48 || (D.data.toList.length == 1 && !true)) = true := HOK.out
  have HGA : Hd (goodU true D.data.toList = D.data.toList.all digU) := ⟨by
    unfold goodU
    rw [hok, HLEN.out, decide_eq_true (by omega : D.size ≤ 9)]
    have : D.data.toList.isEmpty = false := by
      cases hl : D.data.toList with
      | nil =>
        have := HLEN.out
        rw [hl] at this
        simp at this
        omega
      | cons a l => rfl
    rw [this]
    rfl⟩
  clear hok HOK HHD
  go_enter Tryz.func97, Tryz.ntmps97
  go_upto_region 8 with (fail)
  go_wp2
  clear hbD
  go_loopw [6, 7] (fun nv iv wr => ∃ k : Nat, k ≤ D.size ∧ iv = .int .i64 k ∧ nv = .int .i64 (valU (D.data.toList.take k)) ∧ Hd ((D.data.toList.take k).all digU = true) ∧ wr = w) (fun _ iv _ => D.size - (intOf iv).toNat)
  case atStart => exact ⟨0, Nat.zero_le _, rfl, rfl, ⟨rfl⟩, rfl⟩
  case round =>
    obtain ⟨k, hk, rfl, rfl, HK, rfl⟩ := hrel
    by_cases hlt : k < D.size
    · have hd1 : decide ((k : Int) < (D.size : Int)) = true := by simp; omega
      obtain ⟨c, hc, hbc⟩ := bt_dig D k hlt
      have hgk := (get_bt D k hlt).trans hbc
      have HC := Hd.mk hc
      clear hc hbc
      by_cases h1 : c.toNat < 48
      · have hd2 : decide (((c.toNat : Nat) : Int) < 48) = true := by simp; omega
        have HG : Hd (goodU true D.data.toList = false) := ⟨by
          rw [HGA.out, List.all_eq_false]
          refine ⟨c, List.mem_of_getElem? HC.out, ?_⟩
          unfold digU
          simp
          omega⟩
        have HVS : Hd (valS true D.data.toList = 0) := ⟨by unfold valS; rw [HG.out]; rfl⟩
        clear h1
        go_wp2
        refine bodyPost_ret (by first | (simp [results, Tryz.results97, go_sem]; done) | (simp [results, Tryz.results97, go_sem]; rfl)) rfl ?_
        exact ⟨by first | (rw [HVS.out, HG.out]; done) | (rw [HVS.out, HG.out]; simp only [*]), rfl⟩
      · have hd2 : decide (((c.toNat : Nat) : Int) < 48) = false := by simp; omega
        by_cases h2 : c.toNat > 57
        · have hd3 : decide (((c.toNat : Nat) : Int) > 57) = true := by simp; omega
          have HG : Hd (goodU true D.data.toList = false) := ⟨by
            rw [HGA.out, List.all_eq_false]
            refine ⟨c, List.mem_of_getElem? HC.out, ?_⟩
            unfold digU
            simp
            omega⟩
          have HVS : Hd (valS true D.data.toList = 0) := ⟨by unfold valS; rw [HG.out]; rfl⟩
          clear h1 h2
          go_wp2
          refine bodyPost_ret (by first | (simp [results, Tryz.results97, go_sem]; done) | (simp [results, Tryz.results97, go_sem]; rfl)) rfl ?_
          exact ⟨by first | (rw [HVS.out, HG.out]; done) | (rw [HVS.out, HG.out]; simp only [*]), rfl⟩
        · have hd3 : decide (((c.toNat : Nat) : Int) > 57) = false := by simp; omega
          have hdc : digU c = true := by unfold digU; simp; omega
          have htk : D.data.toList.take (k + 1) = D.data.toList.take k ++ [c] := by
            rw [List.take_add_one, HC.out]
            rfl
          have HK2 : Hd ((D.data.toList.take (k + 1)).all digU = true) := ⟨by
            rw [htk, List.all_append, HK.out]
            simpa using hdc⟩
          have hv := valU_snoc (D.data.toList.take k) c
          rw [← htk] at hv
          have hv9 := valU_lt _ HK.out
          have hv8 : (10 : Nat) ^ (D.data.toList.take k).length ≤ 10 ^ 9 := Nat.pow_le_pow_right (by decide) (by rw [List.length_take, HLEN.out]; omega)
          have hvb : valU (D.data.toList.take k) < 10 ^ 9 := Nat.lt_of_lt_of_le hv9 hv8
          have hw1 : wrap64 (10 * (valU (D.data.toList.take k) : Int)) = 10 * (valU (D.data.toList.take k) : Int) := by unfold wrap64; omega
          have hw3 : wrap64 (10 * (valU (D.data.toList.take k) : Int) + ((((c.toNat : Nat) : Int) - 48) % 256)) = (valU (D.data.toList.take (k + 1)) : Int) := by
            rw [hv]
            unfold wrap64
            omega
          have HW := Hd.mk (And.intro hw1 hw3)
          clear h1 h2 hdc htk hv hv9 hv8 hvb hw1 hw3
          go_wp2
          go_roundw
          case rel =>
            refine ⟨k + 1, by omega, by go_num, ?_, HK2, by first | rfl | trivial⟩
            simp only [HW.out.1, HW.out.2]
          case measure => simp [intOf]; omega
    · have hkk : k = D.size := by omega
      have hd1 : decide ((k : Int) < (D.size : Int)) = false := by simp; omega
      have hall : D.data.toList.take k = D.data.toList := List.take_of_length_le (by rw [HLEN.out]; omega)
      rw [hall] at HK ⊢
      have HG : Hd (goodU true D.data.toList = true) := ⟨by rw [HGA.out]; exact HK.out⟩
      have hv9 := valU_lt _ HK.out
      have hv8 : (10 : Nat) ^ (D.data.toList).length ≤ 10 ^ 9 := Nat.pow_le_pow_right (by decide) (by rw [HLEN.out]; omega)
      have hvb : valU (D.data.toList) < 10 ^ 9 := Nat.lt_of_lt_of_le hv9 hv8
      have HVS : Hd (valS true D.data.toList = -(valU D.data.toList : Int)) := ⟨by unfold valS; rw [HG.out]; rfl⟩
      have hwn : wrap64 (-(valU D.data.toList : Int)) = -(valU D.data.toList : Int) := by unfold wrap64; omega
      clear hkk hall hv9 hv8 hvb
      go_wp2
      refine bodyPost_ret (by first | (simp [results, Tryz.results97, go_sem]; done) | (simp [results, Tryz.results97, go_sem]; rfl)) rfl ?_
      exact ⟨by first | (rw [HVS.out, HG.out]; done) | (rw [HVS.out, HG.out]; simp only [*]), rfl⟩
end Go.Proofs.YtbhfnfokihdjjaaGreatDoor
