/-
  Walk of a reference: Parse of segments. Conditions stand in each theorem.
-/
import Derived.Test.YtfchmikbebdflaaGreatDoorTy2
namespace Go.Proofs.YtfchmikbebdflaaGreatDoor
open Go.RowKit Go.BigFrame

theorem itS_of {s : ByteArray} {n : Int} (h : s.data.toList = Lib.itoa n) : s = itS n := by
  apply ByteArray.ext
  apply Array.ext'
  rw [h]
  rfl
theorem itS_inj {m n : Int} (hm : -9223372036854775808 ≤ m ∧ m ≤ 9223372036854775807) (hn : -9223372036854775808 ≤ n ∧ n ≤ 9223372036854775807) (h : itS m = itS n) : m = n := by
  have h1 := parse_itoa m hm.1 hm.2
  have h2 := parse_itoa n hn.1 hn.2
  have h3 : Lib.itoa m = Lib.itoa n := by
    have := congrArg (fun b : ByteArray => b.data.toList) h
    simpa [itS_list] using this
  rw [h3, h2] at h1
  injection h1 with h4
  exact h4.symm
theorem goodU_parts {neg : Bool} {d : List UInt8} (h : goodU neg d = true) : d ≠ [] ∧ d.length ≤ 9 ∧ (d.head? ≠ some 48 ∨ d.length = 1 ∧ neg = false) ∧ d.all digU = true := by
  unfold goodU at h
  simp only [Bool.and_eq_true, Bool.or_eq_true, Bool.not_eq_true', decide_eq_true_eq, bne_iff_ne, beq_iff_eq, List.isEmpty_eq_false_iff] at h
  obtain ⟨h1, h2, h3, h4⟩ := h
  exact ⟨h1, h2, h3, h4⟩
theorem goodU_of {neg : Bool} {d : List UInt8} (h1 : d ≠ []) (h2 : d.length ≤ 9) (h3 : d.head? ≠ some 48 ∨ d.length = 1 ∧ neg = false) (h4 : d.all digU = true) : goodU neg d = true := by
  unfold goodU
  simp only [Bool.and_eq_true, Bool.or_eq_true, Bool.not_eq_true', decide_eq_true_eq, bne_iff_ne, beq_iff_eq, List.isEmpty_eq_false_iff]
  exact ⟨h1, h2, h3, h4⟩
theorem val_bound {d : List UInt8} (h : d.all digU = true) (hl : d.length ≤ 9) : valU d ≤ 999999999 := by
  have h1 := valU_lt d h
  have h2 : (10 : Nat) ^ d.length ≤ 10 ^ 9 := Nat.pow_le_pow_right (by decide) hl
  omega
theorem dec_pos_head {u : Nat} (h : 0 < u) : (Lib.decDigits u).head? ≠ some 48 := by
  rcases dec_head u with h1 | h1
  · exact h1
  · intro h2
    match hd : Lib.decDigits u, h1, h2 with
    | [c], _, h2 =>
      have h3 : c = 48 := by simpa using h2
      have h4 := valU_dec u
      rw [hd, h3] at h4
      have h5 : valU [48] = 0 := by decide
      omega
theorem first_not {u : Nat} {s : ByteArray} (h : s.data.toList = Lib.decDigits u) : 0 < s.size ∧ bt s 0 ≠ 45 := by
  have hne := dec_ne u
  have hb := dec_byte u
  have hl := size_list s
  unfold bt
  rw [h] at hl ⊢
  cases hd : Lib.decDigits u with
  | nil => exact absurd hd hne
  | cons c r =>
    rw [hd] at hl hb
    have := hb c (by simp)
    refine ⟨by rw [← hl]; simp, ?_⟩
    show ((c.toNat : Nat) : Int) ≠ 45
    omega
theorem drop_list (s : ByteArray) : (s.extract 1 s.size).data.toList = s.data.toList.drop 1 := by
  rw [ByteArray.data_extract]
  simp
  exact List.take_of_length_le (by simp)
/-- The reference number, of any text. -/
theorem rnumber_ex (s : ByteArray) (hsz : s.size ≤ 1100000) :
    ∃ (n : Int) (b : Bool), (b = true → s = itS n ∧ -999999999 ≤ n ∧ n ≤ 999999999) ∧ (∀ n' : Int, -67108864 ≤ n' ∧ n' ≤ 67108864 → s = itS n' → b = true) ∧
    ∀ w : World, Calls Tryz.prog 85 #[.string s] w fun e w' => e = .returned (.tuple #[.int .i64 n, .bool b]) ∧ w' = w := by
  by_cases h0 : s.size = 0
  · refine ⟨_, _, fun hb => ?_, fun n' _ hs => ?_, fun w => number_none s h0 hsz w⟩
    · have := (goodU_parts hb).1
      exact absurd (List.eq_nil_of_length_eq_zero (by rw [size_list]; exact h0)) this
    · exfalso
      have h1 : Lib.itoa n' = [] := by
        rw [← itS_list, ← hs]
        exact List.eq_nil_of_length_eq_zero (by rw [size_list]; exact h0)
      unfold Lib.itoa at h1
      split at h1
      · cases h1
      · exact dec_ne _ h1
  have h0' : 0 < s.size := by omega
  by_cases h45 : bt s 0 = 45
  · have hl : ∃ d, s.data.toList = 45 :: d := by
      have h1 := size_list s
      unfold bt at h45
      cases hd : s.data.toList with
      | nil => rw [hd] at h1; simp at h1; omega
      | cons c r =>
        rw [hd] at h45
        have h2 : ((c.toNat : Nat) : Int) = 45 := h45
        have h3 : c = 45 := by
          apply UInt8.toNat_inj.1
          have : (45 : UInt8).toNat = 45 := by decide
          omega
        exact ⟨r, by rw [h3]⟩
    obtain ⟨d, hd⟩ := hl
    have hD : (s.extract 1 s.size).data.toList = d := by rw [drop_list, hd]; rfl
    refine ⟨_, _, fun hb => ?_, fun n' hn hs => ?_, fun w => number_neg s _ h0' h45 rfl hsz w⟩
    · rw [hD] at hb ⊢
      obtain ⟨g1, g2, g3, g4⟩ := goodU_parts hb
      have g5 : d.head? ≠ some 48 := by
        rcases g3 with g | ⟨_, g⟩
        · exact g
        · cases g
      obtain ⟨e1, e2⟩ := dec_valU d g4 g1 (.inl g5)
      have e3 := e2 g5
      have e4 := val_bound g4 g2
      have e5 : valS true d = -(valU d : Int) := by unfold valS; rw [hb]; rfl
      rw [e5]
      refine ⟨itS_of ?_, by omega, by omega⟩
      rw [hd, Lib.itoa, if_pos (by omega), show (-(valU d : Int)).natAbs = valU d by omega, e1]
    · rw [hD]
      have h1 : (45 :: d : List UInt8) = Lib.itoa n' := by rw [← hd, hs]; rfl
      by_cases hneg : n' < 0
      · rw [Lib.itoa, if_pos hneg] at h1
        obtain rfl : d = Lib.decDigits n'.natAbs := (List.cons.inj h1).2
        exact goodU_of (dec_ne _) (dec_len (by decide) (by omega)) (.inl (dec_pos_head (by omega))) (dec_all _)
      · exfalso
        rw [Lib.itoa, if_neg hneg] at h1
        have := dec_byte n'.toNat 45 (by rw [← h1]; simp)
        have h2 : (45 : UInt8).toNat = 45 := by decide
        omega
  · refine ⟨_, _, fun hb => ?_, fun n' hn hs => ?_, fun w => number_plain s h0' h45 hsz w⟩
    · obtain ⟨g1, g2, g3, g4⟩ := goodU_parts hb
      have g6 : s.data.toList.head? ≠ some 48 ∨ s.data.toList.length = 1 := by
        rcases g3 with g | ⟨g, _⟩
        · exact .inl g
        · exact .inr g
      obtain ⟨e1, _⟩ := dec_valU _ g4 g1 g6
      have e4 := val_bound g4 g2
      have e5 : valS false s.data.toList = (valU s.data.toList : Int) := by unfold valS; rw [hb]; rfl
      rw [e5]
      refine ⟨itS_of ?_, by omega, by omega⟩
      rw [Lib.itoa, if_neg (by omega), Int.toNat_natCast, e1]
    · have h1 : s.data.toList = Lib.itoa n' := by rw [hs]; rfl
      by_cases hneg : n' < 0
      · exfalso
        rw [Lib.itoa, if_pos hneg] at h1
        apply h45
        unfold bt
        rw [h1]
        rfl
      · rw [Lib.itoa, if_neg hneg] at h1
        rw [h1]
        exact goodU_of (dec_ne _) (dec_len (by decide) (by omega)) (by
          rcases dec_head n'.toNat with h2 | h2
          · exact .inl h2
          · exact .inr ⟨h2, rfl⟩) (dec_all _)
end Go.Proofs.YtfchmikbebdflaaGreatDoor

namespace Go.Proofs.YtfchmikbebdflaaGreatDoor
open Go.RowKit Go.BigFrame
theorem cut_list (s : ByteArray) (k : Nat) (c : UInt8) (h : s.data.toList[k]? = some c) : s.data.toList = (s.extract 0 k).data.toList ++ c :: (s.extract (k + 1) s.size).data.toList := by
  obtain ⟨hk, hc⟩ := List.getElem?_eq_some_iff.1 h
  have h1 : (s.extract 0 k).data.toList = s.data.toList.take k := by
    rw [ByteArray.data_extract]
    simp
  have h2 : (s.extract (k + 1) s.size).data.toList = s.data.toList.drop (k + 1) := by
    rw [ByteArray.data_extract]
    simp
    exact List.take_of_length_le (by simp)
  rw [h1, h2, ← hc, List.getElem_cons_drop, List.take_append_drop]
theorem take_list (s : ByteArray) (k : Nat) : (s.extract 0 k).data.toList = s.data.toList.take k := by
  rw [ByteArray.data_extract]
  simp
theorem bytes_ext {s t : ByteArray} (h : s.data.toList = t.data.toList) : s = t := by
  apply ByteArray.ext
  apply Array.ext'
  exact h
theorem node_join {s L R : ByteArray} {x y : Int} (h : s.data.toList = L.data.toList ++ 32 :: R.data.toList) (hL : L = itS x) (hR : R = itS y) : s = nodeS x y := by
  apply bytes_ext
  rw [h, node_list, hL, hR, itS_list, itS_list]
theorem join_inj (c : UInt8) (l r l' r' : List UInt8) (h : l ++ c :: r = l' ++ c :: r') (h1 : c ∉ l) (h2 : c ∉ l') : l = l' ∧ r = r' := by
  have e1 := cut_at c l r h1
  have e2 := cut_at c l' r' h2
  rw [h, e2] at e1
  injection e1 with e3 e4
  injection e4 with e5 e6
  exact ⟨e3.symm, e5.symm⟩
theorem bt_not {s : ByteArray} {k : Nat} {c d : UInt8} (hc : s.data.toList[k]? = some c) (h : ((c.toNat : Nat) : Int) ≠ ((d.toNat : Nat) : Int)) (ht : d ∉ s.data.toList.take k) : d ∉ s.data.toList.take (k + 1) := by
  rw [List.take_add_one, hc]
  intro hm
  rw [List.mem_append] at hm
  rcases hm with hm | hm
  · exact ht hm
  · have : d = c := by simpa using hm
    exact h (by rw [this])
theorem ex_putw4 {T : Array Value} {ds : List Deferred} {G : (Nat → Value) → Act} {R : Prop} (h : R ∧ (Act.mk T ds = G (fun i => T.getD i undef))) : ∃ v : Nat → Value, R ∧ (Act.mk T ds = G v) := ⟨_, h⟩
theorem laid_pair (b : Nat) (W : World) (v0 v1 : Value) {c : Array Value} {t : TypeId} (h : W.heap[b]? = some (.cells c t (0, 0))) (hs : c.size = 2) :
    ((W.setCell ⟨b, 0, none⟩ v0).setCell ⟨b, 1, none⟩ v1).heap[b]? = some (.cells #[v0, v1] t (0, 0)) := by
  obtain ⟨l⟩ := c
  match l, hs with
  | [a, b], _ =>
    have := heap_set (heap_set h 0 v0) 1 v1
    simpa using this
set_option maxRecDepth 20000 in
set_option maxHeartbeats 4000000 in
/-- Without a blank. -/
theorem rnode_none (s : ByteArray) (hsz : s.size ≤ 1100000) (hno : (32 : UInt8) ∉ s.data.toList) (w : World) :
    Calls Tryz.prog 64 #[.string s] w fun e w' => e = .returned (.tuple #[.agg #[.int .i64 0, .int .i64 0], .bool false]) ∧ Below w.heap.size w w' := by
  have HN := Hd.mk hno
  clear hno
  go_enter Tryz.func64, Tryz.ntmps64
  go_upto_region 1 with (fail)
  refine abs_wp (fun W => W.heap[w.heap.size]? = some (.cells #[.int .i64 0, .int .i64 0] 24 (0, 0)) ∧ Below w.heap.size w W) ⟨heap_new _ _, by focus (repeat (first | (with_reducible exact Below.refl _ _) | (with_reducible assumption) | ((with_reducible refine Below.setCell ?_ ?_ _); rotate_left; (focus (first | omega | (simp; done) | (simp; omega)))) | ((with_reducible refine Below.alloc ?_ ?_ _); rotate_left; (focus (first | omega | (simp; done) | (simp; omega)))) | (with_reducible refine Below.drew ?_) | (refine below_on ?_ (by assumption))))⟩ fun W ⟨z0, hB⟩ => ?_
  go_wp2
  go_loopw [4] (fun iv wr => ∃ k : Nat, k ≤ s.size ∧ iv = .int .i64 k ∧ wr.heap[w.heap.size]? = some (.cells #[.int .i64 0, .int .i64 0] 24 (0, 0)) ∧ Below w.heap.size w wr) (fun iv _ => s.size - (intOf iv).toNat)
  case atStart => exact ⟨0, Nat.zero_le _, rfl, z0, hB⟩
  case round =>
    clear z0 hB
    obtain ⟨k, hk, rfl, z0, hB⟩ := hrel
    by_cases hlt : k < s.size
    · have hd1 : decide ((k : Int) < (s.size : Int)) = true := by simp; omega
      obtain ⟨c, hc, hbc⟩ := bt_dig s k hlt
      have hgk := (get_bt s k hlt).trans hbc
      have hc32 : (((c.toNat : Nat) : Int) == 32) = false := by
        rw [beq_eq_false_iff_ne]
        intro h
        apply HN.out
        have h2 : c = 32 := by
          apply UInt8.toNat_inj.1
          have : (32 : UInt8).toNat = 32 := by decide
          omega
        rw [← h2]
        exact List.mem_of_getElem? hc
      clear hc hbc
      go_wp2
      go_roundw
      case rel => exact ⟨k + 1, by omega, by go_num, z0, hB⟩
      case measure => simp [intOf]; omega
    · have hd1 : decide ((k : Int) < (s.size : Int)) = false := by simp; omega
      have c0 := cell_at z0
      have f0 := frozen_at z0
      go_wp2
      refine bodyPost_ret (by first | (simp [results, Tryz.results64, go_sem, c0]; done) | (simp [results, Tryz.results64, go_sem, c0]; rfl)) rfl ⟨rfl, by focus (repeat (first | (with_reducible exact Below.refl _ _) | (with_reducible assumption) | ((with_reducible refine Below.setCell ?_ ?_ _); rotate_left; (focus (first | omega | (simp; done) | (simp; omega)))) | ((with_reducible refine Below.alloc ?_ ?_ _); rotate_left; (focus (first | omega | (simp; done) | (simp; omega)))) | (with_reducible refine Below.drew ?_) | (refine below_on ?_ (by assumption))))⟩
set_option maxRecDepth 20000 in
set_option maxHeartbeats 8000000 in
/-- Cut at the first blank. -/
theorem rnode_cut (s : ByteArray) (hsz : s.size ≤ 1100000) (j : Nat) (hj : j < s.size) (hjc : s.data.toList[j]? = some 32) (hno : (32 : UInt8) ∉ s.data.toList.take j) (x y : Int) (a b q : Bool)
    (HX : Hd (∀ w : World, Calls Tryz.prog 85 #[.string (s.extract 0 j)] w fun e w' => e = .returned (.tuple #[.int .i64 x, .bool a]) ∧ w' = w)) (HY : Hd (∀ w : World, Calls Tryz.prog 85 #[.string (s.extract (j + 1) s.size)] w fun e w' => e = .returned (.tuple #[.int .i64 y, .bool b]) ∧ w' = w))
    (hq : nodeB x y = q) (w : World) :
    Calls Tryz.prog 64 #[.string s] w fun e w' => e = .returned (.tuple #[.agg #[.int .i64 x, .int .i64 y], .bool (a && (b && q))]) ∧ Below w.heap.size w w' := by
  have HN := Hd.mk (And.intro hno hjc)
  have HQ := Hd.mk (fun w => rnode_v x y q hq w)
  clear hno hjc hq
  go_enter Tryz.func64, Tryz.ntmps64
  go_upto_region 1 with (fail)
  refine abs_wp (fun W => W.heap[w.heap.size]? = some (.cells #[.int .i64 0, .int .i64 0] 24 (0, 0)) ∧ Below w.heap.size w W) ⟨heap_new _ _, by focus (repeat (first | (with_reducible exact Below.refl _ _) | (with_reducible assumption) | ((with_reducible refine Below.setCell ?_ ?_ _); rotate_left; (focus (first | omega | (simp; done) | (simp; omega)))) | ((with_reducible refine Below.alloc ?_ ?_ _); rotate_left; (focus (first | omega | (simp; done) | (simp; omega)))) | (with_reducible refine Below.drew ?_) | (refine below_on ?_ (by assumption))))⟩ fun W ⟨z0, hB⟩ => ?_
  go_wp2
  go_loopw [4] (fun iv wr => ∃ k : Nat, k ≤ j ∧ iv = .int .i64 k ∧ wr.heap[w.heap.size]? = some (.cells #[.int .i64 0, .int .i64 0] 24 (0, 0)) ∧ Below w.heap.size w wr) (fun iv _ => s.size - (intOf iv).toNat)
  case atStart => exact ⟨0, Nat.zero_le _, rfl, z0, hB⟩
  case round =>
    clear z0 hB
    obtain ⟨k, hk, rfl, z0, hB⟩ := hrel
    have hd1 : decide ((k : Int) < (s.size : Int)) = true := by simp; omega
    obtain ⟨c, hc, hbc⟩ := bt_dig s k (by omega)
    have hgk := (get_bt s k (by omega)).trans hbc
    by_cases hkj : k = j
    · subst hkj
      have hc2 : c = 32 := Option.some.inj (hc.symm.trans HN.out.2)
      have hc32 : (((c.toNat : Nat) : Int) == 32) = true := by rw [hc2]; rfl
      have hk0 : (0 : Int) ≤ (k : Int) := by omega
      have hk1 : (k : Int) ≤ (s.size : Int) := by omega
      have hk2 : (k : Int) + 1 ≤ (s.size : Int) := by omega
      clear hc hbc hc2
      go_wp2_with fail
      refine (HX.out _).mono ?_
      rintro r w1 ⟨rfl, rfl⟩
      go_wp2_with fail
      refine (HY.out _).mono ?_
      rintro r w2 ⟨rfl, rfl⟩
      go_upto_region 8 with (fail)
      have hsz0 := hB.size
      obtain ⟨b9, hb9⟩ : ∃ b, b = w2.heap.size := ⟨_, rfl⟩
      refine abs_wp (fun W => W.heap[w.heap.size]? = some (.cells #[.int .i64 0, .int .i64 0] 24 (0, 0)) ∧ W.heap[w2.heap.size]? = some (.cells #[.int .i64 x, .int .i64 y] 24 (0, 0)) ∧ Below w.heap.size w W) ⟨heap_old z0 _, heap_new _ _, by focus (repeat (first | (with_reducible exact Below.refl _ _) | (with_reducible assumption) | ((with_reducible refine Below.setCell ?_ ?_ _); rotate_left; (focus (first | omega | (simp; done) | (simp; omega)))) | ((with_reducible refine Below.alloc ?_ ?_ _); rotate_left; (focus (first | omega | (simp; done) | (simp; omega)))) | (with_reducible refine Below.drew ?_) | (refine below_on ?_ (by assumption))))⟩ fun W3 ⟨y0, y9, hB3⟩ => ?_
      have hne : b9 ≠ w.heap.size := by have := lt_of_block z0; omega
      rw [← hb9] at y9 ⊢
      clear z0 hB hsz0 hb9 hgk hc32 hd1
      have c9 := cell_at y9
      have c0 := cell_at y0
      have f0 := frozen_at y0
      have yD : W3.drew.heap[w.heap.size]? = some (.cells #[.int .i64 0, .int .i64 0] 24 (0, 0)) := y0
      have hBD : Below w.heap.size w W3.drew := Below.drew hB3
      cases a with
      | false =>
        go_region
        all_goals
          have k0 : (((W3.setCell ⟨w.heap.size, 0, none⟩ (.int .i64 x)).setCell ⟨w.heap.size, 1, none⟩ (.int .i64 y)).drew).heap[w.heap.size]? = some (.cells #[.int .i64 x, .int .i64 y] 24 (0, 0)) := laid_pair w.heap.size W3 (.int .i64 x) (.int .i64 y) y0 rfl
          have kB : Below w.heap.size w (((W3.setCell ⟨w.heap.size, 0, none⟩ (.int .i64 x)).setCell ⟨w.heap.size, 1, none⟩ (.int .i64 y)).drew) := by
            focus (repeat (first | (with_reducible exact Below.refl _ _) | (with_reducible assumption) | ((with_reducible refine Below.setCell ?_ ?_ _); rotate_left; (focus (first | omega | (simp; done) | (simp; omega)))) | ((with_reducible refine Below.alloc ?_ ?_ _); rotate_left; (focus (first | omega | (simp; done) | (simp; omega)))) | (with_reducible refine Below.drew ?_) | (refine below_on ?_ (by assumption))))
          clear c9 c0 f0 yD hBD y0 y9 hB3
          generalize ((W3.setCell ⟨w.heap.size, 0, none⟩ (.int .i64 x)).setCell ⟨w.heap.size, 1, none⟩ (.int .i64 y)).drew = W9 at *
          have c2 := cell_at k0
          go_wp2
          refine bodyPost_ret (by first | (simp [results, Tryz.results64, go_sem, c2]; done) | (simp [results, Tryz.results64, go_sem, c2]; rfl)) rfl ⟨by simp, kB⟩
      | true =>
        cases b with
        | false =>
          go_region
          all_goals
            have k0 : (((W3.setCell ⟨w.heap.size, 0, none⟩ (.int .i64 x)).setCell ⟨w.heap.size, 1, none⟩ (.int .i64 y)).drew).heap[w.heap.size]? = some (.cells #[.int .i64 x, .int .i64 y] 24 (0, 0)) := laid_pair w.heap.size W3 (.int .i64 x) (.int .i64 y) y0 rfl
            have kB : Below w.heap.size w (((W3.setCell ⟨w.heap.size, 0, none⟩ (.int .i64 x)).setCell ⟨w.heap.size, 1, none⟩ (.int .i64 y)).drew) := by
              focus (repeat (first | (with_reducible exact Below.refl _ _) | (with_reducible assumption) | ((with_reducible refine Below.setCell ?_ ?_ _); rotate_left; (focus (first | omega | (simp; done) | (simp; omega)))) | ((with_reducible refine Below.alloc ?_ ?_ _); rotate_left; (focus (first | omega | (simp; done) | (simp; omega)))) | (with_reducible refine Below.drew ?_) | (refine below_on ?_ (by assumption))))
            clear c9 c0 f0 yD hBD y0 y9 hB3
            generalize ((W3.setCell ⟨w.heap.size, 0, none⟩ (.int .i64 x)).setCell ⟨w.heap.size, 1, none⟩ (.int .i64 y)).drew = W9 at *
            have c2 := cell_at k0
            go_wp2
            refine bodyPost_ret (by first | (simp [results, Tryz.results64, go_sem, c2]; done) | (simp [results, Tryz.results64, go_sem, c2]; rfl)) rfl ⟨by simp, kB⟩
        | true =>
          have hD0 : Below W3.heap.size W3 W3.drew := Below.drew (Below.refl _ _)
          refine region_abs_w (fun a0 a' w' => ∃ v : Nat → Value, (w'.heap[w.heap.size]? = some (.cells #[.int .i64 x, .int .i64 y] 24 (0, 0)) ∧ Below w.heap.size w w') ∧ (a' = (Act.put (Act.put (Act.put (Act.put (Act.put (Act.put (Act.put (Act.put (Act.put (Act.put a0 (some 38) (v 38)) (some 39) (v 39)) (some 40) (v 40)) (some 41) (v 41)) (some 42) (v 42)) (some 43) (v 43)) (some 44) (v 44)) (some 45) (v 45)) (some 46) (v 46)) (some 3) (.bool q)))) (fun KR hKR => wp_region_noPanic ?_) ?_
          · go_region_with ((go_at_call 66; refine (HQ.out _).mono ?_; rintro r w5 ⟨rfl, hb⟩; have hD := below_on hD0 hb; have x0 := heap_below hD y0; have d9 := cell_at (heap_below hD y9); have d0 := cell_at x0; have e0 := frozen_at x0; have hB5 := below_on hB3 hD; clear hb hD))
            all_goals
              have kB : Below w.heap.size w ((w5.setCell ⟨w.heap.size, 0, none⟩ (.int .i64 x)).setCell ⟨w.heap.size, 1, none⟩ (.int .i64 y)) := by
                focus (repeat (first | (with_reducible exact Below.refl _ _) | (with_reducible assumption) | ((with_reducible refine Below.setCell ?_ ?_ _); rotate_left; (focus (first | omega | (simp; done) | (simp; omega)))) | ((with_reducible refine Below.alloc ?_ ?_ _); rotate_left; (focus (first | omega | (simp; done) | (simp; omega)))) | (with_reducible refine Below.drew ?_) | (refine below_on ?_ (by assumption))))
              exact NoPanic.normal ⟨rfl, hKR _ _ (ex_putw4 ⟨by with_reducible exact ⟨laid_pair w.heap.size w5 (.int .i64 x) (.int .i64 y) x0 rfl, kB⟩, by kernel_rfl⟩)⟩
          rintro a' W9 ⟨v, ⟨k0, kB⟩, rfl⟩
          simp only [Act.put, List.setIfInBounds_toArray, List.set_cons_succ, List.set_cons_zero]
          clear c9 c0 f0 yD hBD y0 y9 hB3
          have c2 := cell_at k0
          go_wp2
          refine bodyPost_ret (by first | (simp [results, Tryz.results64, go_sem, c2]; done) | (simp [results, Tryz.results64, go_sem, c2]; rfl)) rfl ⟨by simp, kB⟩
    · have hc32 : (((c.toNat : Nat) : Int) == 32) = false := by
        rw [beq_eq_false_iff_ne]
        intro h
        apply HN.out.1
        have h2 : c = 32 := by
          apply UInt8.toNat_inj.1
          have : (32 : UInt8).toNat = 32 := by decide
          omega
        rw [← h2]
        refine List.mem_of_getElem? (i := k) ?_
        rw [List.getElem?_take_of_lt (by omega)]
        exact hc
      clear hc hbc
      go_wp2
      go_roundw
      case rel => exact ⟨k + 1, by omega, by go_num, z0, hB⟩
      case measure => simp [intOf]; omega
end Go.Proofs.YtfchmikbebdflaaGreatDoor

namespace Go.Proofs.YtfchmikbebdflaaGreatDoor
open Go.RowKit Go.BigFrame
theorem mem_first {l : List UInt8} {c : UInt8} (h : c ∈ l) : ∃ j, l[j]? = some c ∧ c ∉ l.take j := by
  induction l with
  | nil => cases h
  | cons a l ih =>
    by_cases ha : a = c
    · exact ⟨0, by rw [ha]; rfl, by simp⟩
    · have hm : c ∈ l := by
        rcases List.mem_cons.1 h with h1 | h1
        · exact absurd h1.symm ha
        · exact h1
      obtain ⟨j, h1, h2⟩ := ih hm
      refine ⟨j + 1, h1, ?_⟩
      rw [List.take_succ_cons]
      intro h3
      rcases List.mem_cons.1 h3 with h4 | h4
      · exact ha h4.symm
      · exact h2 h4
theorem blank_in (x y : Int) : (32 : UInt8) ∈ (nodeS x y).data.toList := by
  rw [node_list]
  simp
/-- The reference Node, of any text. -/
theorem rnode_ex (s : ByteArray) (hsz : s.size ≤ 1100000) :
    ∃ (x y : Int) (b : Bool), (b = true → s = nodeS x y ∧ nodeB x y = true) ∧ (∀ x' y' : Int, nodeB x' y' = true → s = nodeS x' y' → b = true) ∧
    ∀ w : World, Calls Tryz.prog 64 #[.string s] w fun e w' => e = .returned (.tuple #[.agg #[.int .i64 x, .int .i64 y], .bool b]) ∧ Below w.heap.size w w' := by
  by_cases hm : (32 : UInt8) ∈ s.data.toList
  · obtain ⟨j, hj, hno⟩ := mem_first hm
    have hjs : j < s.size := by
      have := (List.getElem?_eq_some_iff.1 hj).1
      rw [size_list] at this
      exact this
    have hsp := cut_list s j 32 hj
    have hL : (32 : UInt8) ∉ (s.extract 0 j).data.toList := by rw [take_list]; exact hno
    obtain ⟨x, a, ha, ca, HX⟩ := rnumber_ex (s.extract 0 j) (by rw [ByteArray.size_extract]; omega)
    obtain ⟨y, b, hb, cb, HY⟩ := rnumber_ex (s.extract (j + 1) s.size) (by rw [ByteArray.size_extract]; omega)
    refine ⟨x, y, a && (b && nodeB x y), fun h => ?_, fun x' y' h1 h2 => ?_, fun w => rnode_cut s hsz j hjs hj hno x y a b (nodeB x y) ⟨HX⟩ ⟨HY⟩ rfl w⟩
    · simp only [Bool.and_eq_true] at h
      exact ⟨node_join hsp (ha h.1).1 (hb h.2.1).1, h.2.2⟩
    · obtain ⟨r1, r2⟩ := node_range h1
      have hl : s.data.toList = Lib.itoa x' ++ 32 :: Lib.itoa y' := by rw [h2, node_list]
      have hsp2 := hl.symm.trans hsp
      obtain ⟨e1, e2⟩ := join_inj 32 _ _ _ _ hsp2 (itoa_no x' 32 (by decide)) hL
      have f1 : s.extract 0 j = itS x' := itS_of e1.symm
      have f2 : s.extract (j + 1) s.size = itS y' := itS_of e2.symm
      have ta := ca x' r1 f1
      have tb := cb y' r2 f2
      obtain ⟨g1, g2, g3⟩ := ha ta
      obtain ⟨g4, g5, g6⟩ := hb tb
      have i1 : x = x' := itS_inj (by omega) (by omega) (g1.symm.trans f1)
      have i2 : y = y' := itS_inj (by omega) (by omega) (g4.symm.trans f2)
      rw [ta, tb, i1, i2, h1]
      rfl
  · exact ⟨0, 0, false, fun h => (by cases h), fun x' y' _ h2 => absurd (h2 ▸ blank_in x' y') hm, fun w => rnode_none s hsz hm w⟩
end Go.Proofs.YtfchmikbebdflaaGreatDoor

namespace Go.Proofs.YtfchmikbebdflaaGreatDoor
open Go.RowKit Go.BigFrame
set_option maxRecDepth 20000 in
set_option maxHeartbeats 4000000 in
/-- Without a comma. -/
theorem rparse_none (s : ByteArray) (hsz : s.size ≤ 1100000) (hno : (44 : UInt8) ∉ s.data.toList) (w : World) :
    Calls Tryz.prog 39 #[.string s] w fun e w' => e = .returned (.tuple #[.agg #[.int .i64 0, .int .i64 0, .int .i64 0, .int .i64 0], .int .i64 140]) ∧ Below w.heap.size w w' := by
  have HN := Hd.mk hno
  clear hno
  go_enter Tryz.func39, Tryz.ntmps39
  go_upto_region 1 with (fail)
  refine abs_wp (fun W => W.heap[w.heap.size]? = some (.cells #[.int .i64 0, .int .i64 0, .int .i64 0, .int .i64 0] 26 (0, 0)) ∧ Below w.heap.size w W) ⟨heap_new _ _, by focus (repeat (first | (with_reducible exact Below.refl _ _) | (with_reducible assumption) | ((with_reducible refine Below.setCell ?_ ?_ _); rotate_left; (focus (first | omega | (simp; done) | (simp; omega)))) | ((with_reducible refine Below.alloc ?_ ?_ _); rotate_left; (focus (first | omega | (simp; done) | (simp; omega)))) | (with_reducible refine Below.drew ?_) | (refine below_on ?_ (by assumption))))⟩ fun W ⟨z0, hB⟩ => ?_
  go_wp2
  go_loopw [4] (fun iv wr => ∃ k : Nat, k ≤ s.size ∧ iv = .int .i64 k ∧ wr.heap[w.heap.size]? = some (.cells #[.int .i64 0, .int .i64 0, .int .i64 0, .int .i64 0] 26 (0, 0)) ∧ Below w.heap.size w wr) (fun iv _ => s.size - (intOf iv).toNat)
  case atStart => exact ⟨0, Nat.zero_le _, rfl, z0, hB⟩
  case round =>
    clear z0 hB
    obtain ⟨k, hk, rfl, z0, hB⟩ := hrel
    by_cases hlt : k < s.size
    · have hd1 : decide ((k : Int) < (s.size : Int)) = true := by simp; omega
      obtain ⟨c, hc, hbc⟩ := bt_dig s k hlt
      have hgk := (get_bt s k hlt).trans hbc
      have hc44 : (((c.toNat : Nat) : Int) == 44) = false := by
        rw [beq_eq_false_iff_ne]
        intro h
        apply HN.out
        have h2 : c = 44 := by
          apply UInt8.toNat_inj.1
          have : (44 : UInt8).toNat = 44 := by decide
          omega
        rw [← h2]
        exact List.mem_of_getElem? hc
      clear hc hbc
      go_wp2
      go_roundw
      case rel => exact ⟨k + 1, by omega, by go_num, z0, hB⟩
      case measure => simp [intOf]; omega
    · have hd1 : decide ((k : Int) < (s.size : Int)) = false := by simp; omega
      have c0 := cell_at z0
      have f0 := frozen_at z0
      obtain ⟨l1, l2, l3⟩ := laid_four w.heap.size wr (.int .i64 0) (.int .i64 0) (.int .i64 0) (.int .i64 0)
      have c2 := cell_at (l1 z0 rfl)
      have kB := Below.trans hB (l3 w.heap.size (Nat.le_refl _))
      go_wp2
      refine bodyPost_ret (by first | (simp [results, Tryz.results39, go_sem, c2]; done) | (simp [results, Tryz.results39, go_sem, c2]; rfl)) rfl ⟨rfl, kB⟩
set_option maxRecDepth 20000 in
set_option maxHeartbeats 8000000 in
/-- Cut at the first comma. -/
theorem rparse_cut (s : ByteArray) (j : Nat) (hj : j < s.size) (hsz : s.size ≤ 1100000) (hjc : s.data.toList[j]? = some 44) (hno : (44 : UInt8) ∉ s.data.toList.take j) (ax ay bx by_ : Int) (a b q : Bool)
    (HX : Hd (∀ w : World, Calls Tryz.prog 64 #[.string (s.extract 0 j)] w fun e w' => e = .returned (.tuple #[.agg #[.int .i64 ax, .int .i64 ay], .bool a]) ∧ Below w.heap.size w w')) (HY : Hd (∀ w : World, Calls Tryz.prog 64 #[.string (s.extract (j + 1) s.size)] w fun e w' => e = .returned (.tuple #[.agg #[.int .i64 bx, .int .i64 by_], .bool b]) ∧ Below w.heap.size w w'))
    (hq : segB ax ay bx by_ = q) (w : World) :
    Calls Tryz.prog 39 #[.string s] w fun e w' => (e = .returned (if a && (b && q) then .tuple #[.agg #[.int .i64 ax, .int .i64 ay, .int .i64 bx, .int .i64 by_], .int .i64 0] else .tuple #[.agg #[.int .i64 0, .int .i64 0, .int .i64 0, .int .i64 0], .int .i64 140])) ∧ Below w.heap.size w w' := by
  have HN := Hd.mk (And.intro hno hjc)
  have HQ : Hd (∀ w, Calls Tryz.prog 65 #[.agg #[.int .i64 ax, .int .i64 ay, .int .i64 bx, .int .i64 by_]] w fun e w' => e = .returned (.bool q) ∧ Below w.heap.size w w') := ⟨fun w => by
    have h := rseg_right ax ay bx by_ w
    rw [hq] at h
    exact h⟩
  clear hno hjc hq
  go_enter Tryz.func39, Tryz.ntmps39
  go_upto_region 1 with (fail)
  refine abs_wp (fun W => W.heap[w.heap.size]? = some (.cells #[.int .i64 0, .int .i64 0, .int .i64 0, .int .i64 0] 26 (0, 0)) ∧ Below w.heap.size w W) ⟨heap_new _ _, by focus (repeat (first | (with_reducible exact Below.refl _ _) | (with_reducible assumption) | ((with_reducible refine Below.setCell ?_ ?_ _); rotate_left; (focus (first | omega | (simp; done) | (simp; omega)))) | ((with_reducible refine Below.alloc ?_ ?_ _); rotate_left; (focus (first | omega | (simp; done) | (simp; omega)))) | (with_reducible refine Below.drew ?_) | (refine below_on ?_ (by assumption))))⟩ fun W ⟨z0, hB⟩ => ?_
  go_wp2
  go_loopw [4] (fun iv wr => ∃ k : Nat, k ≤ j ∧ iv = .int .i64 k ∧ wr.heap[w.heap.size]? = some (.cells #[.int .i64 0, .int .i64 0, .int .i64 0, .int .i64 0] 26 (0, 0)) ∧ Below w.heap.size w wr) (fun iv _ => s.size - (intOf iv).toNat)
  case atStart => exact ⟨0, Nat.zero_le _, rfl, z0, hB⟩
  case round =>
    clear z0 hB
    obtain ⟨k, hk, rfl, z0, hB⟩ := hrel
    have hd1 : decide ((k : Int) < (s.size : Int)) = true := by simp; omega
    obtain ⟨c, hc, hbc⟩ := bt_dig s k (by omega)
    have hgk := (get_bt s k (by omega)).trans hbc
    by_cases hkj : k = j
    · subst hkj
      have hc2 : c = 44 := Option.some.inj (hc.symm.trans HN.out.2)
      have hc44 : (((c.toNat : Nat) : Int) == 44) = true := by rw [hc2]; rfl
      have hk0 : (0 : Int) ≤ (k : Int) := by omega
      have hk1 : (k : Int) ≤ (s.size : Int) := by omega
      have hk2 : (k : Int) + 1 ≤ (s.size : Int) := by omega
      clear hc hbc hc2
      go_wp2_with fail
      refine (HX.out _).mono ?_
      rintro r w1 ⟨rfl, hb⟩
      have z1 := heap_below hb z0
      have hB1 := below_on hB hb
      clear hb z0 hB hgk hc44 hd1
      go_upto_region 6 with (fail)
      have hs1 := hB1.size
      obtain ⟨b5, hb5⟩ : ∃ b, b = w1.heap.size := ⟨_, rfl⟩
      refine abs_wp (fun W => W.heap[w.heap.size]? = some (.cells #[.int .i64 0, .int .i64 0, .int .i64 0, .int .i64 0] 26 (0, 0)) ∧ W.heap[w1.heap.size]? = some (.cells #[.int .i64 ax, .int .i64 ay] 24 (0, 0)) ∧ Below w.heap.size w W) ⟨heap_old z1 _, heap_new _ _, by focus (repeat (first | (with_reducible exact Below.refl _ _) | (with_reducible assumption) | ((with_reducible refine Below.setCell ?_ ?_ _); rotate_left; (focus (first | omega | (simp; done) | (simp; omega)))) | ((with_reducible refine Below.alloc ?_ ?_ _); rotate_left; (focus (first | omega | (simp; done) | (simp; omega)))) | (with_reducible refine Below.drew ?_) | (refine below_on ?_ (by assumption))))⟩ fun W2 ⟨y0, y5, hB2⟩ => ?_
      rw [← hb5] at y5 ⊢
      clear z1 hB1 hs1 hb5
      go_wp2_with fail
      refine (HY.out _).mono ?_
      rintro r w3 ⟨rfl, hb⟩
      have z0 := heap_below hb y0
      have z5 := heap_below hb y5
      have hB3 := below_on hB2 hb
      clear hb y0 y5 hB2
      go_upto_region 7 with (fail)
      have hs3 := hB3.size
      obtain ⟨b7, hb7⟩ : ∃ b, b = w3.heap.size := ⟨_, rfl⟩
      refine abs_wp (fun W => W.heap[w.heap.size]? = some (.cells #[.int .i64 0, .int .i64 0, .int .i64 0, .int .i64 0] 26 (0, 0)) ∧ W.heap[b5]? = some (.cells #[.int .i64 ax, .int .i64 ay] 24 (0, 0)) ∧ W.heap[w3.heap.size]? = some (.cells #[.int .i64 bx, .int .i64 by_] 24 (0, 0)) ∧ Below w.heap.size w W) ⟨heap_old z0 _, heap_old z5 _, heap_new _ _, by focus (repeat (first | (with_reducible exact Below.refl _ _) | (with_reducible assumption) | ((with_reducible refine Below.setCell ?_ ?_ _); rotate_left; (focus (first | omega | (simp; done) | (simp; omega)))) | ((with_reducible refine Below.alloc ?_ ?_ _); rotate_left; (focus (first | omega | (simp; done) | (simp; omega)))) | (with_reducible refine Below.drew ?_) | (refine below_on ?_ (by assumption))))⟩ fun W4 ⟨y0, y5, y7, hB4⟩ => ?_
      rw [← hb7] at y7 ⊢
      clear z0 z5 hB3 hs3 hb7
      have c5 := cell_at y5
      have c7 := cell_at y7
      go_upto_region 8 with (fail)
      have hs4 := hB4.size
      obtain ⟨b9, hb9⟩ : ∃ b, b = W4.heap.size := ⟨_, rfl⟩
      refine abs_wp (fun W => W.heap[w.heap.size]? = some (.cells #[.int .i64 0, .int .i64 0, .int .i64 0, .int .i64 0] 26 (0, 0)) ∧ W.heap[W4.heap.size]? = some (.cells #[.int .i64 ax, .int .i64 ay, .int .i64 bx, .int .i64 by_] 26 (0, 0)) ∧ Below w.heap.size w W) ⟨heap_old y0 _, heap_new _ _, by focus (repeat (first | (with_reducible exact Below.refl _ _) | (with_reducible assumption) | ((with_reducible refine Below.setCell ?_ ?_ _); rotate_left; (focus (first | omega | (simp; done) | (simp; omega)))) | ((with_reducible refine Below.alloc ?_ ?_ _); rotate_left; (focus (first | omega | (simp; done) | (simp; omega)))) | (with_reducible refine Below.drew ?_) | (refine below_on ?_ (by assumption))))⟩ fun W5 ⟨x0, x9, hB5⟩ => ?_
      rw [← hb9] at x9 ⊢
      clear y0 y5 y7 hB4 hs4 hb9 c5 c7
      cases a with
      | false =>
        have c0 := cell_at x0
        have f0 := frozen_at x0
        obtain ⟨l1, l2, l3⟩ := laid_four w.heap.size W5 (.int .i64 0) (.int .i64 0) (.int .i64 0) (.int .i64 0)
        have c2 := cell_at (l1 x0 rfl)
        have kB := Below.trans hB5 (l3 w.heap.size (Nat.le_refl _))
        go_wp2
        refine bodyPost_ret (by first | (simp [results, Tryz.results39, go_sem, c2]; done) | (simp [results, Tryz.results39, go_sem, c2]; rfl)) rfl ⟨rfl, kB⟩
      | true =>
        cases b with
        | false =>
          have c0 := cell_at x0
          have f0 := frozen_at x0
          obtain ⟨l1, l2, l3⟩ := laid_four w.heap.size W5 (.int .i64 0) (.int .i64 0) (.int .i64 0) (.int .i64 0)
          have c2 := cell_at (l1 x0 rfl)
          have kB := Below.trans hB5 (l3 w.heap.size (Nat.le_refl _))
          go_wp2
          refine bodyPost_ret (by first | (simp [results, Tryz.results39, go_sem, c2]; done) | (simp [results, Tryz.results39, go_sem, c2]; rfl)) rfl ⟨rfl, kB⟩
        | true =>
          have c9 := cell_at x9
          go_wp2_with fail
          refine (HQ.out _).mono ?_
          rintro r w6 ⟨rfl, hb⟩
          have u0 := heap_below hb x0
          have u9 := heap_below hb x9
          have hB6 := below_on hB5 hb
          clear hb x0 x9 hB5 c9
          cases q with
          | false =>
            have c0 := cell_at u0
            have f0 := frozen_at u0
            obtain ⟨l1, l2, l3⟩ := laid_four w.heap.size w6 (.int .i64 0) (.int .i64 0) (.int .i64 0) (.int .i64 0)
            have c2 := cell_at (l1 u0 rfl)
            have kB := Below.trans hB6 (l3 w.heap.size (Nat.le_refl _))
            go_wp2
            refine bodyPost_ret (by first | (simp [results, Tryz.results39, go_sem, c2]; done) | (simp [results, Tryz.results39, go_sem, c2]; rfl)) rfl ⟨rfl, kB⟩
          | true =>
            have c9 := cell_at u9
            have c0 := cell_at u0
            have f0 := frozen_at u0
            obtain ⟨l1, l2, l3⟩ := laid_four w.heap.size w6 (.int .i64 ax) (.int .i64 ay) (.int .i64 bx) (.int .i64 by_)
            have c2 := cell_at (l1 u0 rfl)
            have kB := Below.trans hB6 (l3 w.heap.size (Nat.le_refl _))
            go_wp2
            refine bodyPost_ret (by first | (simp [results, Tryz.results39, go_sem, c2]; done) | (simp [results, Tryz.results39, go_sem, c2]; rfl)) rfl ⟨rfl, kB⟩
    · have hc44 : (((c.toNat : Nat) : Int) == 44) = false := by
        rw [beq_eq_false_iff_ne]
        intro h
        apply HN.out.1
        have h2 : c = 44 := by
          apply UInt8.toNat_inj.1
          have : (44 : UInt8).toNat = 44 := by decide
          omega
        rw [← h2]
        refine List.mem_of_getElem? (i := k) ?_
        rw [List.getElem?_take_of_lt (by omega)]
        exact hc
      clear hc hbc
      go_wp2
      go_roundw
      case rel => exact ⟨k + 1, by omega, by go_num, z0, hB⟩
      case measure => simp [intOf]; omega
theorem node_inj {x y x' y' : Int} (h1 : nodeB x y = true) (h2 : nodeB x' y' = true) (h : nodeS x y = nodeS x' y') : x = x' ∧ y = y' := by
  obtain ⟨r1, r2⟩ := node_range h1
  obtain ⟨r3, r4⟩ := node_range h2
  have hl : Lib.itoa x ++ 32 :: Lib.itoa y = Lib.itoa x' ++ 32 :: Lib.itoa y' := by rw [← node_list, ← node_list, h]
  obtain ⟨e1, e2⟩ := join_inj 32 _ _ _ _ hl (itoa_no x 32 (by decide)) (itoa_no x' 32 (by decide))
  exact ⟨itS_inj (by omega) (by omega) (bytes_ext e1), itS_inj (by omega) (by omega) (bytes_ext e2)⟩
theorem comma_no (x y : Int) : (44 : UInt8) ∉ (nodeS x y).data.toList := by
  rw [node_list]
  intro h
  rw [List.mem_append, List.mem_cons] at h
  rcases h with h | h | h
  · exact itoa_no x 44 (by decide) h
  · exact absurd h (by decide)
  · exact itoa_no y 44 (by decide) h
/-- The reference Parse, of any text. -/
theorem rparse_ex (s : ByteArray) (hsz : s.size ≤ 1100000) :
    ∃ c0 c1 c2 c3 e : Int, (e = 0 ∧ segB c0 c1 c2 c3 = true ∧ s = segS c0 c1 c2 c3 ∨ e = 140 ∧ c0 = 0 ∧ c1 = 0 ∧ c2 = 0 ∧ c3 = 0 ∧ ∀ a b c d : Int, segB a b c d = true → s ≠ segS a b c d) ∧
    ∀ w : World, Calls Tryz.prog 39 #[.string s] w fun x w' => x = .returned (.tuple #[.agg #[.int .i64 c0, .int .i64 c1, .int .i64 c2, .int .i64 c3], .int .i64 e]) ∧ Below w.heap.size w w' := by
  by_cases hm : (44 : UInt8) ∈ s.data.toList
  · obtain ⟨j, hj, hno⟩ := mem_first hm
    have hjs : j < s.size := by
      have := (List.getElem?_eq_some_iff.1 hj).1
      rw [size_list] at this
      exact this
    have hsp := cut_list s j 44 hj
    have hL : (44 : UInt8) ∉ (s.extract 0 j).data.toList := by rw [take_list]; exact hno
    obtain ⟨ax, ay, a, ha, ca, HX⟩ := rnode_ex (s.extract 0 j) (by rw [ByteArray.size_extract]; omega)
    obtain ⟨bx, by_, b, hb, cb, HY⟩ := rnode_ex (s.extract (j + 1) s.size) (by rw [ByteArray.size_extract]; omega)
    have hw := rparse_cut s j hjs hsz hj hno ax ay bx by_ a b (segB ax ay bx by_) ⟨HX⟩ ⟨HY⟩ rfl
    cases hab : (a && (b && segB ax ay bx by_)) with
    | true =>
      rw [hab] at hw
      simp only [Bool.and_eq_true] at hab
      refine ⟨ax, ay, bx, by_, 0, .inl ⟨rfl, hab.2.2, ?_⟩, hw⟩
      apply bytes_ext
      rw [hsp, seg_list, ← (ha hab.1).1, ← (hb hab.2.1).1]
    | false =>
      rw [hab] at hw
      refine ⟨0, 0, 0, 0, 140, .inr ⟨rfl, rfl, rfl, rfl, rfl, fun p q r t hg hs => ?_⟩, hw⟩
      have hg2 := hg
      unfold segB at hg2
      simp only [Bool.and_eq_true] at hg2
      have hl : s.data.toList = (nodeS p q).data.toList ++ 44 :: (nodeS r t).data.toList := by rw [hs, seg_list]
      obtain ⟨e1, e2⟩ := join_inj 44 _ _ _ _ (hl.symm.trans hsp) (comma_no p q) hL
      have f1 : s.extract 0 j = nodeS p q := (bytes_ext e1).symm
      have f2 : s.extract (j + 1) s.size = nodeS r t := (bytes_ext e2).symm
      have ta := ca p q hg2.1 f1
      have tb := cb r t hg2.2.1 f2
      have k1 := node_inj (ha ta).2 hg2.1 ((ha ta).1.symm.trans f1)
      have k2 := node_inj (hb tb).2 hg2.2.1 ((hb tb).1.symm.trans f2)
      rw [ta, tb, k1.1, k1.2, k2.1, k2.2, hg] at hab
      cases hab
  · refine ⟨0, 0, 0, 0, 140, .inr ⟨rfl, rfl, rfl, rfl, rfl, fun p q r t _ hs => ?_⟩, fun w => rparse_none s hsz hm w⟩
    apply hm
    rw [hs, seg_list]
    simp
end Go.Proofs.YtfchmikbebdflaaGreatDoor
