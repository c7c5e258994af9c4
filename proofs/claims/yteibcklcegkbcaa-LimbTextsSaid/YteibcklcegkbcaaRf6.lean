/-
  Walks of the references: mags, Cmp, Sign, Right. Conditions stand in each theorem.
-/
import Derived.Test.YteibcklcegkbcaaRf4
namespace Go.Proofs.Yteibcklcegkbcaa
open Go.RowKit Go.BigFrame

theorem val_lt : ∀ (l : List Int), Dg l → val l < 65536 ^ l.length
  | [], _ => by simp [val]
  | x :: l, h => by
    have h1 := h x (by simp)
    have h2 := val_lt l (fun y hy => h y (by simp [hy]))
    simp only [val, List.length_cons, Nat.pow_succ]
    omega
theorem dd_len_le : ∀ (k n : Nat), n < 65536 ^ k → (dd n).length ≤ k
  | 0, n, h => by
    obtain rfl : n = 0 := by simpa using h
    rw [dd_zero]; exact Nat.le_refl _
  | k + 1, n, h => by
    by_cases h0 : n = 0
    · rw [h0, dd_zero]; exact Nat.zero_le _
    · rw [dd_pos h0, List.length_cons]
      have := dd_len_le k (n / 65536) (Nat.div_lt_of_lt_mul (by rw [Nat.mul_comm]; simpa [Nat.pow_succ] using h))
      omega
theorem dd_len (k n : Nat) : (dd n).length ≤ k ↔ n < 65536 ^ k := by
  refine ⟨fun h => ?_, dd_len_le k n⟩
  have h1 := val_lt (dd n) (dd_range n)
  rw [val_of_dd] at h1
  exact Nat.lt_of_lt_of_le h1 (Nat.pow_le_pow_right (by decide) h)
theorem dd_len16 (n : Nat) : (dd n).length ≤ 16 ↔ n < 2 ^ 256 := by
  rw [dd_len]
theorem lt_of_len {m n : Nat} (h : (dd m).length < (dd n).length) : m < n := by
  have h1 := (dd_len (dd m).length m).1 (Nat.le_refl _)
  rcases Nat.lt_or_ge n (65536 ^ (dd m).length) with h2 | h2
  · have := (dd_len _ _).2 h2
    omega
  · omega
theorem val_split (l : List Int) (i : Nat) (x : Int) (h : l[i]? = some x) : val l = val (l.take i) + 65536 ^ i * (x.toNat + 65536 * val (l.drop (i + 1))) := by
  obtain ⟨hi, hx⟩ := List.getElem?_eq_some_iff.1 h
  have h1 : l = l.take i ++ x :: l.drop (i + 1) := by
    rw [← hx, List.getElem_cons_drop, List.take_append_drop]
  have h2 : (l.take i).length = i := by rw [List.length_take]; omega
  rw [congrArg val h1, val_append, h2]
  rfl
theorem val_less (l k : List Int) (i : Nat) (x y : Int) (hl : Dg l) (hk : Dg k) (h : l[i]? = some x) (h' : k[i]? = some y) (hd : l.drop (i + 1) = k.drop (i + 1)) (hxy : x < y) : val l < val k := by
  rw [val_split l i x h, val_split k i y h', hd]
  have hx := hl x (List.mem_of_getElem? h)
  have hy := hk y (List.mem_of_getElem? h')
  have h1 := val_lt (l.take i) (fun z hz => hl z (List.mem_of_mem_take hz))
  have hi : i < l.length := (List.getElem?_eq_some_iff.1 h).1
  rw [List.length_take, Nat.min_eq_left (by omega)] at h1
  have h2 : x.toNat + 1 + 65536 * val (k.drop (i + 1)) ≤ y.toNat + 65536 * val (k.drop (i + 1)) := by omega
  have h3 := Nat.mul_le_mul_left (65536 ^ i) h2
  have h4 : 65536 ^ i * (x.toNat + 1 + 65536 * val (k.drop (i + 1))) = 65536 ^ i * (x.toNat + 65536 * val (k.drop (i + 1))) + 65536 ^ i := by
    rw [Nat.mul_add, Nat.mul_add, Nat.mul_add]; omega
  omega
theorem drop_step {l k : List Int} {i : Nat} {x : Int} (h : l[i]? = some x) (h' : k[i]? = some x) (hd : l.drop (i + 1) = k.drop (i + 1)) : l.drop i = k.drop i := by
  obtain ⟨hi, hx⟩ := List.getElem?_eq_some_iff.1 h
  obtain ⟨hj, hy⟩ := List.getElem?_eq_some_iff.1 h'
  rw [← List.getElem_cons_drop hi, ← List.getElem_cons_drop hj, hx, hy, hd]
theorem dd_inj {m n : Nat} (h : dd m = dd n) : m = n := by rw [← val_of_dd m, ← val_of_dd n, h]
open Go.RowKit Go.BigFrame

theorem cmp_lt {m n : Nat} (h : m < n) : cmpN m n = -1 := by unfold cmpN; rw [if_pos h]
theorem cmp_gt {m n : Nat} (h : n < m) : cmpN m n = 1 := by unfold cmpN; rw [if_neg (by omega), if_neg (by omega)]
set_option maxHeartbeats 1000000 in
theorem rmags_any (m n : Nat) (A B : Option Addr) (c d : Nat) (hc : (dd m).length ≤ c) (hd : (dd n).length ≤ d) (w : World) (h1 : DigAt w A (dd m)) (h2 : DigAt w B (dd n)) :
    Calls Try.prog 54 #[.slice A (dd m).length c, .slice B (dd n).length d] w fun e w' => e = .returned (.int .i64 (cmpN m n)) ∧ Below w.heap.size w w' := by
  have hla := h1.1
  have hlb := h2.1
  have H1 := Hd.mk h1
  have H2 := Hd.mk h2
  clear h1 h2
  by_cases hl : (dd m).length = (dd n).length
  · have HL := Hd.mk hl
    rw [← hl] at hd ⊢
    clear hl
    go_enter Try.func54, Try.ntmps54
    go_wp2
    go_loopw [5] (fun v wr => ∃ i : Nat, i ≤ (dd m).length ∧ v = .int .i64 ((i : Int) - 1) ∧ Hd ((dd m).drop i = (dd n).drop i) ∧ Below w.heap.size w wr) (fun v _ => (intOf v + 1).toNat)
    case atStart => exact ⟨(dd m).length, Nat.le_refl _, rfl, ⟨by rw [List.drop_length, HL.out, List.drop_length]⟩, Below.refl _ _⟩
    case round =>
      obtain ⟨i, hi, rfl, HD, hB⟩ := hrel
      match i, hi, HD with
      | 0, hi, HD =>
        have HV : Hd (cmpN m n = 0) := ⟨by
          have h0 := HD.out
          rw [List.drop_zero, List.drop_zero] at h0
          rw [dd_inj h0]; unfold cmpN; rw [if_neg (by omega), if_pos rfl]⟩
        go_wp2
        go_ret
        exact ⟨by rw [HV.out]; rfl, hB⟩
      | j + 1, hi, HD =>
        rw [show ((j + 1 : Nat) : Int) - 1 = (j : Int) from by omega]
        obtain ⟨b1, o1, rfl, f1⟩ := (H1.out).2 (by omega)
        obtain ⟨b2, o2, rfl, f2⟩ := (H2.out).2 (by rw [← HL.out]; omega)
        obtain ⟨x, hx⟩ : ∃ x, (dd m)[j]? = some x := ⟨_, List.getElem?_eq_getElem (by omega)⟩
        obtain ⟨y, hy⟩ : ∃ y, (dd n)[j]? = some y := ⟨_, List.getElem?_eq_getElem (by rw [← HL.out]; omega)⟩
        have g1 := (hB.cell (World.block_lt_of_cell? w _ (f1 j x hx))).trans (f1 j x hx)
        have g2 := (hB.cell (World.block_lt_of_cell? w _ (f2 j y hy))).trans (f2 j y hy)
        have HX := Hd.mk hx
        have HY := Hd.mk hy
        have l1 := World.block_lt_of_cell? _ _ g1
        have l2 := World.block_lt_of_cell? _ _ g2
        clear f1 f2 hx hy
        have hge : decide ((j : Int) ≥ 0) = true := by simp
        by_cases hxy : x < y
        · have hd1 : decide (x < y) = true := by simpa using hxy
          have HV : Hd (cmpN m n = -1) := ⟨cmp_lt (by
            have := val_less (dd m) (dd n) j x y (dd_range m) (dd_range n) HX.out HY.out HD.out hxy
            rwa [val_of_dd, val_of_dd] at this)⟩
          clear hxy
          go_wp2
          refine region_mix 8 (by kernel_rfl) (by kernel_rfl) (fun _ _ _ _ h => h) fun X _ mk hmk hcl => ?_
          have c0 := fun x => ((hmk x).cell l1).trans g1
          have c1 := fun x => ((hmk x).cell l2).trans g2
          simp only [List.take_succ_cons, List.take_zero, List.drop_succ_cons, List.drop_zero]
          repeat (go_big_quiet_step (skip))
          refine wpQuiet_nil ?_
          rintro _ ⟨x, rfl⟩
          have hx := hmk x
          clear hcl hmk
          generalize mk x = W1 at hx
          go_wp2
          go_ret
          refine ⟨by rw [HV.out]; rfl, ?_⟩
          focus (repeat (first | (with_reducible exact Below.refl _ _) | (with_reducible assumption) | ((with_reducible refine Below.setCell ?_ ?_ _); rotate_left; (focus (first | omega | (simp; done) | (simp; omega)))) | ((with_reducible refine Below.alloc ?_ ?_ _); rotate_left; (focus (first | omega | (simp; done) | (simp; omega)))) | (with_reducible refine Below.drew ?_) | (refine below_on ?_ (by assumption))))
        · have hd1 : decide (x < y) = false := by simpa using hxy
          by_cases hyx : x > y
          · have hd2 : decide (x > y) = true := by simpa using hyx
            have HV : Hd (cmpN m n = 1) := ⟨cmp_gt (by
              have := val_less (dd n) (dd m) j y x (dd_range n) (dd_range m) HY.out HX.out HD.out.symm hyx
              rwa [val_of_dd, val_of_dd] at this)⟩
            clear hxy hyx
            go_wp2
            refine region_mix 8 (by kernel_rfl) (by kernel_rfl) (fun _ _ _ _ h => h) fun X _ mk hmk hcl => ?_
            have c0 := fun x => ((hmk x).cell l1).trans g1
            have c1 := fun x => ((hmk x).cell l2).trans g2
            simp only [List.take_succ_cons, List.take_zero, List.drop_succ_cons, List.drop_zero]
            repeat (go_big_quiet_step (skip))
            refine wpQuiet_nil ?_
            rintro _ ⟨x, rfl⟩
            have hB1 := below_on hB (hmk x)
            have k1 := c0 x
            have k2 := c1 x
            clear hcl hmk c0 c1
            generalize mk x = W1 at hB1 k1 k2
            have m1 := World.block_lt_of_cell? _ _ k1
            have m2 := World.block_lt_of_cell? _ _ k2
            go_wp2
            refine region_mix 8 (by kernel_rfl) (by kernel_rfl) (fun _ _ _ _ h => h) fun X _ mk hmk hcl => ?_
            have c0 := fun x => ((hmk x).cell m1).trans k1
            have c1 := fun x => ((hmk x).cell m2).trans k2
            simp only [List.take_succ_cons, List.take_zero, List.drop_succ_cons, List.drop_zero]
            repeat (go_big_quiet_step (skip))
            refine wpQuiet_nil ?_
            rintro _ ⟨x, rfl⟩
            have hx := hmk x
            clear hcl hmk
            generalize mk x = W2 at hx
            go_wp2
            go_ret
            refine ⟨by rw [HV.out]; rfl, ?_⟩
            focus (repeat (first | (with_reducible exact Below.refl _ _) | (with_reducible assumption) | ((with_reducible refine Below.setCell ?_ ?_ _); rotate_left; (focus (first | omega | (simp; done) | (simp; omega)))) | ((with_reducible refine Below.alloc ?_ ?_ _); rotate_left; (focus (first | omega | (simp; done) | (simp; omega)))) | (with_reducible refine Below.drew ?_) | (refine below_on ?_ (by assumption))))
          · have hd2 : decide (x > y) = false := by simpa using hyx
            obtain rfl : x = y := by omega
            have HD2 : Hd ((dd m).drop j = (dd n).drop j) := ⟨drop_step HX.out HY.out HD.out⟩
            clear hxy hyx
            go_wp2
            refine region_mix 8 (by kernel_rfl) (by kernel_rfl) (fun _ _ _ _ h => h) fun X _ mk hmk hcl => ?_
            have c0 := fun x => ((hmk x).cell l1).trans g1
            have c1 := fun x => ((hmk x).cell l2).trans g2
            simp only [List.take_succ_cons, List.take_zero, List.drop_succ_cons, List.drop_zero]
            repeat (go_big_quiet_step (skip))
            refine wpQuiet_nil ?_
            rintro _ ⟨x, rfl⟩
            have hB1 := below_on hB (hmk x)
            have k1 := c0 x
            have k2 := c1 x
            clear hcl hmk c0 c1
            generalize mk x = W1 at hB1 k1 k2
            have m1 := World.block_lt_of_cell? _ _ k1
            have m2 := World.block_lt_of_cell? _ _ k2
            go_wp2
            refine region_mix 8 (by kernel_rfl) (by kernel_rfl) (fun _ _ _ _ h => h) fun X _ mk hmk hcl => ?_
            have c0 := fun x => ((hmk x).cell m1).trans k1
            have c1 := fun x => ((hmk x).cell m2).trans k2
            simp only [List.take_succ_cons, List.take_zero, List.drop_succ_cons, List.drop_zero]
            repeat (go_big_quiet_step (skip))
            refine wpQuiet_nil ?_
            rintro _ ⟨x, rfl⟩
            have hx := hmk x
            clear hcl hmk
            generalize mk x = W2 at hx
            go_wp2
            go_roundw
            case rel =>
              refine ⟨j, by omega, rfl, HD2, ?_⟩
              focus (repeat (first | (with_reducible exact Below.refl _ _) | (with_reducible assumption) | ((with_reducible refine Below.setCell ?_ ?_ _); rotate_left; (focus (first | omega | (simp; done) | (simp; omega)))) | ((with_reducible refine Below.alloc ?_ ?_ _); rotate_left; (focus (first | omega | (simp; done) | (simp; omega)))) | (with_reducible refine Below.drew ?_) | (refine below_on ?_ (by assumption))))
            case measure => simp [intOf]
  · have hq : (((dd m).length : Int) != ((dd n).length : Int)) = true := by simp; omega
    by_cases hlt : (dd m).length < (dd n).length
    · have hd1 : decide ((dd m).length < (dd n).length) = true := by simpa using hlt
      have HV : Hd (cmpN m n = -1) := ⟨cmp_lt (lt_of_len hlt)⟩
      clear hl hlt
      go_enter Try.func54, Try.ntmps54
      go_wp2
      go_ret
      exact ⟨by rw [HV.out]; rfl, Below.refl _ _⟩
    · have hd1 : decide ((dd m).length < (dd n).length) = false := by simpa using hlt
      have HV : Hd (cmpN m n = 1) := ⟨cmp_gt (lt_of_len (by omega))⟩
      clear hl hlt
      go_enter Try.func54, Try.ntmps54
      go_wp2
      go_ret
      exact ⟨by rw [HV.out]; rfl, Below.refl _ _⟩

theorem sgn_plus {x y : Int} (hx : ng x = false) (hy : ng y = false) : cmpN (ab x) (ab y) = sgn (x - y) := by
  unfold ng at hx hy; unfold cmpN sgn ab
  simp only [decide_eq_false_iff_not] at hx hy
  split
  · rw [if_neg (by omega), if_pos (by omega)]
  · split
    · rw [if_pos (by omega)]
    · rw [if_neg (by omega), if_neg (by omega)]
theorem sgn_minus {x y : Int} (hx : ng x = true) (hy : ng y = true) : cmpN (ab y) (ab x) = sgn (x - y) := by
  unfold ng at hx hy; unfold cmpN sgn ab
  simp only [decide_eq_true_eq] at hx hy
  split
  · rw [if_neg (by omega), if_pos (by omega)]
  · split
    · rw [if_pos (by omega)]
    · rw [if_neg (by omega), if_neg (by omega)]
theorem sgn_apart {x y : Int} (hx : ng x = true) (hy : ng y = false) : sgn (x - y) = -1 ∧ sgn (y - x) = 1 := by
  unfold ng at hx hy; unfold sgn
  simp only [decide_eq_true_eq, decide_eq_false_iff_not] at hx hy
  refine ⟨?_, ?_⟩
  · rw [if_neg (by omega), if_pos (by omega)]
  · rw [if_neg (by omega), if_neg (by omega)]
set_option maxHeartbeats 1000000 in
theorem rcmp_any (x y : Int) (u v : Value) (w : World) (hu : BigAt w u x) (hv : BigAt w v y) :
    Calls Try.prog 41 #[u, v] w fun e w' => e = .returned (.int .i64 (sgn (x - y))) ∧ Below w.heap.size w w' := by
  obtain ⟨A, c, rfl, hc, hA⟩ := hu
  obtain ⟨B, d, rfl, hd, hB⟩ := hv
  cases hx : ng x
  · cases hy : ng y
    · have HV := Hd.mk (sgn_plus hx hy)
      clear hx hy
      go_enter Try.func41, Try.ntmps41
      go_wp2_with fail
      refine (rmags_any (ab x) (ab y) A B c d hc hd _ (hA.below (by focus (repeat (first | (with_reducible exact Below.refl _ _) | (with_reducible assumption) | ((with_reducible refine Below.setCell ?_ ?_ _); rotate_left; (focus (first | omega | (simp; done) | (simp; omega)))) | ((with_reducible refine Below.alloc ?_ ?_ _); rotate_left; (focus (first | omega | (simp; done) | (simp; omega)))) | (with_reducible refine Below.drew ?_) | (refine below_on ?_ (by assumption)))))) (hB.below (by focus (repeat (first | (with_reducible exact Below.refl _ _) | (with_reducible assumption) | ((with_reducible refine Below.setCell ?_ ?_ _); rotate_left; (focus (first | omega | (simp; done) | (simp; omega)))) | ((with_reducible refine Below.alloc ?_ ?_ _); rotate_left; (focus (first | omega | (simp; done) | (simp; omega)))) | (with_reducible refine Below.drew ?_) | (refine below_on ?_ (by assumption))))))).mono ?_
      rintro e w1 ⟨rfl, hb⟩
      go_wp2
      go_ret
      refine ⟨by rw [HV.out]; rfl, ?_⟩
      focus (repeat (first | (with_reducible exact Below.refl _ _) | (with_reducible assumption) | ((with_reducible refine Below.setCell ?_ ?_ _); rotate_left; (focus (first | omega | (simp; done) | (simp; omega)))) | ((with_reducible refine Below.alloc ?_ ?_ _); rotate_left; (focus (first | omega | (simp; done) | (simp; omega)))) | (with_reducible refine Below.drew ?_) | (refine below_on ?_ (by assumption))))
    · have HV := Hd.mk (sgn_apart hy hx).2
      clear hx hy
      go_enter Try.func41, Try.ntmps41
      go_wp2
      go_ret
      refine ⟨by rw [HV.out]; rfl, ?_⟩
      focus (repeat (first | (with_reducible exact Below.refl _ _) | (with_reducible assumption) | ((with_reducible refine Below.setCell ?_ ?_ _); rotate_left; (focus (first | omega | (simp; done) | (simp; omega)))) | ((with_reducible refine Below.alloc ?_ ?_ _); rotate_left; (focus (first | omega | (simp; done) | (simp; omega)))) | (with_reducible refine Below.drew ?_) | (refine below_on ?_ (by assumption))))
  · cases hy : ng y
    · have HV := Hd.mk (sgn_apart hx hy).1
      clear hx hy
      go_enter Try.func41, Try.ntmps41
      go_wp2
      go_ret
      refine ⟨by rw [HV.out]; rfl, ?_⟩
      focus (repeat (first | (with_reducible exact Below.refl _ _) | (with_reducible assumption) | ((with_reducible refine Below.setCell ?_ ?_ _); rotate_left; (focus (first | omega | (simp; done) | (simp; omega)))) | ((with_reducible refine Below.alloc ?_ ?_ _); rotate_left; (focus (first | omega | (simp; done) | (simp; omega)))) | (with_reducible refine Below.drew ?_) | (refine below_on ?_ (by assumption))))
    · have HV := Hd.mk (sgn_minus hx hy)
      clear hx hy
      go_enter Try.func41, Try.ntmps41
      go_wp2_with fail
      refine (rmags_any (ab y) (ab x) B A d c hd hc _ (hB.below (by focus (repeat (first | (with_reducible exact Below.refl _ _) | (with_reducible assumption) | ((with_reducible refine Below.setCell ?_ ?_ _); rotate_left; (focus (first | omega | (simp; done) | (simp; omega)))) | ((with_reducible refine Below.alloc ?_ ?_ _); rotate_left; (focus (first | omega | (simp; done) | (simp; omega)))) | (with_reducible refine Below.drew ?_) | (refine below_on ?_ (by assumption)))))) (hA.below (by focus (repeat (first | (with_reducible exact Below.refl _ _) | (with_reducible assumption) | ((with_reducible refine Below.setCell ?_ ?_ _); rotate_left; (focus (first | omega | (simp; done) | (simp; omega)))) | ((with_reducible refine Below.alloc ?_ ?_ _); rotate_left; (focus (first | omega | (simp; done) | (simp; omega)))) | (with_reducible refine Below.drew ?_) | (refine below_on ?_ (by assumption))))))).mono ?_
      rintro e w1 ⟨rfl, hb⟩
      go_wp2
      go_ret
      refine ⟨by rw [HV.out]; rfl, ?_⟩
      focus (repeat (first | (with_reducible exact Below.refl _ _) | (with_reducible assumption) | ((with_reducible refine Below.setCell ?_ ?_ _); rotate_left; (focus (first | omega | (simp; done) | (simp; omega)))) | ((with_reducible refine Below.alloc ?_ ?_ _); rotate_left; (focus (first | omega | (simp; done) | (simp; omega)))) | (with_reducible refine Below.drew ?_) | (refine below_on ?_ (by assumption))))
theorem big_zero (W : World) : BigAt W (.agg #[.bool false, .slice none 0 0]) 0 :=
  ⟨none, 0, by rw [show ab 0 = 0 from rfl, dd_zero]; rfl, by rw [show ab 0 = 0 from rfl, dd_zero]; exact Nat.le_refl _, by rw [show ab 0 = 0 from rfl, dd_zero]; exact ⟨by simp, fun h => by simp at h⟩⟩
set_option maxHeartbeats 400000 in
theorem rsign_any (x : Int) (u : Value) (w : World) (hu : BigAt w u x) :
    Calls Try.prog 33 #[u] w fun e w' => e = .returned (.int .i64 (sgn x)) ∧ Below w.heap.size w w' := by
  obtain ⟨A, c, rfl, hc, hA⟩ := hu
  go_enter Try.func33, Try.ntmps33
  go_wp2_with fail
  refine (rcmp_any x 0 _ _ _ ⟨A, c, rfl, hc, hA.below (by focus (repeat (first | (with_reducible exact Below.refl _ _) | (with_reducible assumption) | ((with_reducible refine Below.setCell ?_ ?_ _); rotate_left; (focus (first | omega | (simp; done) | (simp; omega)))) | ((with_reducible refine Below.alloc ?_ ?_ _); rotate_left; (focus (first | omega | (simp; done) | (simp; omega)))) | (with_reducible refine Below.drew ?_) | (refine below_on ?_ (by assumption)))))⟩ (big_zero _)).mono ?_
  rintro e w1 ⟨rfl, hb⟩
  rw [Int.sub_zero]
  go_wp2
  go_ret
  refine ⟨rfl, ?_⟩
  focus (repeat (first | (with_reducible exact Below.refl _ _) | (with_reducible assumption) | ((with_reducible refine Below.setCell ?_ ?_ _); rotate_left; (focus (first | omega | (simp; done) | (simp; omega)))) | ((with_reducible refine Below.alloc ?_ ?_ _); rotate_left; (focus (first | omega | (simp; done) | (simp; omega)))) | (with_reducible refine Below.drew ?_) | (refine below_on ?_ (by assumption))))
set_option maxHeartbeats 400000 in
theorem rright_ok (z : Int) (hz : ab z < 2 ^ 256) (w : World) :
    Calls Try.prog 13 #[.agg #[.bool (ng (z)), .int .u64 (dg (ab (z)) 0), .int .u64 (dg (ab (z)) 1), .int .u64 (dg (ab (z)) 2), .int .u64 (dg (ab (z)) 3)]] w fun e w' => e = .returned (.bool true) ∧ Below w.heap.size w w' := by
  have h1 := mag_zero hz
  have h2 := ng_zero_iff z
  clear hz
  cases hs : ng z
  · clear h1 h2 hs
    go_enter Try.func13, Try.ntmps13
    go_wp2
    go_ret
    refine ⟨rfl, ?_⟩
    focus (repeat (first | (with_reducible exact Below.refl _ _) | (with_reducible assumption) | ((with_reducible refine Below.setCell ?_ ?_ _); rotate_left; (focus (first | omega | (simp; done) | (simp; omega)))) | ((with_reducible refine Below.alloc ?_ ?_ _); rotate_left; (focus (first | omega | (simp; done) | (simp; omega)))) | (with_reducible refine Below.drew ?_) | (refine below_on ?_ (by assumption))))
  · have h3 : (dg (ab z) 0 == 0 && (dg (ab z) 1 == 0 && (dg (ab z) 2 == 0 && dg (ab z) 3 == 0))) = false := by rw [h1]; simpa using h2 hs
    clear h1 h2 hs
    go_enter Try.func13, Try.ntmps13
    go_wp2
    go_ret
    refine ⟨rfl, ?_⟩
    focus (repeat (first | (with_reducible exact Below.refl _ _) | (with_reducible assumption) | ((with_reducible refine Below.setCell ?_ ?_ _); rotate_left; (focus (first | omega | (simp; done) | (simp; omega)))) | ((with_reducible refine Below.alloc ?_ ?_ _); rotate_left; (focus (first | omega | (simp; done) | (simp; omega)))) | (with_reducible refine Below.drew ?_) | (refine below_on ?_ (by assumption))))
set_option maxHeartbeats 400000 in
theorem rright_bad (w : World) :
    Calls Try.prog 13 #[.agg #[.bool (true), .int .u64 (dg (0) 0), .int .u64 (dg (0) 1), .int .u64 (dg (0) 2), .int .u64 (dg (0) 3)]] w fun e w' => e = .returned (.bool false) ∧ Below w.heap.size w w' := by
  simp only [dg_zero]
  go_enter Try.func13, Try.ntmps13
  go_wp2
  go_ret
  refine ⟨rfl, ?_⟩
  focus (repeat (first | (with_reducible exact Below.refl _ _) | (with_reducible assumption) | ((with_reducible refine Below.setCell ?_ ?_ _); rotate_left; (focus (first | omega | (simp; done) | (simp; omega)))) | ((with_reducible refine Below.alloc ?_ ?_ _); rotate_left; (focus (first | omega | (simp; done) | (simp; omega)))) | (with_reducible refine Below.drew ?_) | (refine below_on ?_ (by assumption))))
end Go.Proofs.Yteibcklcegkbcaa
