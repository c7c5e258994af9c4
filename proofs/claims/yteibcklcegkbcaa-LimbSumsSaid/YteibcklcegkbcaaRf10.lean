/-
  Walks of the references: less. Conditions stand in each theorem.
-/
import Derived.Test.YteibcklcegkbcaaRf9
namespace Go.Proofs.Yteibcklcegkbcaa
open Go.RowKit Go.BigFrame

/-- What is borrowed at digit i, to the base 65536. -/
def bor16 (a b i : Nat) : Nat := if a % 65536 ^ i < b % 65536 ^ i then 1 else 0
theorem bor16_zero (a b : Nat) : bor16 a b 0 = 0 := by simp [bor16, Nat.mod_one]
theorem bor16_le (a b i : Nat) : bor16 a b i ≤ 1 := by unfold bor16; split <;> omega
theorem less_div (a b P : Nat) (hP : 0 < P) (h : b ≤ a) : (a - b) / P = a / P - b / P - (if a % P < b % P then 1 else 0) ∧ b / P + (if a % P < b % P then 1 else 0) ≤ a / P := by
  have ha := Nat.div_add_mod a P
  have hb := Nat.div_add_mod b P
  have h1 := Nat.mod_lt a hP
  have h2 := Nat.mod_lt b hP
  have hle : b / P ≤ a / P := Nat.div_le_div_right h
  obtain ⟨k, hk⟩ : ∃ k, a / P = b / P + k := ⟨a / P - b / P, by omega⟩
  rw [hk, Nat.mul_add] at ha
  by_cases hc : a % P < b % P
  · rw [if_pos hc]
    have hk1 : k ≠ 0 := by rintro rfl; omega
    obtain ⟨j, rfl⟩ : ∃ j, k = j + 1 := ⟨k - 1, by omega⟩
    rw [Nat.mul_add] at ha
    have h3 := ((Nat.div_mod_unique hP (a := a - b) (c := P + a % P - b % P) (d := j)).2 ⟨by omega, by omega⟩).1
    rw [h3, hk]
    omega
  · rw [if_neg hc]
    have h3 := ((Nat.div_mod_unique hP (a := a - b) (c := a % P - b % P) (d := k)).2 ⟨by omega, by omega⟩).1
    rw [h3, hk]
    omega
theorem d16_sub (a b i : Nat) (h : b ≤ a) : (0 ≤ d16 a i - d16 b i - bor16 a b i → d16 (a - b) i = d16 a i - d16 b i - bor16 a b i ∧ bor16 a b (i + 1) = 0) ∧
    (d16 a i - d16 b i - bor16 a b i < 0 → d16 (a - b) i = d16 a i - d16 b i - bor16 a b i + 65536 ∧ bor16 a b (i + 1) = 1) := by
  have hP : 0 < 65536 ^ i := Nat.pow_pos (by decide)
  obtain ⟨h1, h2⟩ := less_div a b (65536 ^ i) hP h
  have e : bor16 a b (i + 1) = if a / 65536 ^ i % 65536 < b / 65536 ^ i % 65536 + bor16 a b i then 1 else 0 := by
    unfold bor16
    rw [Nat.pow_succ, mod_step a, mod_step b]
    have r1 := Nat.mod_lt a hP
    have r2 := Nat.mod_lt b hP
    generalize a / 65536 ^ i % 65536 = da
    generalize b / 65536 ^ i % 65536 = db
    generalize 65536 ^ i = P at *
    rcases Nat.lt_trichotomy da db with hl | hl | hl
    · obtain ⟨k, rfl⟩ : ∃ k, db = da + 1 + k := ⟨db - da - 1, by omega⟩
      rw [Nat.mul_add, Nat.mul_add]
      have : P * 1 = P := Nat.mul_one P
      rw [if_pos (by omega), if_pos (by omega)]
    · subst hl
      by_cases hc : a % P < b % P
      · rw [if_pos hc, if_pos (by omega), if_pos (by omega)]
      · rw [if_neg hc, if_neg (by omega), if_neg (by omega)]
    · obtain ⟨k, rfl⟩ : ∃ k, da = db + 1 + k := ⟨da - db - 1, by omega⟩
      rw [Nat.mul_add, Nat.mul_add]
      have : P * 1 = P := Nat.mul_one P
      rw [if_neg (by omega), if_neg (by split <;> omega)]
  have hb := bor16_le a b i
  have h1' : (a - b) / 65536 ^ i = a / 65536 ^ i - b / 65536 ^ i - bor16 a b i := h1
  have h2' : b / 65536 ^ i + bor16 a b i ≤ a / 65536 ^ i := h2
  rw [e]
  unfold d16
  rw [h1']
  generalize bor16 a b i = c at *
  generalize a / 65536 ^ i = qa at *
  generalize b / 65536 ^ i = qb at *
  constructor
  · intro h3
    rw [if_neg (by omega)]
    omega
  · intro h3
    rw [if_pos (by omega)]
    omega
theorem rat_d (n i : Nat) (y : Int) (hy : d16 n i = y) (A : Option Addr) (c : Nat) (hc : (dd n).length ≤ c) (w : World) (h : DigAt w A (dd n)) :
    Calls Try.prog 65 #[.slice A (dd n).length c, .int .i64 i] w fun e w' => e = .returned (.int .i64 y) ∧ w = w' := by
  have h1 := rat_any A c (dd n) i hc w h
  rw [dd_getD, hy] at h1
  exact h1
set_option maxHeartbeats 1000000 in
theorem rless_any (m n : Nat) (hmn : n ≤ m) (A B : Option Addr) (c d : Nat) (hc : (dd m).length ≤ c) (hd : (dd n).length ≤ d) (hm : (dd m).length ≤ 1000) (hn : (dd n).length ≤ 1000) (w : World) (h1 : DigAt w A (dd m)) (h2 : DigAt w B (dd n)) :
    Calls Try.prog 55 #[.slice A (dd m).length c, .slice B (dd n).length d] w fun e w' => ∃ v, e = .returned v ∧ Sl w.heap.size v (m - n) w' ∧ Below w.heap.size w w' := by
  have H1 := Hd.mk h1
  have H2 := Hd.mk h2
  clear h1 h2
  obtain ⟨i0, hi, hz0, hz1, hz2⟩ := info_parts infoLong
  have hu : Try.prog.underlying 36 = some (.slice 2) := by kernel_rfl
  obtain ⟨K, hK⟩ : ∃ K : Nat, (dd m).length = K := ⟨_, rfl⟩
  have HK := Hd.mk hK
  rw [hK] at hc hm ⊢
  clear hK
  go_enter Try.func55, Try.ntmps55
  go_wp2_with (at_make; refine wpList_make_own _ rfl _ _ 36 rfl w.heap.size 2 i0 (.int .i64 0) 1 hu hi hz0 hz1 _ _ _ K rfl rfl rfl (by rw [hz2]; omega) (by unfold maxLen; omega) (Nat.le_refl _) ?_)
  intro w1 hown hgrow
  have hB : Below w.heap.size w w1 := below_grown hgrow (fun k hk => by cases hk) (Nat.le_refl _)
  clear hgrow
  go_wp2
  go_loopw [5, 6, 7] (fun v cv iv wr => ∃ i : Nat, i ≤ K ∧ iv = .int .i64 i ∧ cv = .int .i64 (bor16 m n i) ∧ wr.ownsRow w.heap.size 2 1 v i (longV (digs16 (m - n) i)) ∧ Below w.heap.size w wr) (fun _ _ iv _ => K - (intOf iv).toNat)
  case atStart => exact ⟨0, by omega, rfl, by rw [bor16_zero]; rfl, hown, hB⟩
  case round =>
    clear hown hB
    obtain ⟨i, hil, rfl, rfl, hown, hB⟩ := hrel
    by_cases hlt : i < K
    · have hd1 : decide (i < K) = true := by simpa using hlt
      obtain ⟨g, off, rfl, hcell⟩ := (H1.out.below hB).2 (by rw [HK.out]; omega)
      obtain ⟨x', hx'⟩ : ∃ x, (dd m)[i]? = some x := ⟨_, List.getElem?_eq_getElem (by rw [HK.out]; omega)⟩
      have g1 := hcell i x' hx'
      have l1 := World.block_lt_of_cell? _ _ g1
      have hxd := dd_get i m x' hx'
      obtain ⟨hS1, hS2⟩ := d16_sub m n i hmn
      have hc1 := bor16_le m n i
      rw [← hxd] at hS1 hS2
      have x1 := dd_range m x' (List.mem_of_getElem? hx')
      obtain ⟨x, rfl⟩ := Int.eq_ofNat_of_zero_le x1.1
      have x1 := x1.2
      have y1 := d16_lt n i
      obtain ⟨y, hy⟩ := Int.eq_ofNat_of_zero_le (d16_nonneg n i)
      rw [hy] at y1 hS1 hS2
      obtain ⟨C, hC⟩ : ∃ C, C = bor16 m n i := ⟨_, rfl⟩
      rw [← hC] at hc1 hS1 hS2 ⊢
      have HY := Hd.mk hy
      clear hy hC hcell hx' hxd
      by_cases hneg : (x : Int) - y - C < 0
      · have HS := Hd.mk (hS2 hneg)
        have hd2 : decide ((x : Int) - y - C < 0) = true := by simpa using hneg
        clear hS1 hS2 hneg
        go_wp2
        refine region_mix 10 (by kernel_rfl) (by kernel_rfl) (fun _ _ _ _ h => h) fun X _ mk hmk hcl => ?_
        have c1 := fun x => ((hmk x).cell l1).trans g1
        simp only [List.take_succ_cons, List.take_zero, List.drop_succ_cons, List.drop_zero]
        repeat (go_big_quiet_step ((go_at_call 65; exact (rat_d n i _ HY.out B d hd _ ((H2.out.below hB).below (hmk _))).mono fun e w' ⟨he, hw⟩ => ⟨he, _, hw.symm⟩)))
        refine wpQuiet_nil ?_
        rintro _ ⟨x, rfl⟩
        have hw1 := hmk x
        clear hcl hmk c1
        generalize mk x = W1 at hw1
        have hown := own_below hown hw1
        have hB := below_on hB hw1
        go_wp2_with (at_builtin; refine wpList_append_own_at _ rfl (.tmp 32) (.tmp 34) 36 rfl w.heap.size 2 i0 (.int .i64 0) 1 8 hu hi hz0 hz1 hz2 rfl (by decide) _ i _ rfl (hown.alloc _) ⟨W1.heap.size, 0, none⟩ 1 1 [_] rfl rfl (cell_one_new _ _ _) ?c2 ?b1 ?b2 ?b3 ?go)
        case c2 => intro u hu; simp at hu; subst hu; rfl
        case b1 => unfold maxLen; omega
        case b2 => omega
        case b3 => have := hB.size; simp; omega
        case go =>
          intro v' w1 hown' hgrow _ hat
          have hr : ∀ k, u5.ownBlock = some k → w.heap.size ≤ k := fun k hk => own_ge hown hk
          have hb : Below w.heap.size w w1 := (Below.alloc hB (by have := hB.size; omega) _).trans (below_grown hgrow (fun k hk => hr k hk) (by have := hB.size; simp; omega))
          have HO := Hd.mk hown'
          clear hown hown' hgrow hat hr hB hi hz0 hz1 hz2 hu
          go_wp2
          go_roundw
          case rel =>
            refine ⟨i + 1, by omega, by go_num, by rw [HS.out.2]; rfl, ?_, hb⟩
            rw [digs16_succ]
            unfold longV
            rw [List.map_append, HS.out.1]
            exact HO.out
          case measure => simp [intOf]; omega
      · have HS := Hd.mk (hS1 (by omega))
        have hd2 : decide ((x : Int) - y - C < 0) = false := by simpa using hneg
        clear hS1 hS2 hneg
        go_wp2
        refine region_mix 10 (by kernel_rfl) (by kernel_rfl) (fun _ _ _ _ h => h) fun X _ mk hmk hcl => ?_
        have c1 := fun x => ((hmk x).cell l1).trans g1
        simp only [List.take_succ_cons, List.take_zero, List.drop_succ_cons, List.drop_zero]
        repeat (go_big_quiet_step ((go_at_call 65; exact (rat_d n i _ HY.out B d hd _ ((H2.out.below hB).below (hmk _))).mono fun e w' ⟨he, hw⟩ => ⟨he, _, hw.symm⟩)))
        refine wpQuiet_nil ?_
        rintro _ ⟨x, rfl⟩
        have hw1 := hmk x
        clear hcl hmk c1
        generalize mk x = W1 at hw1
        have hown := own_below hown hw1
        have hB := below_on hB hw1
        go_wp2_with (at_builtin; refine wpList_append_own_at _ rfl (.tmp 32) (.tmp 34) 36 rfl w.heap.size 2 i0 (.int .i64 0) 1 8 hu hi hz0 hz1 hz2 rfl (by decide) _ i _ rfl (hown.alloc _) ⟨W1.heap.size, 0, none⟩ 1 1 [_] rfl rfl (cell_one_new _ _ _) ?c2 ?b1 ?b2 ?b3 ?go)
        case c2 => intro u hu; simp at hu; subst hu; rfl
        case b1 => unfold maxLen; omega
        case b2 => omega
        case b3 => have := hB.size; simp; omega
        case go =>
          intro v' w1 hown' hgrow _ hat
          have hr : ∀ k, u5.ownBlock = some k → w.heap.size ≤ k := fun k hk => own_ge hown hk
          have hb : Below w.heap.size w w1 := (Below.alloc hB (by have := hB.size; omega) _).trans (below_grown hgrow (fun k hk => hr k hk) (by have := hB.size; simp; omega))
          have HO := Hd.mk hown'
          clear hown hown' hgrow hat hr hB hi hz0 hz1 hz2 hu
          go_wp2
          go_roundw
          case rel =>
            refine ⟨i + 1, by omega, by go_num, by rw [HS.out.2]; rfl, ?_, hb⟩
            rw [digs16_succ]
            unfold longV
            rw [List.map_append, HS.out.1]
            exact HO.out
          case measure => simp [intOf]; omega
    · obtain rfl : i = K := by omega
      have hd1 : decide (i < i) = false := by simp
      obtain ⟨A1, c1, rfl, hc1, hD, hbase⟩ := dig_of_own2 hown (by omega)
      have hv : val (digs16 (m - n) i) = m - n := by
        have h1 := (dd_len i m).1 (by rw [HK.out]; exact Nat.le_refl _)
        rw [val_digs16, Nat.mod_eq_of_lt]
        omega
      have HV := Hd.mk hv
      have HB := Hd.mk hB
      clear hown hB hv
      go_wp2_with fail
      refine (cut_any A1 c1 _ hc1 _ hD).mono ?_
      rintro e w2 ⟨⟨A2, rfl, hA2⟩, rfl⟩
      have HS := Hd.mk (sl_cut hD (digs16_dg _ _) HV.out hc1 hA2 hbase)
      clear hA2
      go_wp2
      go_ret
      exact ⟨_, rfl, HS.out, HB.out⟩
end Go.Proofs.Yteibcklcegkbcaa
