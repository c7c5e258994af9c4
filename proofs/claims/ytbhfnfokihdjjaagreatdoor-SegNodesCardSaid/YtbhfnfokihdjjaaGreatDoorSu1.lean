/-
  The walk of the law package's steps. Conditions stand in each theorem.
-/
import Derived.OwnWalk
import Derived.Test.YtbhfnfokihdjjaaGreatDoorWd7
namespace Go.Proofs.YtbhfnfokihdjjaaGreatDoor
open Go.RowKit Go.BigFrame

set_option maxHeartbeats 400000 in
theorem rat_any (A : Option Addr) (c : Nat) (ds : List Int) (i : Nat) (_hc : ds.length ≤ c) (w : World) (h : DigAt w A ds) :
    Calls Tryz.prog 122 #[.slice A ds.length c, .int .i64 i] w fun e w' => e = .returned (.int .i64 (ds.getD i 0)) ∧ w = w' := by
  have hl := h.1
  have HH := Hd.mk h
  clear h
  by_cases hi : i < ds.length
  · obtain ⟨b, off, rfl, hcell⟩ := HH.out.2 (by omega)
    obtain ⟨x, hx⟩ : ∃ x, ds[i]? = some x := ⟨_, List.getElem?_eq_getElem hi⟩
    have e0 := hcell i x hx
    have HV : Hd (ds.getD i 0 = x) := ⟨by simp [List.getD, hx]⟩
    have hd1 : decide (i < ds.length) = true := by simpa using hi
    clear hcell hx
    go_enter Tryz.func122, Tryz.ntmps122
    go_wp2
    go_ret
    exact ⟨by rw [HV.out]; rfl, rfl⟩
  · have HV : Hd (ds.getD i 0 = 0) := ⟨by simp [List.getD, List.getElem?_eq_none (Nat.le_of_not_lt hi)]⟩
    have hd1 : decide (i < ds.length) = false := by simpa using hi
    clear hi
    go_enter Tryz.func122, Tryz.ntmps122
    go_wp2
    go_ret
    exact ⟨by rw [HV.out]; rfl, rfl⟩
theorem d16_high {n i : Nat} (h : n < 65536 ^ i) : d16 n i = 0 := by
  unfold d16; rw [Nat.div_eq_of_lt h]; rfl
theorem dd_getD (n i : Nat) : (dd n).getD i 0 = d16 n i := by
  by_cases h : i < (dd n).length
  · have h1 : (dd n)[i]? = some (dd n)[i] := List.getElem?_eq_getElem h
    rw [List.getD_eq_getElem?_getD, h1]
    exact dd_get i n _ h1
  · rw [List.getD_eq_getElem?_getD, List.getElem?_eq_none (Nat.le_of_not_lt h)]
    exact (d16_high ((dd_len _ _).1 (Nat.le_of_not_lt h))).symm
/-- What is carried into digit i, to the base 65536. -/
def car16 (a b i : Nat) : Nat := (a % 65536 ^ i + b % 65536 ^ i) / 65536 ^ i
theorem car16_zero (a b : Nat) : car16 a b 0 = 0 := by simp [car16, Nat.mod_one]
theorem car16_le (a b i : Nat) : car16 a b i ≤ 1 := by
  unfold car16
  have hp : 0 < 65536 ^ i := Nat.pow_pos (by decide)
  have h1 := Nat.mod_lt a hp
  have h2 := Nat.mod_lt b hp
  apply Nat.le_of_lt_succ
  rw [Nat.div_lt_iff_lt_mul hp]
  omega
theorem d16_nonneg (n i : Nat) : 0 ≤ d16 n i := by unfold d16; omega
theorem d16_lt (n i : Nat) : d16 n i < 65536 := by unfold d16; omega
theorem d16_add (a b i : Nat) : (d16 a i + d16 b i + car16 a b i) % 65536 = d16 (a + b) i ∧ (d16 a i + d16 b i + car16 a b i) / 65536 = car16 a b (i + 1) := by
  have hp : 0 < 65536 ^ i := Nat.pow_pos (by decide)
  have h1 : (a / 65536 ^ i % 65536 + b / 65536 ^ i % 65536 + car16 a b i) % 65536 = (a + b) / 65536 ^ i % 65536 := by
    rw [sum_div a b (65536 ^ i)]
    show _ = (a / 65536 ^ i + b / 65536 ^ i + car16 a b i) % 65536
    omega
  have h2 : (a / 65536 ^ i % 65536 + b / 65536 ^ i % 65536 + car16 a b i) / 65536 = car16 a b (i + 1) := by
    unfold car16
    rw [Nat.pow_succ, mod_step a, mod_step b, ← Nat.div_div_eq_div_mul]
    congr 1
    have : 65536 ^ i * (a / 65536 ^ i % 65536) + a % 65536 ^ i + (65536 ^ i * (b / 65536 ^ i % 65536) + b % 65536 ^ i) =
      (a % 65536 ^ i + b % 65536 ^ i) + 65536 ^ i * (a / 65536 ^ i % 65536 + b / 65536 ^ i % 65536) := by rw [Nat.mul_add]; omega
    rw [this, Nat.add_mul_div_left _ _ hp]
    omega
  unfold d16
  rw [← h1, ← h2]
  omega
/-- A slice of the digits of n, of which the first block is at least base. -/
def Sl (base : Nat) (v : Value) (n : Nat) (W : World) : Prop :=
  ∃ (A : Option Addr) (c : Nat), v = .slice A (dd n).length c ∧ (dd n).length ≤ c ∧ DigAt W A (dd n) ∧ (0 < (dd n).length → ∀ a, A = some a → base ≤ a.block)
theorem sl_cut {W : World} {A A' : Option Addr} {c : Nat} {ds : List Int} {n base : Nat} (h : DigAt W A ds) (hg : Dg ds) (hv : val ds = n) (hc : ds.length ≤ c) (hA : 0 < (strip ds).length → A' = A) (hb : ∀ a, A = some a → base ≤ a.block) :
    Sl base (.slice A' (strip ds).length c) n W := by
  have h1 := strip_dd ds hg
  have h2 := h.strip hA
  have h3 := strip_length ds
  have h4 := keepN_le ds ds.length
  rw [hv] at h1
  rw [h1] at h2 h3 hA ⊢
  exact ⟨A', c, rfl, by omega, h2, fun h0 a ha => hb a (by rw [← hA h0]; exact ha)⟩
theorem dig_of_own2 {W : World} {base n : Nat} {v : Value} {ds : List Int} (h : W.ownsRow base 2 1 v n (ds.map (Value.int .i64))) (hn : n ≤ 1000000) :
    ∃ A c, v = .slice A ds.length c ∧ ds.length ≤ c ∧ DigAt W A ds ∧ ∀ a, A = some a → base ≤ a.block := by
  have hl : ds.length = n := by have := h.1; simpa using this
  rcases h.2 with ⟨rfl, rfl⟩ | ⟨g, cap, cur, rfl, hg, hb, hc, _, hs, ht⟩
  · exact ⟨none, 0, by rw [hl], by omega, ⟨by omega, fun h0 => by omega⟩, fun a h => by cases h⟩
  · refine ⟨some ⟨g, 0, none⟩, cap, by rw [hl], by omega, ⟨by omega, fun _ => ⟨g, 0, rfl, fun k x hk => ?_⟩⟩, fun a ha => by cases ha; exact hg⟩
    have h1 : k < ds.length := (List.getElem?_eq_some_iff.1 hk).1
    have h2 : (cur.toList.take (n * 1))[k]? = (ds.map (Value.int .i64))[k]? := by rw [ht]
    rw [List.getElem?_take, if_pos (by omega), Array.getElem?_toList, List.getElem?_map, hk] at h2
    rw [cell_at hb, Nat.zero_add, h2]
    rfl
set_option maxHeartbeats 1000000 in
theorem rplus_any (m n : Nat) (A B : Option Addr) (c d : Nat) (hc : (dd m).length ≤ c) (hd : (dd n).length ≤ d) (hm : (dd m).length ≤ 1000) (hn : (dd n).length ≤ 1000) (w : World) (h1 : DigAt w A (dd m)) (h2 : DigAt w B (dd n)) :
    Calls Tryz.prog 103 #[.slice A (dd m).length c, .slice B (dd n).length d] w fun e w' => ∃ v, e = .returned v ∧ Sl w.heap.size v (m + n) w' ∧ Below w.heap.size w w' := by
  have H1 := Hd.mk h1
  have H2 := Hd.mk h2
  clear h1 h2
  obtain ⟨i0, hi, hz0, hz1, hz2⟩ := info_parts infoLong
  have hu : Tryz.prog.underlying 51 = some (.slice 2) := by kernel_rfl
  obtain ⟨K, hK⟩ : ∃ K : Nat, K = (if (dd m).length < (dd n).length then (dd n).length else (dd m).length) := ⟨_, rfl⟩
  have hKi : (if (dd m).length < (dd n).length then ((dd n).length : Int) else ((dd m).length : Int)) = K := by rw [hK]; split <;> rfl
  have hK1 : K ≤ 1000 := by rw [hK]; split <;> omega
  have hKm : (dd m).length ≤ K := by rw [hK]; split <;> omega
  have hKn : (dd n).length ≤ K := by rw [hK]; split <;> omega
  clear hK
  go_enter Tryz.func103, Tryz.ntmps103
  go_wp2_with (at_make; refine wpList_make_own _ rfl _ _ 51 rfl w.heap.size 2 i0 (.int .i64 0) 1 hu hi hz0 hz1 _ _ _ (K + 1) rfl rfl (by omega) (by rw [hz2]; omega) (by unfold maxLen; omega) (Nat.le_refl _) ?_)
  intro w1 hown hgrow
  have hB : Below w.heap.size w w1 := below_grown hgrow (fun k hk => by cases hk) (Nat.le_refl _)
  clear hgrow
  go_wp2
  go_loopw [5, 6, 7] (fun v cv iv wr => ∃ i : Nat, i ≤ K + 1 ∧ iv = .int .i64 i ∧ cv = .int .i64 (car16 m n i) ∧ wr.ownsRow w.heap.size 2 1 v i (longV (digs16 (m + n) i)) ∧ Below w.heap.size w wr) (fun _ _ iv _ => K + 1 - (intOf iv).toNat)
  case atStart => exact ⟨0, by omega, rfl, by rw [car16_zero]; rfl, hown, hB⟩
  case round =>
    clear hown hB
    obtain ⟨i, hil, rfl, rfl, hown, hB⟩ := hrel
    by_cases hlt : i < K + 1
    · have hd1 : decide ((i : Int) < (K : Int) + 1) = true := by simp; omega
      go_wp2_with fail
      refine (rat_any A c (dd m) i hc _ (H1.out.below hB)).mono ?_
      rintro e w2 ⟨rfl, rfl⟩
      rw [dd_getD]
      go_wp2_with fail
      refine (rat_any B d (dd n) i hd _ (H2.out.below hB)).mono ?_
      rintro e w2 ⟨rfl, rfl⟩
      rw [dd_getD]
      obtain ⟨hS1, hS2⟩ := d16_add m n i
      have hc1 := car16_le m n i
      have x1 := d16_lt m i
      have y1 := d16_lt n i
      obtain ⟨x, hx⟩ := Int.eq_ofNat_of_zero_le (d16_nonneg m i)
      obtain ⟨y, hy⟩ := Int.eq_ofNat_of_zero_le (d16_nonneg n i)
      rw [hx] at x1 hS1 hS2 ⊢
      rw [hy] at y1 hS1 hS2 ⊢
      obtain ⟨C, hC⟩ : ∃ C, C = car16 m n i := ⟨_, rfl⟩
      rw [← hC] at hc1 hS1 hS2 ⊢
      have HS1 := Hd.mk hS1
      have HS2 := Hd.mk hS2
      clear hx hy hC hS1 hS2
      go_wp2_with (at_builtin; refine wpList_append_own_at _ rfl (.tmp 35) (.tmp 38) 51 rfl w.heap.size 2 i0 (.int .i64 0) 1 8 hu hi hz0 hz1 hz2 rfl (by decide) _ i _ rfl (hown.alloc _) ⟨wr.heap.size, 0, none⟩ 1 1 [_] rfl rfl (cell_one_new _ _ _) ?c2 ?b1 ?b2 ?b3 ?go)
      case c2 => intro u hu; simp at hu; subst hu; rfl
      case b1 => unfold maxLen; omega
      case b2 => omega
      case b3 => have := hB.size; simp; omega
      case go =>
        intro v' w1 hown' hgrow _ hat
        have hr : ∀ k, u5.ownBlock = some k → w.heap.size ≤ k := fun k hk => own_ge hown hk
        have hb : Below w.heap.size w w1 := (Below.alloc hB (by have := hB.size; omega) _).trans (below_grown hgrow (fun k hk => hr k hk) (by have := hB.size; simp; omega))
        have HO := Hd.mk hown'
        clear hown hown' hgrow hat hr hB hi hz0 hz1 hz2 hu
        go_wp2
        go_roundw
        case rel =>
          refine ⟨i + 1, by omega, by go_num, by rw [HS2.out], ?_, hb⟩
          rw [digs16_succ]
          unfold longV
          rw [List.map_append, ← HS1.out]
          exact HO.out
        case measure => simp [intOf]; omega
    · obtain rfl : i = K + 1 := by omega
      have hd1 : decide (((K + 1 : Nat) : Int) < (K : Int) + 1) = false := by simp
      obtain ⟨A1, c1, rfl, hc1, hD, hbase⟩ := dig_of_own2 hown (by omega)
      have hv : val (digs16 (m + n) (K + 1)) = m + n := by
        have h1 := (dd_len K m).1 hKm
        have h2 := (dd_len K n).1 hKn
        have h3 : 65536 ^ (K + 1) = 65536 ^ K * 65536 := Nat.pow_succ ..
        rw [val_digs16, Nat.mod_eq_of_lt]
        omega
      have HV := Hd.mk hv
      have HB := Hd.mk hB
      clear hown hB hv
      go_wp2_with fail
      refine (cut_any A1 c1 _ hc1 _ hD).mono ?_
      rintro e w2 ⟨⟨A2, rfl, hA2⟩, rfl⟩
      have HS := Hd.mk (sl_cut hD (digs16_dg _ _) HV.out hc1 hA2 hbase)
      clear hA2
      go_wp2
      go_ret
      exact ⟨_, rfl, HS.out, HB.out⟩
open Go.RowKit Go.BigFrame

/-- What is borrowed at digit i, to the base 65536. -/
def bor16 (a b i : Nat) : Nat := if a % 65536 ^ i < b % 65536 ^ i then 1 else 0
theorem bor16_zero (a b : Nat) : bor16 a b 0 = 0 := by simp [bor16, Nat.mod_one]
theorem bor16_le (a b i : Nat) : bor16 a b i ≤ 1 := by unfold bor16; split <;> omega
theorem less_div (a b P : Nat) (hP : 0 < P) (h : b ≤ a) : (a - b) / P = a / P - b / P - (if a % P < b % P then 1 else 0) ∧ b / P + (if a % P < b % P then 1 else 0) ≤ a / P := by
  have ha := Nat.div_add_mod a P
  have hb := Nat.div_add_mod b P
  have h1 := Nat.mod_lt a hP
  have h2 := Nat.mod_lt b hP
  have hle : b / P ≤ a / P := Nat.div_le_div_right h
  obtain ⟨k, hk⟩ : ∃ k, a / P = b / P + k := ⟨a / P - b / P, by omega⟩
  rw [hk, Nat.mul_add] at ha
  by_cases hc : a % P < b % P
  · rw [if_pos hc]
    have hk1 : k ≠ 0 := by rintro rfl; omega
    obtain ⟨j, rfl⟩ : ∃ j, k = j + 1 := ⟨k - 1, by omega⟩
    rw [Nat.mul_add] at ha
    have h3 := ((Nat.div_mod_unique hP (a := a - b) (c := P + a % P - b % P) (d := j)).2 ⟨by omega, by omega⟩).1
    rw [h3, hk]
    omega
  · rw [if_neg hc]
    have h3 := ((Nat.div_mod_unique hP (a := a - b) (c := a % P - b % P) (d := k)).2 ⟨by omega, by omega⟩).1
    rw [h3, hk]
    omega
theorem d16_sub (a b i : Nat) (h : b ≤ a) : (0 ≤ d16 a i - d16 b i - bor16 a b i → d16 (a - b) i = d16 a i - d16 b i - bor16 a b i ∧ bor16 a b (i + 1) = 0) ∧
    (d16 a i - d16 b i - bor16 a b i < 0 → d16 (a - b) i = d16 a i - d16 b i - bor16 a b i + 65536 ∧ bor16 a b (i + 1) = 1) := by
  have hP : 0 < 65536 ^ i := Nat.pow_pos (by decide)
  obtain ⟨h1, h2⟩ := less_div a b (65536 ^ i) hP h
  have e : bor16 a b (i + 1) = if a / 65536 ^ i % 65536 < b / 65536 ^ i % 65536 + bor16 a b i then 1 else 0 := by
    unfold bor16
    rw [Nat.pow_succ, mod_step a, mod_step b]
    have r1 := Nat.mod_lt a hP
    have r2 := Nat.mod_lt b hP
    generalize a / 65536 ^ i % 65536 = da
    generalize b / 65536 ^ i % 65536 = db
    generalize 65536 ^ i = P at *
    rcases Nat.lt_trichotomy da db with hl | hl | hl
    · obtain ⟨k, rfl⟩ : ∃ k, db = da + 1 + k := ⟨db - da - 1, by omega⟩
      rw [Nat.mul_add, Nat.mul_add]
      have : P * 1 = P := Nat.mul_one P
      rw [if_pos (by omega), if_pos (by omega)]
    · subst hl
      by_cases hc : a % P < b % P
      · rw [if_pos hc, if_pos (by omega), if_pos (by omega)]
      · rw [if_neg hc, if_neg (by omega), if_neg (by omega)]
    · obtain ⟨k, rfl⟩ : ∃ k, da = db + 1 + k := ⟨da - db - 1, by omega⟩
      rw [Nat.mul_add, Nat.mul_add]
      have : P * 1 = P := Nat.mul_one P
      rw [if_neg (by omega), if_neg (by split <;> omega)]
  have hb := bor16_le a b i
  have h1' : (a - b) / 65536 ^ i = a / 65536 ^ i - b / 65536 ^ i - bor16 a b i := h1
  have h2' : b / 65536 ^ i + bor16 a b i ≤ a / 65536 ^ i := h2
  rw [e]
  unfold d16
  rw [h1']
  generalize bor16 a b i = c at *
  generalize a / 65536 ^ i = qa at *
  generalize b / 65536 ^ i = qb at *
  constructor
  · intro h3
    rw [if_neg (by omega)]
    omega
  · intro h3
    rw [if_pos (by omega)]
    omega
theorem rat_d (n i : Nat) (y : Int) (hy : d16 n i = y) (A : Option Addr) (c : Nat) (hc : (dd n).length ≤ c) (w : World) (h : DigAt w A (dd n)) :
    Calls Tryz.prog 122 #[.slice A (dd n).length c, .int .i64 i] w fun e w' => e = .returned (.int .i64 y) ∧ w = w' := by
  have h1 := rat_any A c (dd n) i hc w h
  rw [dd_getD, hy] at h1
  exact h1
set_option maxHeartbeats 1000000 in
theorem rless_any (m n : Nat) (hmn : n ≤ m) (A B : Option Addr) (c d : Nat) (hc : (dd m).length ≤ c) (hd : (dd n).length ≤ d) (hm : (dd m).length ≤ 1000) (_hn : (dd n).length ≤ 1000) (w : World) (h1 : DigAt w A (dd m)) (h2 : DigAt w B (dd n)) :
    Calls Tryz.prog 105 #[.slice A (dd m).length c, .slice B (dd n).length d] w fun e w' => ∃ v, e = .returned v ∧ Sl w.heap.size v (m - n) w' ∧ Below w.heap.size w w' := by
  have H1 := Hd.mk h1
  have H2 := Hd.mk h2
  clear h1 h2
  obtain ⟨i0, hi, hz0, hz1, hz2⟩ := info_parts infoLong
  have hu : Tryz.prog.underlying 51 = some (.slice 2) := by kernel_rfl
  obtain ⟨K, hK⟩ : ∃ K : Nat, (dd m).length = K := ⟨_, rfl⟩
  have HK := Hd.mk hK
  rw [hK] at hc hm ⊢
  clear hK
  go_enter Tryz.func105, Tryz.ntmps105
  go_wp2_with (at_make; refine wpList_make_own _ rfl _ _ 51 rfl w.heap.size 2 i0 (.int .i64 0) 1 hu hi hz0 hz1 _ _ _ K rfl rfl rfl (by rw [hz2]; omega) (by unfold maxLen; omega) (Nat.le_refl _) ?_)
  intro w1 hown hgrow
  have hB : Below w.heap.size w w1 := below_grown hgrow (fun k hk => by cases hk) (Nat.le_refl _)
  clear hgrow
  go_wp2
  go_loopw [5, 6, 7] (fun v cv iv wr => ∃ i : Nat, i ≤ K ∧ iv = .int .i64 i ∧ cv = .int .i64 (bor16 m n i) ∧ wr.ownsRow w.heap.size 2 1 v i (longV (digs16 (m - n) i)) ∧ Below w.heap.size w wr) (fun _ _ iv _ => K - (intOf iv).toNat)
  case atStart => exact ⟨0, by omega, rfl, by rw [bor16_zero]; rfl, hown, hB⟩
  case round =>
    clear hown hB
    obtain ⟨i, hil, rfl, rfl, hown, hB⟩ := hrel
    by_cases hlt : i < K
    · have hd1 : decide (i < K) = true := by simpa using hlt
      obtain ⟨g, off, rfl, hcell⟩ := (H1.out.below hB).2 (by rw [HK.out]; omega)
      obtain ⟨x', hx'⟩ : ∃ x, (dd m)[i]? = some x := ⟨_, List.getElem?_eq_getElem (by rw [HK.out]; omega)⟩
      have g1 := hcell i x' hx'
      have l1 := World.block_lt_of_cell? _ _ g1
      have hxd := dd_get i m x' hx'
      obtain ⟨hS1, hS2⟩ := d16_sub m n i hmn
      have hc1 := bor16_le m n i
      rw [← hxd] at hS1 hS2
      have x1 := dd_range m x' (List.mem_of_getElem? hx')
      obtain ⟨x, rfl⟩ := Int.eq_ofNat_of_zero_le x1.1
      have x1 := x1.2
      have y1 := d16_lt n i
      obtain ⟨y, hy⟩ := Int.eq_ofNat_of_zero_le (d16_nonneg n i)
      rw [hy] at y1 hS1 hS2
      obtain ⟨C, hC⟩ : ∃ C, C = bor16 m n i := ⟨_, rfl⟩
      rw [← hC] at hc1 hS1 hS2 ⊢
      have HY := Hd.mk hy
      clear hy hC hcell hx' hxd
      by_cases hneg : (x : Int) - y - C < 0
      · have HS := Hd.mk (hS2 hneg)
        have hd2 : decide ((x : Int) - y - C < 0) = true := by simpa using hneg
        clear hS1 hS2 hneg
        go_wp2
        refine region_mix 10 (by kernel_rfl) (by kernel_rfl) (fun _ _ _ _ h => h) fun X _ mk hmk hcl => ?_
        have c1 := fun x => ((hmk x).cell l1).trans g1
        simp only [List.take_succ_cons, List.take_zero, List.drop_succ_cons, List.drop_zero]
        repeat (go_big_quiet_step ((go_at_call 122; exact (rat_d n i _ HY.out B d hd _ ((H2.out.below hB).below (hmk _))).mono fun e w' ⟨he, hw⟩ => ⟨he, _, hw.symm⟩)))
        refine wpQuiet_nil ?_
        rintro _ ⟨x, rfl⟩
        have hw1 := hmk x
        clear hcl hmk c1
        generalize mk x = W1 at hw1
        have hown := own_below hown hw1
        have hB := below_on hB hw1
        go_wp2_with (at_builtin; refine wpList_append_own_at _ rfl (.tmp 32) (.tmp 34) 51 rfl w.heap.size 2 i0 (.int .i64 0) 1 8 hu hi hz0 hz1 hz2 rfl (by decide) _ i _ rfl (hown.alloc _) ⟨W1.heap.size, 0, none⟩ 1 1 [_] rfl rfl (cell_one_new _ _ _) ?c2 ?b1 ?b2 ?b3 ?go)
        case c2 => intro u hu; simp at hu; subst hu; rfl
        case b1 => unfold maxLen; omega
        case b2 => omega
        case b3 => have := hB.size; simp; omega
        case go =>
          intro v' w1 hown' hgrow _ hat
          have hr : ∀ k, u5.ownBlock = some k → w.heap.size ≤ k := fun k hk => own_ge hown hk
          have hb : Below w.heap.size w w1 := (Below.alloc hB (by have := hB.size; omega) _).trans (below_grown hgrow (fun k hk => hr k hk) (by have := hB.size; simp; omega))
          have HO := Hd.mk hown'
          clear hown hown' hgrow hat hr hB hi hz0 hz1 hz2 hu
          go_wp2
          go_roundw
          case rel =>
            refine ⟨i + 1, by omega, by go_num, by rw [HS.out.2]; rfl, ?_, hb⟩
            rw [digs16_succ]
            unfold longV
            rw [List.map_append, HS.out.1]
            exact HO.out
          case measure => simp [intOf]; omega
      · have HS := Hd.mk (hS1 (by omega))
        have hd2 : decide ((x : Int) - y - C < 0) = false := by simpa using hneg
        clear hS1 hS2 hneg
        go_wp2
        refine region_mix 10 (by kernel_rfl) (by kernel_rfl) (fun _ _ _ _ h => h) fun X _ mk hmk hcl => ?_
        have c1 := fun x => ((hmk x).cell l1).trans g1
        simp only [List.take_succ_cons, List.take_zero, List.drop_succ_cons, List.drop_zero]
        repeat (go_big_quiet_step ((go_at_call 122; exact (rat_d n i _ HY.out B d hd _ ((H2.out.below hB).below (hmk _))).mono fun e w' ⟨he, hw⟩ => ⟨he, _, hw.symm⟩)))
        refine wpQuiet_nil ?_
        rintro _ ⟨x, rfl⟩
        have hw1 := hmk x
        clear hcl hmk c1
        generalize mk x = W1 at hw1
        have hown := own_below hown hw1
        have hB := below_on hB hw1
        go_wp2_with (at_builtin; refine wpList_append_own_at _ rfl (.tmp 32) (.tmp 34) 51 rfl w.heap.size 2 i0 (.int .i64 0) 1 8 hu hi hz0 hz1 hz2 rfl (by decide) _ i _ rfl (hown.alloc _) ⟨W1.heap.size, 0, none⟩ 1 1 [_] rfl rfl (cell_one_new _ _ _) ?c2 ?b1 ?b2 ?b3 ?go)
        case c2 => intro u hu; simp at hu; subst hu; rfl
        case b1 => unfold maxLen; omega
        case b2 => omega
        case b3 => have := hB.size; simp; omega
        case go =>
          intro v' w1 hown' hgrow _ hat
          have hr : ∀ k, u5.ownBlock = some k → w.heap.size ≤ k := fun k hk => own_ge hown hk
          have hb : Below w.heap.size w w1 := (Below.alloc hB (by have := hB.size; omega) _).trans (below_grown hgrow (fun k hk => hr k hk) (by have := hB.size; simp; omega))
          have HO := Hd.mk hown'
          clear hown hown' hgrow hat hr hB hi hz0 hz1 hz2 hu
          go_wp2
          go_roundw
          case rel =>
            refine ⟨i + 1, by omega, by go_num, by rw [HS.out.2]; rfl, ?_, hb⟩
            rw [digs16_succ]
            unfold longV
            rw [List.map_append, HS.out.1]
            exact HO.out
          case measure => simp [intOf]; omega
    · obtain rfl : i = K := by omega
      have hd1 : decide (i < i) = false := by simp
      obtain ⟨A1, c1, rfl, hc1, hD, hbase⟩ := dig_of_own2 hown (by omega)
      have hv : val (digs16 (m - n) i) = m - n := by
        have h1 := (dd_len i m).1 (by rw [HK.out]; exact Nat.le_refl _)
        rw [val_digs16, Nat.mod_eq_of_lt]
        omega
      have HV := Hd.mk hv
      have HB := Hd.mk hB
      clear hown hB hv
      go_wp2_with fail
      refine (cut_any A1 c1 _ hc1 _ hD).mono ?_
      rintro e w2 ⟨⟨A2, rfl, hA2⟩, rfl⟩
      have HS := Hd.mk (sl_cut hD (digs16_dg _ _) HV.out hc1 hA2 hbase)
      clear hA2
      go_wp2
      go_ret
      exact ⟨_, rfl, HS.out, HB.out⟩
end Go.Proofs.YtbhfnfokihdjjaaGreatDoor

namespace Go.Proofs.YtbhfnfokihdjjaaGreatDoor
open Go.RowKit Go.BigFrame

theorem below_up {n : Nat} {w S W1 : World} (hn : n ≤ w.heap.size) (h : Below n w S) (k : Below S.heap.size S W1) : Below n w W1 := h.trans (k.mono (Nat.le_trans hn h.size))
set_option maxHeartbeats 1000000 in
theorem rneg_any (x y : Int) (hy : -x = y) (u : Value) (w : World) (hu : BigAt w u x) :
    Calls Tryz.prog 75 #[u] w fun e w' => ∃ v, e = .returned v ∧ BigAt w' v y ∧ Below w.heap.size w w' := by
  obtain ⟨A, c, rfl, hc, hA⟩ := hu
  have HA := Hd.mk hA
  have HV : Hd (zof (!ng x) (val (dd (ab x))) = y) := ⟨by
    rw [val_of_dd, ← hy]
    unfold zof ng ab
    by_cases h : x < 0 <;> simp [h] <;> omega⟩
  clear hA hy
  go_enter Tryz.func75, Tryz.ntmps75
  go_wp2_with fail
  refine (rof_any (!ng x) A c _ hc (dd_range _) _ (HA.out.below (by focus (repeat (first | (with_reducible exact Below.refl _ _) | (with_reducible assumption) | ((with_reducible refine Below.setCell ?_ ?_ _); rotate_left; (focus (first | omega | (simp; done) | (simp; omega)))) | ((with_reducible refine Below.alloc ?_ ?_ _); rotate_left; (focus (first | omega | (simp; done) | (simp; omega)))) | (with_reducible refine Below.drew ?_) | (refine below_on ?_ (by assumption))))))).mono ?_
  rintro e w2 ⟨v, rfl, hV, hb⟩
  rw [HV.out] at hV
  have hw : Below w.heap.size w w2 := by focus (repeat (first | (with_reducible exact Below.refl _ _) | (with_reducible assumption) | ((with_reducible refine Below.setCell ?_ ?_ _); rotate_left; (focus (first | omega | (simp; done) | (simp; omega)))) | ((with_reducible refine Below.alloc ?_ ?_ _); rotate_left; (focus (first | omega | (simp; done) | (simp; omega)))) | (with_reducible refine Below.drew ?_) | (refine below_on ?_ (by assumption))))
  have z1 := heap_below hb (heap_at (n := w.heap.size + 1) (by simp) _)
  clear hb
  obtain ⟨A', c', rfl, h1, h2⟩ := hV
  have hs2 := lt_of_block z1
  have q1 := cell_at z1
  have q2 := frozen_at z1
  have HD := Hd.mk (h2.laid z1)
  clear h2
  go_wp2
  have z2 := laid_both (w.heap.size + 1) w2 (.bool (ng (y))) (.slice A' (dd (ab (y))).length c') z1 rfl
  have c1 := cell_at z2
  refine bodyPost_ret (by simp [results, Tryz.results75, go_sem, c1]) rfl ⟨_, rfl, ⟨A', c', rfl, h1, HD.out _ _⟩, by focus (repeat (first | (with_reducible exact Below.refl _ _) | (with_reducible assumption) | ((with_reducible refine Below.setCell ?_ ?_ _); rotate_left; (focus (first | omega | (simp; done) | (simp; omega)))) | ((with_reducible refine Below.alloc ?_ ?_ _); rotate_left; (focus (first | omega | (simp; done) | (simp; omega)))) | (with_reducible refine Below.drew ?_) | (refine below_on ?_ (by assumption))))⟩
set_option maxHeartbeats 1000000 in
theorem radd_any (x y : Int) (u v : Value) (hlx : (dd (ab x)).length ≤ 1000) (hly : (dd (ab y)).length ≤ 1000) (w : World) (hu : BigAt w u x) (hv : BigAt w v y) :
    Calls Tryz.prog 93 #[u, v] w fun e w' => ∃ v, e = .returned v ∧ BigAt w' v (x + y) ∧ Below w.heap.size w w' := by
  obtain ⟨A, c, rfl, hc, hA⟩ := hu
  obtain ⟨B, d, rfl, hd, hB⟩ := hv
  have HA := Hd.mk hA
  have HB := Hd.mk hB
  clear hA hB
  by_cases hs : ng x = ng y
  · have hq : (ng x == ng y) = true := by rw [hs]; simp
    have HV : Hd (zof (ng x) (ab x + ab y) = x + y) := ⟨(sum_alike x y hs).2⟩
    clear hs
    go_enter Tryz.func93, Tryz.ntmps93
    go_upto_region 2 with (fail)
    refine abs_wp (fun W => W.heap[w.heap.size]? = some (.cells #[.bool (ng x), .slice A (dd (ab x)).length c] 53 (0, 0)) ∧ W.heap[w.heap.size + 1]? = some (.cells #[.bool (ng y), .slice B (dd (ab y)).length d] 53 (0, 0)) ∧ W.heap[w.heap.size + 1 + 1]? = some (.cells #[.bool false, .slice none 0 0] 53 (0, 0)) ∧ Below w.heap.size w W) ⟨heap_old (heap_old (heap_new _ _) _) _, heap_old (heap_at (by simp) _) _, heap_at (by simp) _, by focus (repeat (first | (with_reducible exact Below.refl _ _) | (with_reducible assumption) | ((with_reducible refine Below.setCell ?_ ?_ _); rotate_left; (focus (first | omega | (simp; done) | (simp; omega)))) | ((with_reducible refine Below.alloc ?_ ?_ _); rotate_left; (focus (first | omega | (simp; done) | (simp; omega)))) | (with_reducible refine Below.drew ?_) | (refine below_on ?_ (by assumption))))⟩ fun W ⟨y0, y1, y2, hB⟩ => ?_
    clear hq
    have HS : Hd (∀ W', Below (w.heap.size + 1 + 1) W W' → (W'.cell? ⟨w.heap.size, 0, none⟩ = some (.bool (ng x)) ∧ W'.cell? ⟨w.heap.size, 1, none⟩ = some (.slice A (dd (ab x)).length c)) ∧ W'.cell? ⟨w.heap.size + 1, 0, none⟩ = some (.bool (ng y)) ∧ W'.cell? ⟨w.heap.size + 1, 1, none⟩ = some (.slice B (dd (ab y)).length d)) :=
      ⟨fun W' h => ⟨⟨(h.cell (show w.heap.size < w.heap.size + 1 + 1 by omega)).trans (cell_at y0 0), (h.cell (show w.heap.size < w.heap.size + 1 + 1 by omega)).trans (cell_at y0 1)⟩, (h.cell (show w.heap.size + 1 < w.heap.size + 1 + 1 by omega)).trans (cell_at y1 0), (h.cell (show w.heap.size + 1 < w.heap.size + 1 + 1 by omega)).trans (cell_at y1 1)⟩⟩
    have hD0 : Below (w.heap.size + 1 + 1) W W.drew := Below.drew (Below.refl _ _)
    have hB0 : Below w.heap.size w W.drew := Below.drew hB
    have z0 : W.drew.heap[w.heap.size + 1 + 1]? = some (.cells #[.bool false, .slice none 0 0] 53 (0, 0)) := y2
    have hsz : w.heap.size + 1 + 1 ≤ W.heap.size := Nat.le_of_lt (lt_of_block y2)
    clear y0 y1 y2 hB
    go_region_held3 (fun W' => (W'.cell? ⟨w.heap.size, 0, none⟩ = some (.bool (ng x)) ∧ W'.cell? ⟨w.heap.size, 1, none⟩ = some (.slice A (dd (ab x)).length c)) ∧ W'.cell? ⟨w.heap.size + 1, 0, none⟩ = some (.bool (ng y)) ∧ W'.cell? ⟨w.heap.size + 1, 1, none⟩ = some (.slice B (dd (ab y)).length d)) ((exact HS.out _ (by focus (repeat (first | (with_reducible exact Below.refl _ _) | (with_reducible assumption) | ((with_reducible refine Below.setCell ?_ ?_ _); rotate_left; (focus (first | omega | (simp; done) | (simp; omega)))) | ((with_reducible refine Below.alloc ?_ ?_ _); rotate_left; (focus (first | omega | (simp; done) | (simp; omega)))) | (with_reducible refine Below.drew ?_) | (refine below_on ?_ (by assumption)))))))
      ((first
        | (go_at_call 103; refine (rplus_any (ab x) (ab y) A B c d hc hd hlx hly _ (HA.out.below hB0) (HB.out.below hB0)).mono ?_; rintro e wa ⟨va, rfl, ⟨A1, c1, rfl, hc1, hD1, _⟩, hb⟩; have hB1 := below_on hB0 hb; have z1 := heap_below hb z0; have hD2 := below_up hsz hD0 hb; clear hb)
        | (go_at_call 100; refine (rof_any (ng x) A1 c1 _ hc1 (dd_range _) _ hD1).mono ?_; rintro e wb ⟨vb, rfl, hV, hb⟩; rw [val_of_dd, HV.out] at hV; obtain ⟨A', c', rfl, h1, h2⟩ := hV; have hB2 := below_on hB1 hb; have z2 := heap_below hb z1; have hD3 := below_up hsz hD2 hb; have q1 := cell_at z2; have q2 := frozen_at z2; clear hb)))
    have h3 := h2.laid z2 (.bool (ng (x + y))) (.slice A' (dd (ab (x + y))).length c')
    have z3 := laid_both (w.heap.size + 1 + 1) wb (.bool (ng (x + y))) (.slice A' (dd (ab (x + y))).length c') z2 rfl
    have HBB : Hd (Below w.heap.size w ((wb.setCell ⟨w.heap.size + 1 + 1, 0, none⟩ (.bool (ng (x + y)))).setCell ⟨w.heap.size + 1 + 1, 1, none⟩ (.slice A' (dd (ab (x + y))).length c'))) := ⟨by focus (repeat (first | (with_reducible exact Below.refl _ _) | (with_reducible assumption) | ((with_reducible refine Below.setCell ?_ ?_ _); rotate_left; (focus (first | omega | (simp; done) | (simp; omega)))) | ((with_reducible refine Below.alloc ?_ ?_ _); rotate_left; (focus (first | omega | (simp; done) | (simp; omega)))) | (with_reducible refine Below.drew ?_) | (refine below_on ?_ (by assumption))))⟩
    clear HS hD0 hB0 z0 hD1 hB1 z1 hD2 q1 q2 hD3 hB2 z2 h2
    generalize (wb.setCell ⟨w.heap.size + 1 + 1, 0, none⟩ (.bool (ng (x + y)))).setCell ⟨w.heap.size + 1 + 1, 1, none⟩ (.slice A' (dd (ab (x + y))).length c') = wz at *
    have HD3 := Hd.mk h3
    have c1 := cell_at z3
    go_wp2
    refine bodyPost_ret (by simp [results, Tryz.results93, go_sem, c1]) rfl ⟨_, rfl, ⟨A', c', rfl, h1, HD3.out⟩, HBB.out⟩
  · have hq : (ng x == ng y) = false := by simpa using hs
    obtain ⟨k1, k2, _⟩ := sum_apart x y hs
    clear hs
    by_cases hle : ab y ≤ ab x
    · have HV : Hd (zof (ng x) (ab x - ab y) = x + y) := ⟨k1 hle⟩
      have hC : decide (cmpN (ab x) (ab y) ≥ 0) = true := by unfold cmpN; rw [if_neg (by omega)]; split <;> rfl
      have HL := Hd.mk hle
      clear k1 k2 hle
      go_enter Tryz.func93, Tryz.ntmps93
      go_wp2_with fail
      refine (rmags_any (ab x) (ab y) A B c d hc hd _ (HA.out.below (by focus (repeat (first | (with_reducible exact Below.refl _ _) | (with_reducible assumption) | ((with_reducible refine Below.setCell ?_ ?_ _); rotate_left; (focus (first | omega | (simp; done) | (simp; omega)))) | ((with_reducible refine Below.alloc ?_ ?_ _); rotate_left; (focus (first | omega | (simp; done) | (simp; omega)))) | (with_reducible refine Below.drew ?_) | (refine below_on ?_ (by assumption)))))) (HB.out.below (by focus (repeat (first | (with_reducible exact Below.refl _ _) | (with_reducible assumption) | ((with_reducible refine Below.setCell ?_ ?_ _); rotate_left; (focus (first | omega | (simp; done) | (simp; omega)))) | ((with_reducible refine Below.alloc ?_ ?_ _); rotate_left; (focus (first | omega | (simp; done) | (simp; omega)))) | (with_reducible refine Below.drew ?_) | (refine below_on ?_ (by assumption))))))).mono ?_
      rintro e W ⟨rfl, hb⟩
      have y0 := heap_below hb (heap_old (heap_old (heap_new w _) _) _)
      have y1 := heap_below hb (heap_old (heap_at (n := w.heap.size + 1) (by simp) _) _)
      have y2 := heap_below hb (heap_at (n := w.heap.size + 1 + 1) (by simp) _)
      have hB : Below w.heap.size w W := by focus (repeat (first | (with_reducible exact Below.refl _ _) | (with_reducible assumption) | ((with_reducible refine Below.setCell ?_ ?_ _); rotate_left; (focus (first | omega | (simp; done) | (simp; omega)))) | ((with_reducible refine Below.alloc ?_ ?_ _); rotate_left; (focus (first | omega | (simp; done) | (simp; omega)))) | (with_reducible refine Below.drew ?_) | (refine below_on ?_ (by assumption))))
      clear hb
      have c0 := cell_at y0
      have c1 := cell_at y1
      go_upto_region 4 with (fail)
      clear hq hC c0 c1
      have HS : Hd (∀ W', Below (w.heap.size + 1 + 1) W W' → (W'.cell? ⟨w.heap.size, 0, none⟩ = some (.bool (ng x)) ∧ W'.cell? ⟨w.heap.size, 1, none⟩ = some (.slice A (dd (ab x)).length c)) ∧ W'.cell? ⟨w.heap.size + 1, 0, none⟩ = some (.bool (ng y)) ∧ W'.cell? ⟨w.heap.size + 1, 1, none⟩ = some (.slice B (dd (ab y)).length d)) :=
        ⟨fun W' h => ⟨⟨(h.cell (show w.heap.size < w.heap.size + 1 + 1 by omega)).trans (cell_at y0 0), (h.cell (show w.heap.size < w.heap.size + 1 + 1 by omega)).trans (cell_at y0 1)⟩, (h.cell (show w.heap.size + 1 < w.heap.size + 1 + 1 by omega)).trans (cell_at y1 0), (h.cell (show w.heap.size + 1 < w.heap.size + 1 + 1 by omega)).trans (cell_at y1 1)⟩⟩
      have hD0 : Below (w.heap.size + 1 + 1) W W.drew := Below.drew (Below.refl _ _)
      have hB0 : Below w.heap.size w W.drew := Below.drew hB
      have z0 : W.drew.heap[w.heap.size + 1 + 1]? = some (.cells #[.bool false, .slice none 0 0] 53 (0, 0)) := y2
      have hsz : w.heap.size + 1 + 1 ≤ W.heap.size := Nat.le_of_lt (lt_of_block y2)
      clear y0 y1 y2 hB
      go_region_held3 (fun W' => (W'.cell? ⟨w.heap.size, 0, none⟩ = some (.bool (ng x)) ∧ W'.cell? ⟨w.heap.size, 1, none⟩ = some (.slice A (dd (ab x)).length c)) ∧ W'.cell? ⟨w.heap.size + 1, 0, none⟩ = some (.bool (ng y)) ∧ W'.cell? ⟨w.heap.size + 1, 1, none⟩ = some (.slice B (dd (ab y)).length d)) ((exact HS.out _ (by focus (repeat (first | (with_reducible exact Below.refl _ _) | (with_reducible assumption) | ((with_reducible refine Below.setCell ?_ ?_ _); rotate_left; (focus (first | omega | (simp; done) | (simp; omega)))) | ((with_reducible refine Below.alloc ?_ ?_ _); rotate_left; (focus (first | omega | (simp; done) | (simp; omega)))) | (with_reducible refine Below.drew ?_) | (refine below_on ?_ (by assumption)))))))
        ((first
          | (go_at_call 105; refine (rless_any (ab x) (ab y) HL.out A B c d hc hd hlx hly _ (HA.out.below hB0) (HB.out.below hB0)).mono ?_; rintro e wa ⟨va, rfl, ⟨A1, c1, rfl, hc1, hD1, _⟩, hb⟩; have hB1 := below_on hB0 hb; have z1 := heap_below hb z0; have hD2 := below_up hsz hD0 hb; clear hb)
          | (go_at_call 100; refine (rof_any (ng x) A1 c1 _ hc1 (dd_range _) _ hD1).mono ?_; rintro e wb ⟨vb, rfl, hV, hb⟩; rw [val_of_dd, HV.out] at hV; obtain ⟨A', c', rfl, h1, h2⟩ := hV; have hB2 := below_on hB1 hb; have z2 := heap_below hb z1; have hD3 := below_up hsz hD2 hb; have q1 := cell_at z2; have q2 := frozen_at z2; clear hb)))
      have h3 := h2.laid z2 (.bool (ng (x + y))) (.slice A' (dd (ab (x + y))).length c')
      have z3 := laid_both (w.heap.size + 1 + 1) wb (.bool (ng (x + y))) (.slice A' (dd (ab (x + y))).length c') z2 rfl
      have HBB : Hd (Below w.heap.size w ((wb.setCell ⟨w.heap.size + 1 + 1, 0, none⟩ (.bool (ng (x + y)))).setCell ⟨w.heap.size + 1 + 1, 1, none⟩ (.slice A' (dd (ab (x + y))).length c'))) := ⟨by focus (repeat (first | (with_reducible exact Below.refl _ _) | (with_reducible assumption) | ((with_reducible refine Below.setCell ?_ ?_ _); rotate_left; (focus (first | omega | (simp; done) | (simp; omega)))) | ((with_reducible refine Below.alloc ?_ ?_ _); rotate_left; (focus (first | omega | (simp; done) | (simp; omega)))) | (with_reducible refine Below.drew ?_) | (refine below_on ?_ (by assumption))))⟩
      clear HS hD0 hB0 z0 hD1 hB1 z1 hD2 q1 q2 hD3 hB2 z2 h2
      generalize (wb.setCell ⟨w.heap.size + 1 + 1, 0, none⟩ (.bool (ng (x + y)))).setCell ⟨w.heap.size + 1 + 1, 1, none⟩ (.slice A' (dd (ab (x + y))).length c') = wz at *
      have HD3 := Hd.mk h3
      have c1 := cell_at z3
      go_wp2
      refine bodyPost_ret (by simp [results, Tryz.results93, go_sem, c1]) rfl ⟨_, rfl, ⟨A', c', rfl, h1, HD3.out⟩, HBB.out⟩
    · have HV : Hd (zof (ng y) (ab y - ab x) = x + y) := ⟨k2 (by omega)⟩
      have hC : decide (cmpN (ab x) (ab y) ≥ 0) = false := by unfold cmpN; rw [if_pos (by omega)]; rfl
      have HL : Hd (ab x ≤ ab y) := ⟨by omega⟩
      clear k1 k2 hle
      go_enter Tryz.func93, Tryz.ntmps93
      go_wp2_with fail
      refine (rmags_any (ab x) (ab y) A B c d hc hd _ (HA.out.below (by focus (repeat (first | (with_reducible exact Below.refl _ _) | (with_reducible assumption) | ((with_reducible refine Below.setCell ?_ ?_ _); rotate_left; (focus (first | omega | (simp; done) | (simp; omega)))) | ((with_reducible refine Below.alloc ?_ ?_ _); rotate_left; (focus (first | omega | (simp; done) | (simp; omega)))) | (with_reducible refine Below.drew ?_) | (refine below_on ?_ (by assumption)))))) (HB.out.below (by focus (repeat (first | (with_reducible exact Below.refl _ _) | (with_reducible assumption) | ((with_reducible refine Below.setCell ?_ ?_ _); rotate_left; (focus (first | omega | (simp; done) | (simp; omega)))) | ((with_reducible refine Below.alloc ?_ ?_ _); rotate_left; (focus (first | omega | (simp; done) | (simp; omega)))) | (with_reducible refine Below.drew ?_) | (refine below_on ?_ (by assumption))))))).mono ?_
      rintro e W ⟨rfl, hb⟩
      have y0 := heap_below hb (heap_old (heap_old (heap_new w _) _) _)
      have y1 := heap_below hb (heap_old (heap_at (n := w.heap.size + 1) (by simp) _) _)
      have y2 := heap_below hb (heap_at (n := w.heap.size + 1 + 1) (by simp) _)
      have hB : Below w.heap.size w W := by focus (repeat (first | (with_reducible exact Below.refl _ _) | (with_reducible assumption) | ((with_reducible refine Below.setCell ?_ ?_ _); rotate_left; (focus (first | omega | (simp; done) | (simp; omega)))) | ((with_reducible refine Below.alloc ?_ ?_ _); rotate_left; (focus (first | omega | (simp; done) | (simp; omega)))) | (with_reducible refine Below.drew ?_) | (refine below_on ?_ (by assumption))))
      clear hb
      have c0 := cell_at y0
      have c1 := cell_at y1
      go_upto_region 5 with (fail)
      clear hq hC c0 c1
      have HS : Hd (∀ W', Below (w.heap.size + 1 + 1) W W' → (W'.cell? ⟨w.heap.size, 0, none⟩ = some (.bool (ng x)) ∧ W'.cell? ⟨w.heap.size, 1, none⟩ = some (.slice A (dd (ab x)).length c)) ∧ W'.cell? ⟨w.heap.size + 1, 0, none⟩ = some (.bool (ng y)) ∧ W'.cell? ⟨w.heap.size + 1, 1, none⟩ = some (.slice B (dd (ab y)).length d)) :=
        ⟨fun W' h => ⟨⟨(h.cell (show w.heap.size < w.heap.size + 1 + 1 by omega)).trans (cell_at y0 0), (h.cell (show w.heap.size < w.heap.size + 1 + 1 by omega)).trans (cell_at y0 1)⟩, (h.cell (show w.heap.size + 1 < w.heap.size + 1 + 1 by omega)).trans (cell_at y1 0), (h.cell (show w.heap.size + 1 < w.heap.size + 1 + 1 by omega)).trans (cell_at y1 1)⟩⟩
      have hD0 : Below (w.heap.size + 1 + 1) W W.drew := Below.drew (Below.refl _ _)
      have hB0 : Below w.heap.size w W.drew := Below.drew hB
      have z0 : W.drew.heap[w.heap.size + 1 + 1]? = some (.cells #[.bool false, .slice none 0 0] 53 (0, 0)) := y2
      have hsz : w.heap.size + 1 + 1 ≤ W.heap.size := Nat.le_of_lt (lt_of_block y2)
      clear y0 y1 y2 hB
      go_region_held3 (fun W' => (W'.cell? ⟨w.heap.size, 0, none⟩ = some (.bool (ng x)) ∧ W'.cell? ⟨w.heap.size, 1, none⟩ = some (.slice A (dd (ab x)).length c)) ∧ W'.cell? ⟨w.heap.size + 1, 0, none⟩ = some (.bool (ng y)) ∧ W'.cell? ⟨w.heap.size + 1, 1, none⟩ = some (.slice B (dd (ab y)).length d)) ((exact HS.out _ (by focus (repeat (first | (with_reducible exact Below.refl _ _) | (with_reducible assumption) | ((with_reducible refine Below.setCell ?_ ?_ _); rotate_left; (focus (first | omega | (simp; done) | (simp; omega)))) | ((with_reducible refine Below.alloc ?_ ?_ _); rotate_left; (focus (first | omega | (simp; done) | (simp; omega)))) | (with_reducible refine Below.drew ?_) | (refine below_on ?_ (by assumption)))))))
        ((first
          | (go_at_call 105; refine (rless_any (ab y) (ab x) HL.out B A d c hd hc hly hlx _ (HB.out.below hB0) (HA.out.below hB0)).mono ?_; rintro e wa ⟨va, rfl, ⟨A1, c1, rfl, hc1, hD1, _⟩, hb⟩; have hB1 := below_on hB0 hb; have z1 := heap_below hb z0; have hD2 := below_up hsz hD0 hb; clear hb)
          | (go_at_call 100; refine (rof_any (ng y) A1 c1 _ hc1 (dd_range _) _ hD1).mono ?_; rintro e wb ⟨vb, rfl, hV, hb⟩; rw [val_of_dd, HV.out] at hV; obtain ⟨A', c', rfl, h1, h2⟩ := hV; have hB2 := below_on hB1 hb; have z2 := heap_below hb z1; have hD3 := below_up hsz hD2 hb; have q1 := cell_at z2; have q2 := frozen_at z2; clear hb)))
      have h3 := h2.laid z2 (.bool (ng (x + y))) (.slice A' (dd (ab (x + y))).length c')
      have z3 := laid_both (w.heap.size + 1 + 1) wb (.bool (ng (x + y))) (.slice A' (dd (ab (x + y))).length c') z2 rfl
      have HBB : Hd (Below w.heap.size w ((wb.setCell ⟨w.heap.size + 1 + 1, 0, none⟩ (.bool (ng (x + y)))).setCell ⟨w.heap.size + 1 + 1, 1, none⟩ (.slice A' (dd (ab (x + y))).length c'))) := ⟨by focus (repeat (first | (with_reducible exact Below.refl _ _) | (with_reducible assumption) | ((with_reducible refine Below.setCell ?_ ?_ _); rotate_left; (focus (first | omega | (simp; done) | (simp; omega)))) | ((with_reducible refine Below.alloc ?_ ?_ _); rotate_left; (focus (first | omega | (simp; done) | (simp; omega)))) | (with_reducible refine Below.drew ?_) | (refine below_on ?_ (by assumption))))⟩
      clear HS hD0 hB0 z0 hD1 hB1 z1 hD2 q1 q2 hD3 hB2 z2 h2
      generalize (wb.setCell ⟨w.heap.size + 1 + 1, 0, none⟩ (.bool (ng (x + y)))).setCell ⟨w.heap.size + 1 + 1, 1, none⟩ (.slice A' (dd (ab (x + y))).length c') = wz at *
      have HD3 := Hd.mk h3
      have c1 := cell_at z3
      go_wp2
      refine bodyPost_ret (by simp [results, Tryz.results93, go_sem, c1]) rfl ⟨_, rfl, ⟨A', c', rfl, h1, HD3.out⟩, HBB.out⟩
open Go.RowKit Go.BigFrame

/-- The Int of a number, or that it is too great. -/
def outV (z : Int) : Int := if ab z < 2 ^ 256 then z else 0
def outE (z : Int) : Int := if ab z < 2 ^ 256 then 0 else 110
set_option maxHeartbeats 1000000 in
theorem rout_ok (x : Int) (hx : ab x < 2 ^ 256) (u : Value) (w : World) (hu : BigAt w u x) :
    Calls Tryz.prog 74 #[u] w fun e w' => e = .returned (.tuple #[.agg #[.bool (ng (x)), .int .u64 (dg (ab (x)) 0), .int .u64 (dg (ab (x)) 1), .int .u64 (dg (ab (x)) 2), .int .u64 (dg (ab (x)) 3)], .int .i64 0]) ∧ Below w.heap.size w w' := by
  have HU := Hd.mk hu
  have HX := Hd.mk hx
  obtain ⟨A, c, rfl, hc, hA⟩ := hu
  clear hA hx
  go_enter Tryz.func74, Tryz.ntmps74
  go_wp2_with fail
  refine (rto_ok x HX.out _ _ (HU.out.below (by focus (repeat (first | (with_reducible exact Below.refl _ _) | (with_reducible assumption) | ((with_reducible refine Below.setCell ?_ ?_ _); rotate_left; (focus (first | omega | (simp; done) | (simp; omega)))) | ((with_reducible refine Below.alloc ?_ ?_ _); rotate_left; (focus (first | omega | (simp; done) | (simp; omega)))) | (with_reducible refine Below.drew ?_) | (refine below_on ?_ (by assumption))))))).mono ?_
  rintro e w1 ⟨rfl, hb⟩
  have y1 := heap_below hb (heap_at (n := w.heap.size + 1) (by simp) _)
  have hB : Below w.heap.size w w1 := by focus (repeat (first | (with_reducible exact Below.refl _ _) | (with_reducible assumption) | ((with_reducible refine Below.setCell ?_ ?_ _); rotate_left; (focus (first | omega | (simp; done) | (simp; omega)))) | ((with_reducible refine Below.alloc ?_ ?_ _); rotate_left; (focus (first | omega | (simp; done) | (simp; omega)))) | (with_reducible refine Below.drew ?_) | (refine below_on ?_ (by assumption))))
  have hs1 := lt_of_block y1
  have q1 := cell_at y1
  have q2 := frozen_at y1
  clear hb
  go_wp2
  refine abs_post (fun W => W.heap[w.heap.size + 1]? = some (.cells #[.bool (ng (x)), .int .u64 (dg (ab (x)) 0), .int .u64 (dg (ab (x)) 1), .int .u64 (dg (ab (x)) 2), .int .u64 (dg (ab (x)) 3)] 42 (0, 0)) ∧ Below w.heap.size w W) ?_ fun W ⟨k1, hB⟩ => ?_
  · obtain ⟨l1, l2, l3⟩ := laid_five (w.heap.size + 1) w1 (.bool (ng x)) (.int .u64 (dg (ab x) 0)) (.int .u64 (dg (ab x) 1)) (.int .u64 (dg (ab x) 2)) (.int .u64 (dg (ab x) 3))
    exact ⟨heap_old (l1 y1 rfl) _, Below.alloc (hB.trans (l3 _ (by omega))) (by have := hB.size; simp; omega) _⟩
  · have k2 := cell_at k1
    refine bodyPost_ret (by simp [results, Tryz.results74, go_sem, k2]) rfl ⟨rfl, hB⟩
set_option maxHeartbeats 1000000 in
theorem rout_no (x : Int) (hx : ¬ ab x < 2 ^ 256) (u : Value) (w : World) (hu : BigAt w u x) :
    Calls Tryz.prog 74 #[u] w fun e w' => e = .returned (.tuple #[.agg #[.bool (ng (0)), .int .u64 (dg (ab (0)) 0), .int .u64 (dg (ab (0)) 1), .int .u64 (dg (ab (0)) 2), .int .u64 (dg (ab (0)) 3)], .int .i64 110]) ∧ Below w.heap.size w w' := by
  have HU := Hd.mk hu
  have HX := Hd.mk hx
  obtain ⟨A, c, rfl, hc, hA⟩ := hu
  clear hA hx
  go_enter Tryz.func74, Tryz.ntmps74
  go_wp2_with fail
  refine (rto_no x HX.out _ _ (HU.out.below (by focus (repeat (first | (with_reducible exact Below.refl _ _) | (with_reducible assumption) | ((with_reducible refine Below.setCell ?_ ?_ _); rotate_left; (focus (first | omega | (simp; done) | (simp; omega)))) | ((with_reducible refine Below.alloc ?_ ?_ _); rotate_left; (focus (first | omega | (simp; done) | (simp; omega)))) | (with_reducible refine Below.drew ?_) | (refine below_on ?_ (by assumption))))))).mono ?_
  rintro e w1 ⟨rfl, hb⟩
  have y1 := heap_below hb (heap_at (n := w.heap.size + 1) (by simp) _)
  have hB : Below w.heap.size w w1 := by focus (repeat (first | (with_reducible exact Below.refl _ _) | (with_reducible assumption) | ((with_reducible refine Below.setCell ?_ ?_ _); rotate_left; (focus (first | omega | (simp; done) | (simp; omega)))) | ((with_reducible refine Below.alloc ?_ ?_ _); rotate_left; (focus (first | omega | (simp; done) | (simp; omega)))) | (with_reducible refine Below.drew ?_) | (refine below_on ?_ (by assumption))))
  have hs1 := lt_of_block y1
  have q1 := cell_at y1
  have q2 := frozen_at y1
  clear hb
  go_wp2
  refine abs_post (fun W => W.heap[w.heap.size + 1]? = some (.cells #[.bool (ng (0)), .int .u64 (dg (ab (0)) 0), .int .u64 (dg (ab (0)) 1), .int .u64 (dg (ab (0)) 2), .int .u64 (dg (ab (0)) 3)] 42 (0, 0)) ∧ Below w.heap.size w W) ?_ fun W ⟨k1, hB⟩ => ?_
  · obtain ⟨l1, l2, l3⟩ := laid_five (w.heap.size + 1) w1 (.bool false) (.int .u64 0) (.int .u64 0) (.int .u64 0) (.int .u64 0)
    exact ⟨by rw [zero_cells]; exact heap_old (l1 y1 rfl) _, Below.alloc (hB.trans (l3 _ (by omega))) (by have := hB.size; simp; omega) _⟩
  · have k2 := cell_at k1
    refine bodyPost_ret (by simp [results, Tryz.results74, go_sem, k2]) rfl ⟨rfl, hB⟩
theorem rout_any (x : Int) (u : Value) (w : World) (hu : BigAt w u x) :
    Calls Tryz.prog 74 #[u] w fun e w' => e = .returned (.tuple #[.agg #[.bool (ng (outV x)), .int .u64 (dg (ab (outV x)) 0), .int .u64 (dg (ab (outV x)) 1), .int .u64 (dg (ab (outV x)) 2), .int .u64 (dg (ab (outV x)) 3)], .int .i64 (outE x)]) ∧ Below w.heap.size w w' := by
  by_cases hx : ab x < 2 ^ 256
  · rw [outV, outE, if_pos hx, if_pos hx]
    exact rout_ok x hx u w hu
  · rw [outV, outE, if_neg hx, if_neg hx]
    exact rout_no x hx u w hu
end Go.Proofs.YtbhfnfokihdjjaaGreatDoor

namespace Go.Proofs.YtbhfnfokihdjjaaGreatDoor
open Go.RowKit Go.BigFrame

theorem val_set : ∀ (ds : List Int) (j : Nat) (x v : Int), ds[j]? = some x → val (ds.set j v) + x.toNat * 65536 ^ j = val ds + v.toNat * 65536 ^ j
  | [], j, x, v, h => by simp at h
  | y :: ds, 0, x, v, h => by
    simp only [List.getElem?_cons_zero, Option.some.injEq] at h
    subst h
    simp only [List.set_cons_zero, val, Nat.pow_zero, Nat.mul_one]
    omega
  | y :: ds, j + 1, x, v, h => by
    rw [List.getElem?_cons_succ] at h
    have ih := val_set ds j x v h
    simp only [List.set_cons_succ, val, Nat.pow_succ, ← Nat.mul_assoc]
    omega
theorem dg_set {ds : List Int} (h : Dg ds) {j : Nat} {v : Int} (h0 : 0 ≤ v) (h1 : v < 65536) : Dg (ds.set j v) := by
  intro x hx
  rcases List.mem_or_eq_of_mem_set hx with h2 | rfl
  · exact h x h2
  · exact ⟨h0, h1⟩
theorem val_zeros : ∀ k : Nat, val (List.replicate k 0) = 0
  | 0 => rfl
  | k + 1 => by simp only [List.replicate_succ, val, val_zeros k]; rfl
/-- A row of digits under way: the product of the digits below i by n, and of digit i by those of n below k; C is carried. -/
def MulRow (m n L lb i k C : Nat) (ds : List Int) : Prop :=
  ds.length = L ∧ Dg ds ∧ val ds + C * 65536 ^ (i + k) = m % 65536 ^ i * n + 65536 ^ i * ((d16 m i).toNat * (n % 65536 ^ k)) ∧ ∀ j, i + lb ≤ j → j < L → ds[j]? = some 0
theorem mul_start (m n L lb : Nat) : MulRow m n L lb 0 0 0 (List.replicate L 0) := by
  refine ⟨by simp, ?_, ?_, ?_⟩
  · intro x hx
    have := (List.mem_replicate.1 hx).2
    omega
  · rw [val_zeros]
    simp [Nat.mod_one]
  · intro j _ hj
    simp [hj]
theorem mul_step {m n L lb i k C : Nat} {ds : List Int} (h : MulRow m n L lb i k C ds) {o : Int} (ho : ds[i + k]? = some o) (hk : k < lb) {s : Int} (h0 : 0 ≤ s) (hs : s = o + d16 m i * d16 n k + C) :
    MulRow m n L lb i (k + 1) (s / 65536).toNat (ds.set (i + k) (s % 65536)) := by
  obtain ⟨h1, h2, h3, h4⟩ := h
  refine ⟨by simp [h1], dg_set h2 (by omega) (by omega), ?_, ?_⟩
  · have hv := val_set ds (i + k) o (s % 65536) ho
    have ho1 := h2 o (List.mem_of_getElem? ho)
    obtain ⟨O, rfl⟩ := Int.eq_ofNat_of_zero_le ho1.1
    obtain ⟨S, rfl⟩ := Int.eq_ofNat_of_zero_le h0
    obtain ⟨X, hX⟩ : ∃ X : Nat, d16 m i = X := ⟨_, rfl⟩
    obtain ⟨Y, hY⟩ : ∃ Y : Nat, d16 n k = Y := ⟨_, rfl⟩
    have hY' : Y = n / 65536 ^ k % 65536 := by
      have : ((n / 65536 ^ k % 65536 : Nat) : Int) = Y := hY
      omega
    rw [hX] at h3 hs ⊢
    rw [hY] at hs
    have hS : S = O + X * Y + C := by
      have : ((S : Nat) : Int) = ((O + X * Y + C : Nat) : Int) := by rw [hs]; push_cast; rfl
      omega
    have e1 : (((S : Nat) : Int) % 65536).toNat = S % 65536 := by omega
    have e2 : (((S : Nat) : Int) / 65536).toNat = S / 65536 := by omega
    rw [e1, Int.toNat_natCast] at hv
    rw [e2, Int.toNat_natCast]
    rw [Int.toNat_natCast] at h3
    have hn : n % 65536 ^ (k + 1) = 65536 ^ k * Y + n % 65536 ^ k := by rw [Nat.pow_succ, mod_step, ← hY']
    rw [hn]
    have hp : 65536 ^ (i + (k + 1)) = 65536 ^ (i + k) * 65536 := by rw [← Nat.add_assoc, Nat.pow_succ]
    rw [hp]
    have hq : 65536 ^ i * (X * (65536 ^ k * Y + n % 65536 ^ k)) = 65536 ^ i * (X * (n % 65536 ^ k)) + X * Y * 65536 ^ (i + k) := by
      rw [Nat.mul_add, Nat.mul_add, Nat.pow_add, Nat.add_comm]
      congr 1
      rw [Nat.mul_left_comm X (65536 ^ k) Y, ← Nat.mul_assoc, Nat.mul_comm (X * Y)]
    rw [hq]
    have hS2 : S % 65536 + 65536 * (S / 65536) = S := by omega
    generalize 65536 ^ (i + k) = P at *
    have e3 : S / 65536 * (P * 65536) = 65536 * (S / 65536) * P := by rw [Nat.mul_comm P, ← Nat.mul_assoc, Nat.mul_comm (S / 65536)]
    rw [e3]
    have e4 : (S % 65536 + 65536 * (S / 65536)) * P = S * P := by rw [hS2]
    rw [Nat.add_mul] at e4
    have e5 : S * P = O * P + X * Y * P + C * P := by rw [hS, Nat.add_mul, Nat.add_mul]
    omega
  · intro j hj hjL
    rw [List.getElem?_set_ne (by omega)]
    exact h4 j hj hjL
theorem mul_next {m n L lb i C : Nat} {ds : List Int} (h : MulRow m n L lb i lb C ds) (hL : i + lb < L) (hn : n < 65536 ^ lb) (hC : C < 65536) :
    MulRow m n L lb (i + 1) 0 0 (ds.set (i + lb) (C : Int)) := by
  obtain ⟨h1, h2, h3, h4⟩ := h
  have h0 := h4 (i + lb) (Nat.le_refl _) hL
  have hv := val_set ds (i + lb) 0 C h0
  refine ⟨by simp [h1], dg_set h2 (by omega) (by omega), ?_, ?_⟩
  · rw [Nat.mod_eq_of_lt hn] at h3
    have e : m % 65536 ^ (i + 1) = 65536 ^ i * (d16 m i).toNat + m % 65536 ^ i := by
      rw [Nat.pow_succ, mod_step]; rfl
    rw [e, Nat.add_mul, Nat.pow_zero, Nat.mod_one, Nat.mul_zero, Nat.mul_zero, Nat.mul_assoc]
    have e0 : (0 : Int).toNat = 0 := rfl
    rw [e0, Int.toNat_natCast] at hv
    omega
  · intro j hj hjL
    rw [List.getElem?_set_ne (by omega)]
    exact h4 j (by omega) hjL
theorem mul_end {m n L lb i : Nat} {ds : List Int} (h : MulRow m n L lb i 0 0 ds) (hm : m < 65536 ^ i) : val ds = m * n := by
  have := h.2.2.1
  rw [Nat.mod_eq_of_lt hm, Nat.pow_zero, Nat.mod_one] at this
  simpa using this
/-- A row of digits in a block of its own. -/
def RowAt (W : World) (g : Nat) (ds : List Int) : Prop := W.heap[g]? = some (.cells (longV ds).toArray 2 (0, 0))
theorem RowAt.cell {W : World} {g : Nat} {ds : List Int} (h : RowAt W g ds) {j : Nat} {x : Int} (hx : ds[j]? = some x) : W.cell? ⟨g, j, none⟩ = some (.int .i64 x) := by
  rw [cell_at h]
  simp [longV, hx]
theorem RowAt.set {W : World} {g : Nat} {ds : List Int} (h : RowAt W g ds) (j : Nat) (v : Int) : RowAt (W.setCell ⟨g, j, none⟩ (.int .i64 v)) g (ds.set j v) := by
  unfold RowAt at *
  rw [heap_set h]
  congr 2
  simp [longV, List.map_set]
theorem RowAt.dig {W : World} {g : Nat} {ds : List Int} (h : RowAt W g ds) (hl : ds.length ≤ 1000000) : DigAt W (some ⟨g, 0, none⟩) ds :=
  ⟨hl, fun _ => ⟨g, 0, rfl, fun k x hk => by rw [Nat.zero_add]; exact h.cell hk⟩⟩
theorem row_own {W : World} {base g n : Nat} (h : W.ownsRow base 2 1 (.slice (some ⟨g, 0, none⟩) n n) n (madeCells #[.int .i64 0] n).toList) : RowAt W g (List.replicate n 0) := by
  rcases h.2 with ⟨h0, _⟩ | ⟨g', cap, cur, h1, _, h3, _, _, h5, h6⟩
  · cases h0
  · simp only [Value.slice.injEq, Option.some.injEq, Addr.mk.injEq] at h1
    obtain ⟨⟨rfl, _, _⟩, _, rfl⟩ := h1
    unfold RowAt
    rw [h3]
    congr 2
    have h7 : cur.toList = (madeCells #[.int .i64 0] n).toList := by
      rw [← h6, List.take_of_length_le (by simp [h5])]
    apply Array.ext'
    rw [h7]
    rw [toList_madeCells_one]
    simp [longV]
theorem zof_mul2 (x y : Int) : zof (ng x != ng y) (ab x * ab y) = x * y := zof_mul x y
theorem d16_mul (m n i k : Nat) : 0 ≤ d16 m i * d16 n k ∧ d16 m i * d16 n k ≤ 4294836225 := by
  have a1 := d16_lt m i
  have b1 := d16_lt n k
  refine ⟨Int.mul_nonneg (d16_nonneg _ _) (d16_nonneg _ _), ?_⟩
  have h1 : d16 m i * d16 n k ≤ 65535 * 65535 := Int.mul_le_mul (by omega) (by omega) (d16_nonneg _ _) (by omega)
  omega
/-- The blocks of a product under way. -/
def MulW (x y : Int) (A B : Option Addr) (c d la lb g : Nat) (ds : List Int) (w W : World) : Prop :=
  W.heap[w.heap.size]? = some (.cells #[.bool (ng x), .slice A la c] 53 (0, 0)) ∧ W.heap[w.heap.size + 1]? = some (.cells #[.bool (ng y), .slice B lb d] 53 (0, 0)) ∧
    W.heap[w.heap.size + 1 + 1]? = some (.cells #[.bool false, .slice none 0 0] 53 (0, 0)) ∧ RowAt W g ds ∧ Below w.heap.size w W
theorem MulW.below {x y : Int} {A B : Option Addr} {c d la lb g : Nat} {ds : List Int} {w W W1 : World} (h : MulW x y A B c d la lb g ds w W) (hb : Below W.heap.size W W1) : MulW x y A B c d la lb g ds w W1 :=
  ⟨heap_below hb h.1, heap_below hb h.2.1, heap_below hb h.2.2.1, heap_below hb h.2.2.2.1, below_on h.2.2.2.2 hb⟩
theorem MulW.set {x y : Int} {A B : Option Addr} {c d la lb : Nat} {ds : List Int} {w W : World} (h : MulW x y A B c d la lb (w.heap.size + 1 + 1 + 1) ds w W) (j : Nat) (v : Int) :
    MulW x y A B c d la lb (w.heap.size + 1 + 1 + 1) (ds.set j v) w (W.setCell ⟨w.heap.size + 1 + 1 + 1, j, none⟩ (.int .i64 v)) :=
  ⟨heap_set_other h.1 (by simp; omega) _, heap_set_other h.2.1 (by simp) _, heap_set_other h.2.2.1 (by simp) _, h.2.2.2.1.set j v, Below.setCell h.2.2.2.2 (by simp; omega) _⟩
set_option maxRecDepth 20000 in
set_option maxHeartbeats 2000000 in
theorem rmul_any (x y : Int) (u v : Value) (hlx : (dd (ab x)).length ≤ 1000) (hly : (dd (ab y)).length ≤ 1000) (w : World) (hu : BigAt w u x) (hv : BigAt w v y) :
    Calls Tryz.prog 92 #[u, v] w fun e w' => ∃ v, e = .returned v ∧ BigAt w' v (x * y) ∧ Below w.heap.size w w' := by
  obtain ⟨A, c, rfl, hc, hA⟩ := hu
  obtain ⟨B, d, rfl, hd, hB⟩ := hv
  have HA := Hd.mk hA
  have HB := Hd.mk hB
  clear hA hB
  obtain ⟨la, hla⟩ : ∃ la, (dd (ab x)).length = la := ⟨_, rfl⟩
  obtain ⟨lb, hlb⟩ : ∃ lb, (dd (ab y)).length = lb := ⟨_, rfl⟩
  have HLA := Hd.mk hla
  have HLB := Hd.mk hlb
  obtain ⟨i0, hi, hz0, hz1, hz2⟩ := info_parts infoLong
  have hu : Tryz.prog.underlying 51 = some (.slice 2) := by kernel_rfl
  rw [hla] at hlx
  rw [hlb] at hly
  rw [hla, hlb]
  clear hla hlb
  go_enter Tryz.func92, Tryz.ntmps92
  go_wp2_with (at_make; refine wpList_make_full _ rfl _ _ 51 rfl 0 2 i0 (.int .i64 0) 1 hu hi hz0 hz1 _ _ _ _ (la + lb + 1) rfl rfl (by omega) (by omega) (by rw [hz2]; omega) (by unfold maxLen; omega) (Nat.zero_le _) ?_)
  intro w1 hown hgrow
  have M0 : MulW x y A B c d la lb (w.heap.size + 1 + 1 + 1) (List.replicate (la + lb + 1) 0) w w1 := by
    refine ⟨(hgrow.block _ (by simp; omega) (by simp)).trans (heap_old (heap_old (heap_new w _) _) _), (hgrow.block _ (by simp) (by simp)).trans (heap_old (heap_at (by simp) _) _), (hgrow.block _ (by simp) (by simp)).trans (heap_at (by simp) _), row_own hown, ?_⟩
    refine Below.trans (b := ((w.alloc (.cells #[.bool (ng x), .slice A la c] 53)).alloc (.cells #[.bool (ng y), .slice B lb d] 53)).alloc (.cells #[.bool false, .slice none 0 0] 53)) ?_ (below_grown hgrow (fun k hk => by cases hk) (by simp; omega))
    focus (repeat (first | (with_reducible exact Below.refl _ _) | (with_reducible assumption) | ((with_reducible refine Below.setCell ?_ ?_ _); rotate_left; (focus (first | omega | (simp; done) | (simp; omega)))) | ((with_reducible refine Below.alloc ?_ ?_ _); rotate_left; (focus (first | omega | (simp; done) | (simp; omega)))) | (with_reducible refine Below.drew ?_) | (refine below_on ?_ (by assumption))))
  clear hown hgrow
  go_wp2
  go_loopw [6] (fun iv wr => ∃ (i : Nat) (ds : List Int), i ≤ la ∧ iv = .int .i64 i ∧ Hd (MulRow (ab x) (ab y) (la + lb + 1) lb i 0 0 ds) ∧ MulW x y A B c d la lb (w.heap.size + 1 + 1 + 1) ds w wr) (fun iv _ => la - (intOf iv).toNat)
  case atStart => exact ⟨0, _, Nat.zero_le _, rfl, ⟨mul_start _ _ _ _⟩, M0⟩
  case round =>
    clear M0
    obtain ⟨i, ds, hil, rfl, HR, M⟩ := hrel
    have HM := Hd.mk M
    have c0 := cell_at M.1
    have c1 := cell_at M.2.1
    clear M
    by_cases hlt : i < la
    · have hd1 : decide (i < la) = true := by simpa using hlt
      go_wp2
      go_loopw [7, 8] (fun cv kv wr => ∃ (k C : Nat) (ds : List Int), k ≤ lb ∧ kv = .int .i64 k ∧ cv = .int .i64 C ∧ C < 65536 ∧ Hd (MulRow (ab x) (ab y) (la + lb + 1) lb i k C ds) ∧ MulW x y A B c d la lb (w.heap.size + 1 + 1 + 1) ds w wr) (fun _ kv _ => lb - (intOf kv).toNat)
      case atStart => exact ⟨0, 0, ds, Nat.zero_le _, rfl, rfl, by omega, HR, HM.out⟩
      case round =>
        clear HR HM c0 c1
        obtain ⟨k, C, ds, hkl, rfl, rfl, hC, HR, M⟩ := hrel
        have HM := Hd.mk M
        have hB := M.2.2.2.2
        have y0 := M.1
        have y1 := M.2.1
        have c1 := cell_at y1
        by_cases hlk : k < lb
        · have hd2 : decide (k < lb) = true := by simpa using hlk
          obtain ⟨gA, oA, rfl, fA⟩ := (HA.out.below hB).2 (by rw [HLA.out]; omega)
          obtain ⟨gB, oB, rfl, fB⟩ := (HB.out.below hB).2 (by rw [HLB.out]; omega)
          obtain ⟨X, hX⟩ : ∃ X, (dd (ab x))[i]? = some X := ⟨_, List.getElem?_eq_getElem (by rw [HLA.out]; omega)⟩
          obtain ⟨Y, hY⟩ : ∃ Y, (dd (ab y))[k]? = some Y := ⟨_, List.getElem?_eq_getElem (by rw [HLB.out]; omega)⟩
          obtain ⟨o, ho⟩ : ∃ o, ds[i + k]? = some o := ⟨_, List.getElem?_eq_getElem (by rw [HR.out.1]; omega)⟩
          have g1 := fA i X hX
          have g2 := fB k Y hY
          have g3 := M.2.2.2.1.cell ho
          have l1 := World.block_lt_of_cell? _ _ g1
          have l2 := World.block_lt_of_cell? _ _ g2
          have l3 := World.block_lt_of_cell? _ _ g3
          have o1 := HR.out.2.1 o (List.mem_of_getElem? ho)
          have o2 := o1.2
          have o1 := o1.1
          obtain ⟨p1, p2⟩ := d16_mul (ab x) (ab y) i k
          rw [← dd_get _ _ _ hX, ← dd_get _ _ _ hY] at p1 p2
          obtain ⟨P, hP⟩ : ∃ P, X * Y = P := ⟨_, rfl⟩
          rw [hP] at p1 p2
          have HST := Hd.mk (mul_step HR.out ho hlk (s := o + P + C) (by omega) (by rw [← dd_get _ _ _ hX, ← dd_get _ _ _ hY, hP]))
          clear fA fB hX hY ho M HR
          go_wp2
          refine region_mix 20 (by kernel_rfl) (by kernel_rfl) (fun _ _ _ _ h => h) fun X _ mk hmk hcl => ?_
          have c0 := mk_cell hmk y0
          have c1 := mk_cell hmk y1
          have e1 := fun x => ((hmk x).cell l1).trans g1
          have e2 := fun x => ((hmk x).cell l2).trans g2
          have e3 := fun x => ((hmk x).cell l3).trans g3
          simp only [List.take_succ_cons, List.take_zero, List.drop_succ_cons, List.drop_zero]
          repeat (go_big_quiet_step (skip))
          refine wpQuiet_nil ?_
          rintro _ ⟨x, rfl⟩
          have hw1 := hmk x
          have M1 := HM.out.below hw1
          have k3 := e3 x
          clear hcl hmk c0 c1 e1 e2 e3 HM hB y0 y1 g1 g2 g3 l1 l2 l3
          generalize mk x = W1 at hw1 M1 k3
          clear hw1
          have f3 := frozen_at M1.2.2.2.1
          have l3 := World.block_lt_of_cell? _ _ k3
          have HM1 := Hd.mk M1
          clear M1
          go_wp2
          go_roundw
          case rel =>
            refine ⟨k + 1, ((o + P + C) / 65536).toNat, _, by omega, by go_num, ?_, by omega, HST, HM1.out.set _ _⟩
            rw [Int.toNat_of_nonneg (by omega)]
          case measure => simp [intOf]; omega
        · obtain rfl : k = lb := by omega
          have hd2 : decide (k < k) = false := by simp
          obtain ⟨o, ho⟩ : ∃ o, o = (0 : Int) := ⟨_, rfl⟩
          have g3 := M.2.2.2.1.cell (HR.out.2.2.2 (i + k) (Nat.le_refl _) (by omega))
          have l3 := World.block_lt_of_cell? _ _ g3
          have HST := Hd.mk (mul_next HR.out (by omega) ((dd_len _ _).1 (by rw [HLB.out]; exact Nat.le_refl _)) hC)
          clear M HR ho
          go_wp2
          refine region_mix 17 (by kernel_rfl) (by kernel_rfl) (fun _ _ _ _ h => h) fun X _ mk hmk hcl => ?_
          have c1 := mk_cell hmk y1
          have e3 := fun x => ((hmk x).cell l3).trans g3
          simp only [List.take_succ_cons, List.take_zero, List.drop_succ_cons, List.drop_zero]
          repeat (go_big_quiet_step (skip))
          refine wpQuiet_nil ?_
          rintro _ ⟨x, rfl⟩
          have hw1 := hmk x
          have M1 := HM.out.below hw1
          have k3 := e3 x
          clear hcl hmk c1 e3 HM hB y0 y1 g3 l3
          generalize mk x = W1 at hw1 M1 k3
          clear hw1
          have f3 := frozen_at M1.2.2.2.1
          have l3 := World.block_lt_of_cell? _ _ k3
          have HM1 := Hd.mk M1
          clear M1
          go_wp2
          go_roundw
          case rel => exact ⟨i + 1, _, by omega, by go_num, HST, HM1.out.set _ _⟩
          case measure => simp [intOf]; omega
    · obtain rfl : i = la := by omega
      have hd1 : decide (i < i) = false := by simp
      have M := HM.out
      have y2 := M.2.2.1
      have hB := Hd.mk M.2.2.2.2
      have hL : ds.length = i + lb + 1 := HR.out.1
      have hof := rof_any (ng x != ng y) (some ⟨w.heap.size + 1 + 1 + 1, 0, none⟩) (i + lb + 1) ds (Nat.le_of_eq hL) HR.out.2.1 wr (M.2.2.2.1.dig (by omega))
      rw [hL, mul_end HR.out ((dd_len _ _).1 (by rw [HLA.out]; exact Nat.le_refl _)), zof_mul2] at hof
      clear M HM hL HR
      go_wp2_with fail
      refine hof.mono ?_
      rintro e w2 ⟨v, rfl, hV, hb⟩
      have hw := below_on hB.out hb
      have z1 := heap_below hb y2
      clear hb y2 hB c0 c1
      obtain ⟨A', c', rfl, h1, h2⟩ := hV
      have hs2 := lt_of_block z1
      have q1 := cell_at z1
      have q2 := frozen_at z1
      have HD := Hd.mk (h2.laid z1)
      clear h2
      go_wp2
      have z2 := laid_both (w.heap.size + 1 + 1) w2 (.bool (ng (x * y))) (.slice A' (dd (ab (x * y))).length c') z1 rfl
      have c1 := cell_at z2
      refine bodyPost_ret (by simp [results, Tryz.results92, go_sem, c1]) rfl ⟨_, rfl, ⟨A', c', rfl, h1, HD.out _ _⟩, by focus (repeat (first | (with_reducible exact Below.refl _ _) | (with_reducible assumption) | ((with_reducible refine Below.setCell ?_ ?_ _); rotate_left; (focus (first | omega | (simp; done) | (simp; omega)))) | ((with_reducible refine Below.alloc ?_ ?_ _); rotate_left; (focus (first | omega | (simp; done) | (simp; omega)))) | (with_reducible refine Below.drew ?_) | (refine below_on ?_ (by assumption))))⟩
end Go.Proofs.YtbhfnfokihdjjaaGreatDoor

namespace Go.Proofs.YtbhfnfokihdjjaaGreatDoor
open Go.RowKit Go.BigFrame

/-- A Big of value z in a block of its own. -/
def BigIn (W : World) (b : Nat) (z : Int) : Prop :=
  ∃ (A : Option Addr) (c : Nat), W.heap[b]? = some (.cells #[.bool (ng z), .slice A (dd (ab z)).length c] 53 (0, 0)) ∧ (dd (ab z)).length ≤ c ∧ DigAt W A (dd (ab z))
theorem BigIn.below {W W1 : World} {b : Nat} {z : Int} (h : BigIn W b z) (hb : Below W.heap.size W W1) : BigIn W1 b z := by
  obtain ⟨A, c, h1, h2, h3⟩ := h
  exact ⟨A, c, heap_below hb h1, h2, h3.below hb⟩
theorem dd_small {z : Int} (h : ab z < 2 ^ 256) : (dd (ab z)).length ≤ 1000 := Nat.le_trans ((dd_len16 _).2 h) (by omega)
end Go.Proofs.YtbhfnfokihdjjaaGreatDoor
