/-
  Walks of the references: less. Conditions stand in each theorem.
-/
import Derived.OwnWalk
import Derived.Test.YtfchmikbebdflaaGreatDoorRf8
namespace Go.Proofs.YtfchmikbebdflaaGreatDoor
open Go.RowKit Go.BigFrame

set_option maxHeartbeats 400000 in
theorem rat_any (A : Option Addr) (c : Nat) (ds : List Int) (i : Nat) (_hc : ds.length ≤ c) (w : World) (h : DigAt w A ds) :
    Calls Tryz.prog 144 #[.slice A ds.length c, .int .i64 i] w fun e w' => e = .returned (.int .i64 (ds.getD i 0)) ∧ w = w' := by
  have hl := h.1
  have HH := Hd.mk h
  clear h
  by_cases hi : i < ds.length
  · obtain ⟨b, off, rfl, hcell⟩ := HH.out.2 (by omega)
    obtain ⟨x, hx⟩ : ∃ x, ds[i]? = some x := ⟨_, List.getElem?_eq_getElem hi⟩
    have e0 := hcell i x hx
    have HV : Hd (ds.getD i 0 = x) := ⟨by simp [List.getD, hx]⟩
    have hd1 : decide (i < ds.length) = true := by simpa using hi
    clear hcell hx
    go_enter Tryz.func144, Tryz.ntmps144
    go_wp2
    go_ret
    exact ⟨by rw [HV.out]; rfl, rfl⟩
  · have HV : Hd (ds.getD i 0 = 0) := ⟨by simp [List.getD, List.getElem?_eq_none (Nat.le_of_not_lt hi)]⟩
    have hd1 : decide (i < ds.length) = false := by simpa using hi
    clear hi
    go_enter Tryz.func144, Tryz.ntmps144
    go_wp2
    go_ret
    exact ⟨by rw [HV.out]; rfl, rfl⟩
theorem d16_high {n i : Nat} (h : n < 65536 ^ i) : d16 n i = 0 := by
  unfold d16; rw [Nat.div_eq_of_lt h]; rfl
theorem dd_getD (n i : Nat) : (dd n).getD i 0 = d16 n i := by
  by_cases h : i < (dd n).length
  · have h1 : (dd n)[i]? = some (dd n)[i] := List.getElem?_eq_getElem h
    rw [List.getD_eq_getElem?_getD, h1]
    exact dd_get i n _ h1
  · rw [List.getD_eq_getElem?_getD, List.getElem?_eq_none (Nat.le_of_not_lt h)]
    exact (d16_high ((dd_len _ _).1 (Nat.le_of_not_lt h))).symm
/-- What is carried into digit i, to the base 65536. -/
def car16 (a b i : Nat) : Nat := (a % 65536 ^ i + b % 65536 ^ i) / 65536 ^ i
theorem car16_zero (a b : Nat) : car16 a b 0 = 0 := by simp [car16, Nat.mod_one]
theorem car16_le (a b i : Nat) : car16 a b i ≤ 1 := by
  unfold car16
  have hp : 0 < 65536 ^ i := Nat.pow_pos (by decide)
  have h1 := Nat.mod_lt a hp
  have h2 := Nat.mod_lt b hp
  apply Nat.le_of_lt_succ
  rw [Nat.div_lt_iff_lt_mul hp]
  omega
theorem d16_nonneg (n i : Nat) : 0 ≤ d16 n i := by unfold d16; omega
theorem d16_lt (n i : Nat) : d16 n i < 65536 := by unfold d16; omega
theorem d16_add (a b i : Nat) : (d16 a i + d16 b i + car16 a b i) % 65536 = d16 (a + b) i ∧ (d16 a i + d16 b i + car16 a b i) / 65536 = car16 a b (i + 1) := by
  have hp : 0 < 65536 ^ i := Nat.pow_pos (by decide)
  have h1 : (a / 65536 ^ i % 65536 + b / 65536 ^ i % 65536 + car16 a b i) % 65536 = (a + b) / 65536 ^ i % 65536 := by
    rw [sum_div a b (65536 ^ i)]
    show _ = (a / 65536 ^ i + b / 65536 ^ i + car16 a b i) % 65536
    omega
  have h2 : (a / 65536 ^ i % 65536 + b / 65536 ^ i % 65536 + car16 a b i) / 65536 = car16 a b (i + 1) := by
    unfold car16
    rw [Nat.pow_succ, mod_step a, mod_step b, ← Nat.div_div_eq_div_mul]
    congr 1
    have : 65536 ^ i * (a / 65536 ^ i % 65536) + a % 65536 ^ i + (65536 ^ i * (b / 65536 ^ i % 65536) + b % 65536 ^ i) =
      (a % 65536 ^ i + b % 65536 ^ i) + 65536 ^ i * (a / 65536 ^ i % 65536 + b / 65536 ^ i % 65536) := by rw [Nat.mul_add]; omega
    rw [this, Nat.add_mul_div_left _ _ hp]
    omega
  unfold d16
  rw [← h1, ← h2]
  omega
/-- A slice of the digits of n, of which the first block is at least base. -/
def Sl (base : Nat) (v : Value) (n : Nat) (W : World) : Prop :=
  ∃ (A : Option Addr) (c : Nat), v = .slice A (dd n).length c ∧ (dd n).length ≤ c ∧ DigAt W A (dd n) ∧ (0 < (dd n).length → ∀ a, A = some a → base ≤ a.block)
theorem sl_cut {W : World} {A A' : Option Addr} {c : Nat} {ds : List Int} {n base : Nat} (h : DigAt W A ds) (hg : Dg ds) (hv : val ds = n) (hc : ds.length ≤ c) (hA : 0 < (strip ds).length → A' = A) (hb : ∀ a, A = some a → base ≤ a.block) :
    Sl base (.slice A' (strip ds).length c) n W := by
  have h1 := strip_dd ds hg
  have h2 := h.strip hA
  have h3 := strip_length ds
  have h4 := keepN_le ds ds.length
  rw [hv] at h1
  rw [h1] at h2 h3 hA ⊢
  exact ⟨A', c, rfl, by omega, h2, fun h0 a ha => hb a (by rw [← hA h0]; exact ha)⟩
theorem dig_of_own2 {W : World} {base n : Nat} {v : Value} {ds : List Int} (h : W.ownsRow base 2 1 v n (ds.map (Value.int .i64))) (hn : n ≤ 1000000) :
    ∃ A c, v = .slice A ds.length c ∧ ds.length ≤ c ∧ DigAt W A ds ∧ ∀ a, A = some a → base ≤ a.block := by
  have hl : ds.length = n := by have := h.1; simpa using this
  rcases h.2 with ⟨rfl, rfl⟩ | ⟨g, cap, cur, rfl, hg, hb, hc, _, hs, ht⟩
  · exact ⟨none, 0, by rw [hl], by omega, ⟨by omega, fun h0 => by omega⟩, fun a h => by cases h⟩
  · refine ⟨some ⟨g, 0, none⟩, cap, by rw [hl], by omega, ⟨by omega, fun _ => ⟨g, 0, rfl, fun k x hk => ?_⟩⟩, fun a ha => by cases ha; exact hg⟩
    have h1 : k < ds.length := (List.getElem?_eq_some_iff.1 hk).1
    have h2 : (cur.toList.take (n * 1))[k]? = (ds.map (Value.int .i64))[k]? := by rw [ht]
    rw [List.getElem?_take, if_pos (by omega), Array.getElem?_toList, List.getElem?_map, hk] at h2
    rw [cell_at hb, Nat.zero_add, h2]
    rfl
set_option maxHeartbeats 1000000 in
theorem rplus_any (m n : Nat) (A B : Option Addr) (c d : Nat) (hc : (dd m).length ≤ c) (hd : (dd n).length ≤ d) (hm : (dd m).length ≤ 1000) (hn : (dd n).length ≤ 1000) (w : World) (h1 : DigAt w A (dd m)) (h2 : DigAt w B (dd n)) :
    Calls Tryz.prog 166 #[.slice A (dd m).length c, .slice B (dd n).length d] w fun e w' => ∃ v, e = .returned v ∧ Sl w.heap.size v (m + n) w' ∧ Below w.heap.size w w' := by
  have H1 := Hd.mk h1
  have H2 := Hd.mk h2
  clear h1 h2
  obtain ⟨i0, hi, hz0, hz1, hz2⟩ := info_parts infoLong
  have hu : Tryz.prog.underlying 121 = some (.slice 2) := by kernel_rfl
  obtain ⟨K, hK⟩ : ∃ K : Nat, K = (if (dd m).length < (dd n).length then (dd n).length else (dd m).length) := ⟨_, rfl⟩
  have hKi : (if (dd m).length < (dd n).length then ((dd n).length : Int) else ((dd m).length : Int)) = K := by rw [hK]; split <;> rfl
  have hK1 : K ≤ 1000 := by rw [hK]; split <;> omega
  have hKm : (dd m).length ≤ K := by rw [hK]; split <;> omega
  have hKn : (dd n).length ≤ K := by rw [hK]; split <;> omega
  clear hK
  go_enter Tryz.func166, Tryz.ntmps166
  go_wp2_with (at_make; refine wpList_make_own _ rfl _ _ 121 rfl w.heap.size 2 i0 (.int .i64 0) 1 hu hi hz0 hz1 _ _ _ (K + 1) rfl rfl (by omega) (by rw [hz2]; omega) (by unfold maxLen; omega) (Nat.le_refl _) ?_)
  intro w1 hown hgrow
  have hB : Below w.heap.size w w1 := below_grown hgrow (fun k hk => by cases hk) (Nat.le_refl _)
  clear hgrow
  go_wp2
  go_loopw [5, 6, 7] (fun v cv iv wr => ∃ i : Nat, i ≤ K + 1 ∧ iv = .int .i64 i ∧ cv = .int .i64 (car16 m n i) ∧ wr.ownsRow w.heap.size 2 1 v i (longV (digs16 (m + n) i)) ∧ Below w.heap.size w wr) (fun _ _ iv _ => K + 1 - (intOf iv).toNat)
  case atStart => exact ⟨0, by omega, rfl, by rw [car16_zero]; rfl, hown, hB⟩
  case round =>
    clear hown hB
    obtain ⟨i, hil, rfl, rfl, hown, hB⟩ := hrel
    by_cases hlt : i < K + 1
    · have hd1 : decide ((i : Int) < (K : Int) + 1) = true := by simp; omega
      go_wp2_with fail
      refine (rat_any A c (dd m) i hc _ (H1.out.below hB)).mono ?_
      rintro e w2 ⟨rfl, rfl⟩
      rw [dd_getD]
      go_wp2_with fail
      refine (rat_any B d (dd n) i hd _ (H2.out.below hB)).mono ?_
      rintro e w2 ⟨rfl, rfl⟩
      rw [dd_getD]
      obtain ⟨hS1, hS2⟩ := d16_add m n i
      have hc1 := car16_le m n i
      have x1 := d16_lt m i
      have y1 := d16_lt n i
      obtain ⟨x, hx⟩ := Int.eq_ofNat_of_zero_le (d16_nonneg m i)
      obtain ⟨y, hy⟩ := Int.eq_ofNat_of_zero_le (d16_nonneg n i)
      rw [hx] at x1 hS1 hS2 ⊢
      rw [hy] at y1 hS1 hS2 ⊢
      obtain ⟨C, hC⟩ : ∃ C, C = car16 m n i := ⟨_, rfl⟩
      rw [← hC] at hc1 hS1 hS2 ⊢
      have HS1 := Hd.mk hS1
      have HS2 := Hd.mk hS2
      clear hx hy hC hS1 hS2
      go_wp2_with (at_builtin; refine wpList_append_own_at _ rfl (.tmp 35) (.tmp 38) 121 rfl w.heap.size 2 i0 (.int .i64 0) 1 8 hu hi hz0 hz1 hz2 rfl (by decide) _ i _ rfl (hown.alloc _) ⟨wr.heap.size, 0, none⟩ 1 1 [_] rfl rfl (cell_one_new _ _ _) ?c2 ?b1 ?b2 ?b3 ?go)
      case c2 => intro u hu; simp at hu; subst hu; rfl
      case b1 => unfold maxLen; omega
      case b2 => omega
      case b3 => have := hB.size; simp; omega
      case go =>
        intro v' w1 hown' hgrow _ hat
        have hr : ∀ k, u5.ownBlock = some k → w.heap.size ≤ k := fun k hk => own_ge hown hk
        have hb : Below w.heap.size w w1 := (Below.alloc hB (by have := hB.size; omega) _).trans (below_grown hgrow (fun k hk => hr k hk) (by have := hB.size; simp; omega))
        have HO := Hd.mk hown'
        clear hown hown' hgrow hat hr hB hi hz0 hz1 hz2 hu
        go_wp2
        go_roundw
        case rel =>
          refine ⟨i + 1, by omega, by go_num, by rw [HS2.out], ?_, hb⟩
          rw [digs16_succ]
          unfold longV
          rw [List.map_append, ← HS1.out]
          exact HO.out
        case measure => simp [intOf]; omega
    · obtain rfl : i = K + 1 := by omega
      have hd1 : decide (((K + 1 : Nat) : Int) < (K : Int) + 1) = false := by simp
      obtain ⟨A1, c1, rfl, hc1, hD, hbase⟩ := dig_of_own2 hown (by omega)
      have hv : val (digs16 (m + n) (K + 1)) = m + n := by
        have h1 := (dd_len K m).1 hKm
        have h2 := (dd_len K n).1 hKn
        have h3 : 65536 ^ (K + 1) = 65536 ^ K * 65536 := Nat.pow_succ ..
        rw [val_digs16, Nat.mod_eq_of_lt]
        omega
      have HV := Hd.mk hv
      have HB := Hd.mk hB
      clear hown hB hv
      go_wp2_with fail
      refine (cut_any A1 c1 _ hc1 _ hD).mono ?_
      rintro e w2 ⟨⟨A2, rfl, hA2⟩, rfl⟩
      have HS := Hd.mk (sl_cut hD (digs16_dg _ _) HV.out hc1 hA2 hbase)
      clear hA2
      go_wp2
      go_ret
      exact ⟨_, rfl, HS.out, HB.out⟩
open Go.RowKit Go.BigFrame

/-- What is borrowed at digit i, to the base 65536. -/
def bor16 (a b i : Nat) : Nat := if a % 65536 ^ i < b % 65536 ^ i then 1 else 0
theorem bor16_zero (a b : Nat) : bor16 a b 0 = 0 := by simp [bor16, Nat.mod_one]
theorem bor16_le (a b i : Nat) : bor16 a b i ≤ 1 := by unfold bor16; split <;> omega
theorem less_div (a b P : Nat) (hP : 0 < P) (h : b ≤ a) : (a - b) / P = a / P - b / P - (if a % P < b % P then 1 else 0) ∧ b / P + (if a % P < b % P then 1 else 0) ≤ a / P := by
  have ha := Nat.div_add_mod a P
  have hb := Nat.div_add_mod b P
  have h1 := Nat.mod_lt a hP
  have h2 := Nat.mod_lt b hP
  have hle : b / P ≤ a / P := Nat.div_le_div_right h
  obtain ⟨k, hk⟩ : ∃ k, a / P = b / P + k := ⟨a / P - b / P, by omega⟩
  rw [hk, Nat.mul_add] at ha
  by_cases hc : a % P < b % P
  · rw [if_pos hc]
    have hk1 : k ≠ 0 := by rintro rfl; omega
    obtain ⟨j, rfl⟩ : ∃ j, k = j + 1 := ⟨k - 1, by omega⟩
    rw [Nat.mul_add] at ha
    have h3 := ((Nat.div_mod_unique hP (a := a - b) (c := P + a % P - b % P) (d := j)).2 ⟨by omega, by omega⟩).1
    rw [h3, hk]
    omega
  · rw [if_neg hc]
    have h3 := ((Nat.div_mod_unique hP (a := a - b) (c := a % P - b % P) (d := k)).2 ⟨by omega, by omega⟩).1
    rw [h3, hk]
    omega
theorem d16_sub (a b i : Nat) (h : b ≤ a) : (0 ≤ d16 a i - d16 b i - bor16 a b i → d16 (a - b) i = d16 a i - d16 b i - bor16 a b i ∧ bor16 a b (i + 1) = 0) ∧
    (d16 a i - d16 b i - bor16 a b i < 0 → d16 (a - b) i = d16 a i - d16 b i - bor16 a b i + 65536 ∧ bor16 a b (i + 1) = 1) := by
  have hP : 0 < 65536 ^ i := Nat.pow_pos (by decide)
  obtain ⟨h1, h2⟩ := less_div a b (65536 ^ i) hP h
  have e : bor16 a b (i + 1) = if a / 65536 ^ i % 65536 < b / 65536 ^ i % 65536 + bor16 a b i then 1 else 0 := by
    unfold bor16
    rw [Nat.pow_succ, mod_step a, mod_step b]
    have r1 := Nat.mod_lt a hP
    have r2 := Nat.mod_lt b hP
    generalize a / 65536 ^ i % 65536 = da
    generalize b / 65536 ^ i % 65536 = db
    generalize 65536 ^ i = P at *
    rcases Nat.lt_trichotomy da db with hl | hl | hl
    · obtain ⟨k, rfl⟩ : ∃ k, db = da + 1 + k := ⟨db - da - 1, by omega⟩
      rw [Nat.mul_add, Nat.mul_add]
      have : P * 1 = P := Nat.mul_one P
      rw [if_pos (by omega), if_pos (by omega)]
    · subst hl
      by_cases hc : a % P < b % P
      · rw [if_pos hc, if_pos (by omega), if_pos (by omega)]
      · rw [if_neg hc, if_neg (by omega), if_neg (by omega)]
    · obtain ⟨k, rfl⟩ : ∃ k, da = db + 1 + k := ⟨da - db - 1, by omega⟩
      rw [Nat.mul_add, Nat.mul_add]
      have : P * 1 = P := Nat.mul_one P
      rw [if_neg (by omega), if_neg (by split <;> omega)]
  have hb := bor16_le a b i
  have h1' : (a - b) / 65536 ^ i = a / 65536 ^ i - b / 65536 ^ i - bor16 a b i := h1
  have h2' : b / 65536 ^ i + bor16 a b i ≤ a / 65536 ^ i := h2
  rw [e]
  unfold d16
  rw [h1']
  generalize bor16 a b i = c at *
  generalize a / 65536 ^ i = qa at *
  generalize b / 65536 ^ i = qb at *
  constructor
  · intro h3
    rw [if_neg (by omega)]
    omega
  · intro h3
    rw [if_pos (by omega)]
    omega
theorem rat_d (n i : Nat) (y : Int) (hy : d16 n i = y) (A : Option Addr) (c : Nat) (hc : (dd n).length ≤ c) (w : World) (h : DigAt w A (dd n)) :
    Calls Tryz.prog 144 #[.slice A (dd n).length c, .int .i64 i] w fun e w' => e = .returned (.int .i64 y) ∧ w = w' := by
  have h1 := rat_any A c (dd n) i hc w h
  rw [dd_getD, hy] at h1
  exact h1
set_option maxHeartbeats 1000000 in
theorem rless_any (m n : Nat) (hmn : n ≤ m) (A B : Option Addr) (c d : Nat) (hc : (dd m).length ≤ c) (hd : (dd n).length ≤ d) (hm : (dd m).length ≤ 1000) (_hn : (dd n).length ≤ 1000) (w : World) (h1 : DigAt w A (dd m)) (h2 : DigAt w B (dd n)) :
    Calls Tryz.prog 167 #[.slice A (dd m).length c, .slice B (dd n).length d] w fun e w' => ∃ v, e = .returned v ∧ Sl w.heap.size v (m - n) w' ∧ Below w.heap.size w w' := by
  have H1 := Hd.mk h1
  have H2 := Hd.mk h2
  clear h1 h2
  obtain ⟨i0, hi, hz0, hz1, hz2⟩ := info_parts infoLong
  have hu : Tryz.prog.underlying 121 = some (.slice 2) := by kernel_rfl
  obtain ⟨K, hK⟩ : ∃ K : Nat, (dd m).length = K := ⟨_, rfl⟩
  have HK := Hd.mk hK
  rw [hK] at hc hm ⊢
  clear hK
  go_enter Tryz.func167, Tryz.ntmps167
  go_wp2_with (at_make; refine wpList_make_own _ rfl _ _ 121 rfl w.heap.size 2 i0 (.int .i64 0) 1 hu hi hz0 hz1 _ _ _ K rfl rfl rfl (by rw [hz2]; omega) (by unfold maxLen; omega) (Nat.le_refl _) ?_)
  intro w1 hown hgrow
  have hB : Below w.heap.size w w1 := below_grown hgrow (fun k hk => by cases hk) (Nat.le_refl _)
  clear hgrow
  go_wp2
  go_loopw [5, 6, 7] (fun v cv iv wr => ∃ i : Nat, i ≤ K ∧ iv = .int .i64 i ∧ cv = .int .i64 (bor16 m n i) ∧ wr.ownsRow w.heap.size 2 1 v i (longV (digs16 (m - n) i)) ∧ Below w.heap.size w wr) (fun _ _ iv _ => K - (intOf iv).toNat)
  case atStart => exact ⟨0, by omega, rfl, by rw [bor16_zero]; rfl, hown, hB⟩
  case round =>
    clear hown hB
    obtain ⟨i, hil, rfl, rfl, hown, hB⟩ := hrel
    by_cases hlt : i < K
    · have hd1 : decide (i < K) = true := by simpa using hlt
      obtain ⟨g, off, rfl, hcell⟩ := (H1.out.below hB).2 (by rw [HK.out]; omega)
      obtain ⟨x', hx'⟩ : ∃ x, (dd m)[i]? = some x := ⟨_, List.getElem?_eq_getElem (by rw [HK.out]; omega)⟩
      have g1 := hcell i x' hx'
      have l1 := World.block_lt_of_cell? _ _ g1
      have hxd := dd_get i m x' hx'
      obtain ⟨hS1, hS2⟩ := d16_sub m n i hmn
      have hc1 := bor16_le m n i
      rw [← hxd] at hS1 hS2
      have x1 := dd_range m x' (List.mem_of_getElem? hx')
      obtain ⟨x, rfl⟩ := Int.eq_ofNat_of_zero_le x1.1
      have x1 := x1.2
      have y1 := d16_lt n i
      obtain ⟨y, hy⟩ := Int.eq_ofNat_of_zero_le (d16_nonneg n i)
      rw [hy] at y1 hS1 hS2
      obtain ⟨C, hC⟩ : ∃ C, C = bor16 m n i := ⟨_, rfl⟩
      rw [← hC] at hc1 hS1 hS2 ⊢
      have HY := Hd.mk hy
      clear hy hC hcell hx' hxd
      by_cases hneg : (x : Int) - y - C < 0
      · have HS := Hd.mk (hS2 hneg)
        have hd2 : decide ((x : Int) - y - C < 0) = true := by simpa using hneg
        clear hS1 hS2 hneg
        go_wp2
        refine region_mix 10 (by kernel_rfl) (by kernel_rfl) (fun _ _ _ _ h => h) fun X _ mk hmk hcl => ?_
        have c1 := fun x => ((hmk x).cell l1).trans g1
        simp only [List.take_succ_cons, List.take_zero, List.drop_succ_cons, List.drop_zero]
        repeat (go_big_quiet_step ((go_at_call 144; exact (rat_d n i _ HY.out B d hd _ ((H2.out.below hB).below (hmk _))).mono fun e w' ⟨he, hw⟩ => ⟨he, _, hw.symm⟩)))
        refine wpQuiet_nil ?_
        rintro _ ⟨x, rfl⟩
        have hw1 := hmk x
        clear hcl hmk c1
        generalize mk x = W1 at hw1
        have hown := own_below hown hw1
        have hB := below_on hB hw1
        go_wp2_with (at_builtin; refine wpList_append_own_at _ rfl (.tmp 32) (.tmp 34) 121 rfl w.heap.size 2 i0 (.int .i64 0) 1 8 hu hi hz0 hz1 hz2 rfl (by decide) _ i _ rfl (hown.alloc _) ⟨W1.heap.size, 0, none⟩ 1 1 [_] rfl rfl (cell_one_new _ _ _) ?c2 ?b1 ?b2 ?b3 ?go)
        case c2 => intro u hu; simp at hu; subst hu; rfl
        case b1 => unfold maxLen; omega
        case b2 => omega
        case b3 => have := hB.size; simp; omega
        case go =>
          intro v' w1 hown' hgrow _ hat
          have hr : ∀ k, u5.ownBlock = some k → w.heap.size ≤ k := fun k hk => own_ge hown hk
          have hb : Below w.heap.size w w1 := (Below.alloc hB (by have := hB.size; omega) _).trans (below_grown hgrow (fun k hk => hr k hk) (by have := hB.size; simp; omega))
          have HO := Hd.mk hown'
          clear hown hown' hgrow hat hr hB hi hz0 hz1 hz2 hu
          go_wp2
          go_roundw
          case rel =>
            refine ⟨i + 1, by omega, by go_num, by rw [HS.out.2]; rfl, ?_, hb⟩
            rw [digs16_succ]
            unfold longV
            rw [List.map_append, HS.out.1]
            exact HO.out
          case measure => simp [intOf]; omega
      · have HS := Hd.mk (hS1 (by omega))
        have hd2 : decide ((x : Int) - y - C < 0) = false := by simpa using hneg
        clear hS1 hS2 hneg
        go_wp2
        refine region_mix 10 (by kernel_rfl) (by kernel_rfl) (fun _ _ _ _ h => h) fun X _ mk hmk hcl => ?_
        have c1 := fun x => ((hmk x).cell l1).trans g1
        simp only [List.take_succ_cons, List.take_zero, List.drop_succ_cons, List.drop_zero]
        repeat (go_big_quiet_step ((go_at_call 144; exact (rat_d n i _ HY.out B d hd _ ((H2.out.below hB).below (hmk _))).mono fun e w' ⟨he, hw⟩ => ⟨he, _, hw.symm⟩)))
        refine wpQuiet_nil ?_
        rintro _ ⟨x, rfl⟩
        have hw1 := hmk x
        clear hcl hmk c1
        generalize mk x = W1 at hw1
        have hown := own_below hown hw1
        have hB := below_on hB hw1
        go_wp2_with (at_builtin; refine wpList_append_own_at _ rfl (.tmp 32) (.tmp 34) 121 rfl w.heap.size 2 i0 (.int .i64 0) 1 8 hu hi hz0 hz1 hz2 rfl (by decide) _ i _ rfl (hown.alloc _) ⟨W1.heap.size, 0, none⟩ 1 1 [_] rfl rfl (cell_one_new _ _ _) ?c2 ?b1 ?b2 ?b3 ?go)
        case c2 => intro u hu; simp at hu; subst hu; rfl
        case b1 => unfold maxLen; omega
        case b2 => omega
        case b3 => have := hB.size; simp; omega
        case go =>
          intro v' w1 hown' hgrow _ hat
          have hr : ∀ k, u5.ownBlock = some k → w.heap.size ≤ k := fun k hk => own_ge hown hk
          have hb : Below w.heap.size w w1 := (Below.alloc hB (by have := hB.size; omega) _).trans (below_grown hgrow (fun k hk => hr k hk) (by have := hB.size; simp; omega))
          have HO := Hd.mk hown'
          clear hown hown' hgrow hat hr hB hi hz0 hz1 hz2 hu
          go_wp2
          go_roundw
          case rel =>
            refine ⟨i + 1, by omega, by go_num, by rw [HS.out.2]; rfl, ?_, hb⟩
            rw [digs16_succ]
            unfold longV
            rw [List.map_append, HS.out.1]
            exact HO.out
          case measure => simp [intOf]; omega
    · obtain rfl : i = K := by omega
      have hd1 : decide (i < i) = false := by simp
      obtain ⟨A1, c1, rfl, hc1, hD, hbase⟩ := dig_of_own2 hown (by omega)
      have hv : val (digs16 (m - n) i) = m - n := by
        have h1 := (dd_len i m).1 (by rw [HK.out]; exact Nat.le_refl _)
        rw [val_digs16, Nat.mod_eq_of_lt]
        omega
      have HV := Hd.mk hv
      have HB := Hd.mk hB
      clear hown hB hv
      go_wp2_with fail
      refine (cut_any A1 c1 _ hc1 _ hD).mono ?_
      rintro e w2 ⟨⟨A2, rfl, hA2⟩, rfl⟩
      have HS := Hd.mk (sl_cut hD (digs16_dg _ _) HV.out hc1 hA2 hbase)
      clear hA2
      go_wp2
      go_ret
      exact ⟨_, rfl, HS.out, HB.out⟩
end Go.Proofs.YtfchmikbebdflaaGreatDoor
