/-
  Walks of the references: From. Conditions stand in each theorem.
-/
import Derived.Test.YteibcklcegkbcaaRf3
namespace Go.Proofs.Yteibcklcegkbcaa
open Go.RowKit Go.BigFrame

/-- The digits of a row that is owned. -/
theorem dig_of_own {W : World} {base n : Nat} {v : Value} {ds : List Int} (h : W.ownsRow base 2 1 v n (ds.map (Value.int .i64))) (hn : n ≤ 1000000) : ∃ A c, v = .slice A ds.length c ∧ ds.length ≤ c ∧ DigAt W A ds := by
  have hl : ds.length = n := by have := h.1; simpa using this
  rcases h.2 with ⟨rfl, rfl⟩ | ⟨g, cap, cur, rfl, _, hb, hc, _, hs, ht⟩
  · exact ⟨none, 0, by rw [hl], by omega, by omega, fun h0 => by omega⟩
  · refine ⟨some ⟨g, 0, none⟩, cap, by rw [hl], by omega, by omega, fun _ => ⟨g, 0, rfl, fun k x hk => ?_⟩⟩
    have h1 : k < ds.length := (List.getElem?_eq_some_iff.1 hk).1
    have h2 : (cur.toList.take (n * 1))[k]? = (ds.map (Value.int .i64))[k]? := by rw [ht]
    rw [List.getElem?_take, if_pos (by omega), Array.getElem?_toList, List.getElem?_map, hk] at h2
    rw [cell_at hb, Nat.zero_add, h2]
    rfl
theorem cell_set_other (W : World) (b k : Nat) {p : Addr} (hp : b ≠ p.block) (v : Value) : (W.setCell p v).cell? ⟨b, k, none⟩ = W.cell? ⟨b, k, none⟩ := by
  have h := Below.heap_setCell W p v b hp
  unfold World.cell?
  simp only [h]
theorem DigAt.laid {W : World} {A : Option Addr} {ds : List Int} (h : DigAt W A ds) {b n m : Nat} {s : Bool} {B : Option Addr} {t : TypeId} {f : Nat × Nat} (hb : W.heap[b]? = some (.cells #[.bool s, .slice B n m] t f)) (v0 v1 : Value) :
    DigAt ((W.setCell ⟨b, 0, none⟩ v0).setCell ⟨b, 1, none⟩ v1) A ds := by
  refine ⟨h.1, fun h0 => ?_⟩
  obtain ⟨g, off, rfl, hc⟩ := h.2 h0
  refine ⟨g, off, rfl, fun k x hk => ?_⟩
  have hc1 := hc k x hk
  have hne : g ≠ b := by
    rintro rfl
    rw [cell_at hb] at hc1
    match off + k, hc1 with
    | 0, hc1 => simp at hc1
    | 1, hc1 => simp at hc1
    | j + 2, hc1 => simp at hc1
  rw [cell_set_other _ _ _ hne, cell_set_other _ _ _ hne]
  exact hc1
theorem BigAt.laid {W : World} {v : Value} {z : Int} (h : BigAt W v z) {b n m : Nat} {s : Bool} {B : Option Addr} {t : TypeId} {f : Nat × Nat} (hb : W.heap[b]? = some (.cells #[.bool s, .slice B n m] t f)) (v0 v1 : Value) :
    BigAt ((W.setCell ⟨b, 0, none⟩ v0).setCell ⟨b, 1, none⟩ v1) v z := by
  obtain ⟨A, c, h1, h2, h3⟩ := h
  exact ⟨A, c, h1, h2, h3.laid hb v0 v1⟩
theorem infoLong : (Try.prog.info? 2).map (fun i => (i.zero, i.size, i.bytes)) = some (some (.int .i64 0), 1, 8) := by kernel_rfl
/-- Digit j to the base 65536. -/
def d16 (n j : Nat) : Int := ((n / 65536 ^ j % 65536 : Nat) : Int)
def digs16 (n m : Nat) : List Int := (List.range m).map (d16 n)
theorem digs16_succ (n m : Nat) : digs16 n (m + 1) = digs16 n m ++ [d16 n m] := by
  unfold digs16; rw [List.range_succ, List.map_append]; rfl
theorem digs16_length (n m : Nat) : (digs16 n m).length = m := by unfold digs16; simp
theorem digs16_dg (n m : Nat) : Dg (digs16 n m) := by
  intro x hx
  unfold digs16 at hx
  obtain ⟨j, _, rfl⟩ := List.mem_map.1 hx
  unfold d16
  omega
theorem val_digs16 (n : Nat) : ∀ m, val (digs16 n m) = n % 65536 ^ m
  | 0 => by rw [Nat.pow_zero, Nat.mod_one]; rfl
  | m + 1 => by
    rw [digs16_succ, val_append, val_digs16 n m, digs16_length, Nat.pow_succ, Nat.mod_mul]
    simp only [val, d16, Int.toNat_natCast, Nat.mul_zero, Nat.add_zero]
theorem pow16 (q r : Nat) : 65536 ^ (4 * q + r) = 2 ^ (64 * q) * 2 ^ (16 * r) := by
  rw [show (65536 : Nat) = 2 ^ 16 from by decide, ← Nat.pow_mul, ← Nat.pow_add]; congr 1; omega
theorem d16_dg (n q r : Nat) (hr : r < 4) : d16 n (4 * q + r) = ((((dg n q).toNat / 2 ^ (16 * r)) % 65536 : Nat) : Int) := by
  have h1 : (dg n q).toNat = n / 2 ^ (64 * q) % 18446744073709551616 := by unfold dg; omega
  have h2 : (18446744073709551616 : Nat) = 2 ^ (16 * r) * (65536 * 2 ^ (16 * (3 - r))) := by
    rw [show (18446744073709551616 : Nat) = 2 ^ 64 from by decide, show (65536 : Nat) = 2 ^ 16 from by decide, ← Nat.pow_add, ← Nat.pow_add]; congr 1; omega
  unfold d16
  rw [h1, pow16, ← Nat.div_div_eq_div_mul, h2, Nat.mod_mul_right_div_self, Nat.mod_mul_right_mod]
/-- A digit to the base 65536 laid over those below. -/
theorem dg_lay16 (n q r i : Nat) (hr : r < 4) : dg (n % 65536 ^ (4 * q + r + 1)) i = if i = q then (((dg (n % 65536 ^ (4 * q + r)) i).toNat ||| (d16 n (4 * q + r)).toNat * 2 ^ (16 * r) : Nat) : Int) else dg (n % 65536 ^ (4 * q + r)) i := by
  have hbig : ∀ s, s ≤ 4 → ∀ i, i = q → n % 65536 ^ (4 * q + s) / 2 ^ (64 * i) % 18446744073709551616 = n / 2 ^ (64 * i) % 2 ^ (16 * s) := by
    rintro s hs i rfl
    rw [pow16, Nat.mod_mul_right_div_self, Nat.mod_eq_of_lt]
    refine Nat.lt_of_lt_of_le (Nat.mod_lt _ (Nat.two_pow_pos _)) ?_
    rw [show (18446744073709551616 : Nat) = 2 ^ 64 from by decide]
    exact Nat.pow_le_pow_right (by decide) (by omega)
  by_cases h : i = q
  · rw [if_pos h]
    have e1 : dg (n % 65536 ^ (4 * q + r + 1)) i = ((n / 2 ^ (64 * i) % 2 ^ (16 * (r + 1)) : Nat) : Int) := congrArg Int.ofNat (hbig (r + 1) (by omega) i h)
    have e2 : dg (n % 65536 ^ (4 * q + r)) i = ((n / 2 ^ (64 * i) % 2 ^ (16 * r) : Nat) : Int) := congrArg Int.ofNat (hbig r (by omega) i h)
    have e3 : d16 n (4 * q + r) = ((n / 2 ^ (64 * i) / 2 ^ (16 * r) % 65536 : Nat) : Int) := by
      unfold d16; rw [pow16, ← Nat.div_div_eq_div_mul, h]
    rw [e1, e2, e3, Int.toNat_natCast, Int.toNat_natCast]
    generalize n / 2 ^ (64 * i) = x
    have h1 : x % 2 ^ (16 * r) < 2 ^ (16 * r) := Nat.mod_lt _ (Nat.two_pow_pos _)
    have h2 : (2 : Nat) ^ (16 * (r + 1)) = 2 ^ (16 * r) * 65536 := by
      rw [show (65536 : Nat) = 2 ^ 16 from by decide, ← Nat.pow_add]; congr 1
    rw [h2, Nat.mod_mul, Nat.or_comm, Nat.mul_comm (x / 2 ^ (16 * r) % 65536), ← Nat.two_pow_add_eq_or_of_lt h1, Nat.add_comm]
  · rw [if_neg h]
    unfold dg
    congr 1
    by_cases hlt : i < q
    · have h3 : ∀ s, n % 65536 ^ (4 * q + s) / 2 ^ (64 * i) % 18446744073709551616 = n / 2 ^ (64 * i) % 18446744073709551616 := by
        intro s
        have h4 : 2 ^ (64 * q) * 2 ^ (16 * s) = 2 ^ (64 * i) * (18446744073709551616 * 2 ^ (64 * (q - i - 1) + 16 * s)) := by
          rw [show (18446744073709551616 : Nat) = 2 ^ 64 from by decide, ← Nat.pow_add, ← Nat.pow_add, ← Nat.pow_add]; congr 1; omega
        rw [pow16, h4, Nat.mod_mul_right_div_self, Nat.mod_mul_right_mod]
      rw [show 4 * q + r + 1 = 4 * q + (r + 1) from rfl, h3, h3]
    · have h3 : ∀ s, s ≤ 4 → n % 65536 ^ (4 * q + s) / 2 ^ (64 * i) = 0 := by
        intro s hs
        refine Nat.div_eq_of_lt (Nat.lt_of_lt_of_le (Nat.mod_lt _ (Nat.pow_pos (by decide))) ?_)
        rw [pow16, ← Nat.pow_add]
        exact Nat.pow_le_pow_right (by decide) (by omega)
      rw [show 4 * q + r + 1 = 4 * q + (r + 1) from rfl, h3 _ (by omega), h3 _ (by omega)]
theorem cut16 (n q r : Nat) (hr : r < 4) : wrap64 (Int.tmod (dg n q / 2 ^ (16 * r)) 65536) = d16 n (4 * q + r) := by
  rw [d16_dg n q r hr]
  obtain ⟨x, hx⟩ := Int.eq_ofNat_of_zero_le (dg_nonneg n q)
  rw [hx, Int.toNat_natCast]
  have e : (x : Int) / 2 ^ (16 * r) = ((x / 2 ^ (16 * r) : Nat) : Int) := by rw [Int.natCast_ediv, Int.natCast_pow]; rfl
  rw [e]
  generalize x / 2 ^ (16 * r) = y
  rw [Int.tmod_eq_emod_of_nonneg (by omega), IntWalk.wrap64_in _ (by omega)]
  omega
def longV (l : List Int) : List Value := l.map (Value.int .i64)
set_option maxHeartbeats 1000000 in
theorem from_any (p : Bool × Nat) (hp : p.2 < 2 ^ 256) (w : World) :
    Calls Try.prog 18 #[.agg #[.bool (p.1), .int .u64 (dg (p.2) 0), .int .u64 (dg (p.2) 1), .int .u64 (dg (p.2) 2), .int .u64 (dg (p.2) 3)]] w fun e w' => ∃ v, e = .returned v ∧ BigAt w' v (zof p.1 p.2) ∧ Below w.heap.size w w' := by
  have HP := Hd.mk hp
  clear hp
  go_enter Try.func18, Try.ntmps18
  go_wp2
  have hinfo := info_parts infoLong
  refine abs_wp (fun W => W.heap[w.heap.size]? = some (.cells #[.bool (p.1), .int .u64 (dg (p.2) 0), .int .u64 (dg (p.2) 1), .int .u64 (dg (p.2) 2), .int .u64 (dg (p.2) 3)] 25 (0, 0)) ∧ W.heap[w.heap.size + 1]? = some (.cells #[.bool false, .slice none 0 0] 38 (0, 0)) ∧ W.ownsRow (w.heap.size + 1 + 1) 2 1 (.slice none 0 0) 0 [] ∧ Below w.heap.size w W) ⟨heap_old (heap_new _ _) _, heap_at (by simp) _, ⟨rfl, .inl ⟨rfl, rfl⟩⟩, by focus (repeat (first | (with_reducible exact Below.refl _ _) | (with_reducible assumption) | ((with_reducible refine Below.setCell ?_ ?_ _); rotate_left; (focus (first | omega | (simp; done) | (simp; omega)))) | ((with_reducible refine Below.alloc ?_ ?_ _); rotate_left; (focus (first | omega | (simp; done) | (simp; omega)))) | (with_reducible refine Below.drew ?_) | (refine below_on ?_ (by assumption))))⟩ fun W ⟨y0, y1, hown, hB⟩ => ?_
  have hs1 := lt_of_block y1
  go_loopw [3, 4] (fun v ci wr => ∃ i : Nat, i ≤ 4 ∧ ci = .int .i64 i ∧ wr.heap[w.heap.size]? = some (.cells #[.bool (p.1), .int .u64 (dg (p.2) 0), .int .u64 (dg (p.2) 1), .int .u64 (dg (p.2) 2), .int .u64 (dg (p.2) 3)] 25 (0, 0)) ∧ wr.heap[w.heap.size + 1]? = some (.cells #[.bool false, .slice none 0 0] 38 (0, 0)) ∧
    wr.ownsRow (w.heap.size + 1 + 1) 2 1 v (4 * i) (longV (digs16 p.2 (4 * i))) ∧ Below w.heap.size w wr) (fun _ ci _ => 4 - (intOf ci).toNat)
  case atStart => exact ⟨0, by omega, rfl, y0, y1, hown, hB⟩
  case round =>
    clear y0 y1 hown hB
    obtain ⟨i, hi, rfl, y0, y1, hown, hB⟩ := hrel
    by_cases hlt : i < 4
    · have hdi : decide ((i : Int) < 4) = true := by simp; omega
      go_wp2
      go_loopw [3, 5] (fun v ck wr => ∃ k : Nat, k ≤ 4 ∧ ck = .int .i64 k ∧ wr.heap[w.heap.size]? = some (.cells #[.bool (p.1), .int .u64 (dg (p.2) 0), .int .u64 (dg (p.2) 1), .int .u64 (dg (p.2) 2), .int .u64 (dg (p.2) 3)] 25 (0, 0)) ∧ wr.heap[w.heap.size + 1]? = some (.cells #[.bool false, .slice none 0 0] 38 (0, 0)) ∧
        wr.ownsRow (w.heap.size + 1 + 1) 2 1 v (4 * i + k) (longV (digs16 p.2 (4 * i + k))) ∧ Below w.heap.size w wr) (fun _ ck _ => 4 - (intOf ck).toNat)
      case atStart => exact ⟨0, by omega, rfl, y0, y1, hown, hB⟩
      case round =>
        clear y0 y1 hown hB
        obtain ⟨k, hk, rfl, y0, y1, hown, hB⟩ := hrel
        have hs1 := lt_of_block y1
        have hs0 := lt_of_block y0
        by_cases hlk : k < 4
        · have hdk : decide ((k : Int) < 4) = true := by simp; omega
          have H16 := Hd.mk (d16_dg p.2 i k hlk)
          have c0 : wr.cell? ⟨w.heap.size, 1 + i, none⟩ = some (.int .u64 (dg p.2 i)) := by
            rw [cell_at y0]
            obtain rfl | rfl | rfl | rfl : i = 0 ∨ i = 1 ∨ i = 2 ∨ i = 3 := by omega
            all_goals rfl
          have hi1 : (0 : Int) ≤ i := by omega
          have hi2 : (i : Int) < 4 := by omega
          have hk1 : (0 : Int) ≤ k := by omega
          have hk2 : (k : Int) < 4 := by omega
          obtain ⟨i0, hi, hz0, hz1, hz2⟩ := hinfo
          have hu : Try.prog.underlying 36 = some (.slice 2) := by kernel_rfl
          go_wp2_with (at_builtin; refine wpList_append_own_at _ rfl (.tmp 14) (.tmp 25) 36 rfl (w.heap.size + 1 + 1) 2 i0 (.int .i64 0) 1 8 hu hi hz0 hz1 hz2 rfl (by decide) _ (4 * i + k) _ rfl (hown.alloc _) ⟨wr.heap.size, 0, none⟩ 1 1 [_] rfl rfl (cell_one_new _ _ _) ?c2 ?b1 ?b2 ?b3 ?go)
          case c2 => intro u hu; simp at hu; subst hu; rfl
          case b1 => unfold maxLen; omega
          case b2 => omega
          case b3 => simp; omega
          case go =>
            intro v' w1 hown' hgrow _ hat
            rw [cut16 _ _ _ hlk] at hown'
            have hr : ∀ k, u3.ownBlock = some k → w.heap.size + 1 + 1 ≤ k := fun k hk => own_ge hown hk
            have hb : Below w.heap.size w w1 := (Below.alloc hB (by omega) _).trans (below_grown hgrow (fun k hk => by have := hr k hk; omega) (by simp; omega))
            have z0 := (hgrow.block w.heap.size (by simp; omega) (fun e => by have := hr _ e.symm; omega)).trans (heap_old y0 _)
            have z1 := (hgrow.block (w.heap.size + 1) (by simp; omega) (fun e => by have := hr _ e.symm; omega)).trans (heap_old y1 _)
            have HO := Hd.mk hown'
            clear hown hown' hgrow hat hr y0 y1 hB c0 hi hz0 hz1 hz2 hu
            go_wp2
            go_roundw
            case rel =>
              refine ⟨k + 1, by omega, by go_num, z0, z1, ?_, hb⟩
              rw [show 4 * i + (k + 1) = 4 * i + k + 1 from rfl, digs16_succ]
              unfold longV
              rw [List.map_append]
              exact HO.out
            case measure => simp [intOf]; omega
        · obtain rfl : k = 4 := by omega
          have hdk : decide (((4 : Nat) : Int) < 4) = false := by simp
          go_wp2
          go_roundw
          case rel => exact ⟨i + 1, by omega, by go_num, y0, y1, hown, hB⟩
          case measure => simp [intOf]; omega
    · obtain rfl : i = 4 := by omega
      have c0 : wr.cell? ⟨w.heap.size, 0, none⟩ = some (.bool p.1) := cell_at y0 0
      have hs1 := lt_of_block y1
      obtain ⟨A, c, rfl, hc, hD⟩ := dig_of_own hown (by omega)
      have HB := Hd.mk hB
      clear hown hB
      go_wp2_with fail
      refine (rof_any p.1 A c _ hc (digs16_dg _ _) _ hD).mono ?_
      rintro e w2 ⟨v, rfl, hV, hb⟩
      have hN : val (digs16 p.2 (4 * 4)) = p.2 := by
        rw [val_digs16, Nat.mod_eq_of_lt]; exact HP.out
      rw [hN] at hV
      have hw := below_on HB.out hb
      have z1 := heap_below hb y1
      clear c0 hD y0 y1 hb hN
      obtain ⟨A', c', rfl, h1, h2⟩ := hV
      have hs2 := lt_of_block z1
      have q1 := cell_at z1
      have q2 := frozen_at z1
      have HD := Hd.mk (h2.laid z1)
      clear h2
      go_wp2
      have z2 := laid_both (w.heap.size + 1) w2 (.bool (ng (zof p.1 p.2))) (.slice A' (dd (ab (zof p.1 p.2))).length c') z1 rfl
      have c1 := cell_at z2
      refine bodyPost_ret (by simp [results, Try.results18, go_sem, c1]) rfl ⟨_, rfl, ⟨A', c', rfl, h1, HD.out _ _⟩, by focus (repeat (first | (with_reducible exact Below.refl _ _) | (with_reducible assumption) | ((with_reducible refine Below.setCell ?_ ?_ _); rotate_left; (focus (first | omega | (simp; done) | (simp; omega)))) | ((with_reducible refine Below.alloc ?_ ?_ _); rotate_left; (focus (first | omega | (simp; done) | (simp; omega)))) | (with_reducible refine Below.drew ?_) | (refine below_on ?_ (by assumption))))⟩
end Go.Proofs.Yteibcklcegkbcaa
