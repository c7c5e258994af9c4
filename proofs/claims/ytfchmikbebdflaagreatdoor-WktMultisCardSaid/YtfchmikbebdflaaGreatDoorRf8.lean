/-
  Walks of the references: Num. Conditions stand in each theorem.
-/
import Derived.Test.YtfchmikbebdflaaGreatDoorRf6
namespace Go.Proofs.YtfchmikbebdflaaGreatDoor
open Go.RowKit Go.BigFrame

theorem dd_get : ∀ (i n : Nat) (y : Int), (dd n)[i]? = some y → y = d16 n i
  | 0, n, y, h => by
    by_cases h0 : n = 0
    · rw [h0, dd_zero] at h; cases h
    · rw [dd_pos h0] at h
      simp only [List.getElem?_cons_zero, Option.some.injEq] at h
      rw [← h]; unfold d16; rw [Nat.pow_zero, Nat.div_one]
  | i + 1, n, y, h => by
    by_cases h0 : n = 0
    · rw [h0, dd_zero] at h; cases h
    · rw [dd_pos h0, List.getElem?_cons_succ] at h
      rw [dd_get i _ y h]
      unfold d16
      rw [Nat.pow_succ, Nat.mul_comm, ← Nat.div_div_eq_div_mul]
theorem lay16_bits (X i : Nat) (y : Int) (h0 : 0 ≤ y) (h1 : y < 65536) (j : Nat) : bits .or .u64 (dg X j) (IntKind.u64.wrap (IntKind.u64.wrap y * 2 ^ (16 * (i % 4)))) = (((dg X j).toNat ||| y.toNat * 2 ^ (16 * (i % 4)) : Nat) : Int) := by
  have h2 := dg_lt X j
  obtain ⟨a, ha⟩ := Int.eq_ofNat_of_zero_le (dg_nonneg X j)
  obtain ⟨b, rfl⟩ := Int.eq_ofNat_of_zero_le h0
  rw [ha] at h2 ⊢
  have h3 : IntKind.u64.wrap (b : Int) = (b : Int) := by rw [IntKind.wrap_u64]; omega
  have h4 : b * 2 ^ (16 * (i % 4)) < 18446744073709551616 := by
    obtain h | h | h | h : i % 4 = 0 ∨ i % 4 = 1 ∨ i % 4 = 2 ∨ i % 4 = 3 := by omega
    all_goals rw [h]; omega
  have h5 : (b : Int) * 2 ^ (16 * (i % 4)) = ((b * 2 ^ (16 * (i % 4)) : Nat) : Int) := by rw [Int.natCast_mul, Int.natCast_pow]; rfl
  have h6 : IntKind.u64.wrap ((b * 2 ^ (16 * (i % 4)) : Nat) : Int) = ((b * 2 ^ (16 * (i % 4)) : Nat) : Int) := by rw [IntKind.wrap_u64]; omega
  rw [h3, h5, h6, bits_or_u64_nat _ _ (by omega) h4, Int.toNat_natCast, Int.toNat_natCast]
theorem lay16_cells (s : Bool) (n i : Nat) (y : Int) (hi : i < 16) (h0 : 0 ≤ y ∧ y < 65536) (hy : y = d16 n i) :
    (#[.bool (s), .int .u64 (dg (n % 65536 ^ i) 0), .int .u64 (dg (n % 65536 ^ i) 1), .int .u64 (dg (n % 65536 ^ i) 2), .int .u64 (dg (n % 65536 ^ i) 3)] : Array Value).setIfInBounds (1 + i / 4) (.int .u64 (bits .or .u64 (dg (n % 65536 ^ i) (i / 4)) (IntKind.u64.wrap (IntKind.u64.wrap y * 2 ^ (16 * (i % 4)))))) = #[.bool (s), .int .u64 (dg (n % 65536 ^ (i + 1)) 0), .int .u64 (dg (n % 65536 ^ (i + 1)) 1), .int .u64 (dg (n % 65536 ^ (i + 1)) 2), .int .u64 (dg (n % 65536 ^ (i + 1)) 3)] := by
  rw [lay16_bits _ _ _ h0.1 h0.2]
  have e : 4 * (i / 4) + i % 4 = i := by omega
  have h := fun j => dg_lay16 n (i / 4) (i % 4) j (by omega)
  rw [e, ← hy] at h
  rw [h 0, h 1, h 2, h 3]
  obtain h | h | h | h : i / 4 = 0 ∨ i / 4 = 1 ∨ i / 4 = 2 ∨ i / 4 = 3 := by omega
  all_goals simp [h]
def ToInv (n : Nat) (s : Bool) (A : Option Addr) (c : Nat) (w : World) (i : Nat) (wr : World) : Prop :=
  wr.heap[w.heap.size]? = some (.cells #[.bool s, .slice A (dd n).length c] 123 (0, 0)) ∧ wr.heap[w.heap.size + 1]? = some (.cells #[.bool (false), .int .u64 (dg (0) 0), .int .u64 (dg (0) 1), .int .u64 (dg (0) 2), .int .u64 (dg (0) 3)] 89 (0, 0)) ∧
    wr.heap[w.heap.size + 2]? = some (.cells #[.bool (s), .int .u64 (dg (n % 65536 ^ i) 0), .int .u64 (dg (n % 65536 ^ i) 1), .int .u64 (dg (n % 65536 ^ i) 2), .int .u64 (dg (n % 65536 ^ i) 3)] 89 (0, 0)) ∧ Below w.heap.size w wr
open Go.RowKit Go.BigFrame

theorem dd_min : dd 9223372036854775808 = [0, 0, 0, 32768] := by
  have h := dd_val [0, 0, 0, 32768] (fun x hx => by simp at hx; omega) (fun m hm => by
    obtain rfl : m = 3 := by simpa using hm.symm
    decide)
  exact h
set_option maxHeartbeats 1000000 in
theorem rnum_min (w : World) :
    Calls Tryz.prog 118 #[.int .i64 (-9223372036854775808)] w fun e w' => ∃ v, e = .returned v ∧ BigAt w' v (-9223372036854775808) ∧ Below w.heap.size w w' := by
  go_enter Tryz.func118, Tryz.ntmps118
  go_wp2
  refine abs_post (fun W => W.heap[w.heap.size]? = some (.cells #[.bool true, .slice (some ⟨w.heap.size + 1, 0, none⟩) 4 4] 123 (0, 0)) ∧
    W.heap[w.heap.size + 1]? = some (.cells #[.int .i64 0, .int .i64 0, .int .i64 0, .int .i64 32768] 2 (0, 0)) ∧ Below w.heap.size w W) ⟨heap_old (heap_new _ _) _, heap_at (by simp) _, by focus (repeat (first | (with_reducible exact Below.refl _ _) | (with_reducible assumption) | ((with_reducible refine Below.setCell ?_ ?_ _); rotate_left; (focus (first | omega | (simp; done) | (simp; omega)))) | ((with_reducible refine Below.alloc ?_ ?_ _); rotate_left; (focus (first | omega | (simp; done) | (simp; omega)))) | (with_reducible refine Below.drew ?_) | (refine below_on ?_ (by assumption))))⟩ fun W ⟨y0, y1, hB⟩ => ?_
  have k1 := cell_at y0
  refine bodyPost_ret (by simp [results, Tryz.results118, go_sem, k1]; rfl) rfl ⟨_, rfl, ⟨some ⟨w.heap.size + 1, 0, none⟩, 4, ?_, ?_, ?_⟩, hB⟩
  all_goals rw [show ab (-9223372036854775808) = 9223372036854775808 by unfold ab; omega, dd_min]
  · rw [show ng (-9223372036854775808) = true by unfold ng; simp]
    rfl
  · exact Nat.le_refl _
  · refine ⟨by simp, fun _ => ⟨_, 0, rfl, fun k x hk => ?_⟩⟩
    rw [cell_at y1]
    match k, hk with
    | 0, hk => simp at hk; subst hk; rfl
    | 1, hk => simp at hk; subst hk; rfl
    | 2, hk => simp at hk; subst hk; rfl
    | 3, hk => simp at hk; subst hk; rfl
    | j + 4, hk => simp at hk
set_option maxHeartbeats 1000000 in
theorem rnum_neg (N : Nat) (h0 : 0 < N) (hN : N ≤ 9223372036854775807) (w : World) :
    Calls Tryz.prog 118 #[.int .i64 (-(N : Int))] w fun e w' => ∃ v, e = .returned v ∧ BigAt w' v (zof true N) ∧ Below w.heap.size w w' := by
  have hm : (-(N : Int) == -9223372036854775808) = false := by simp; omega
  have hd : decide (-(N : Int) < 0) = true := by simp; omega
  go_enter Tryz.func118, Tryz.ntmps118
  go_wp2
  clear hm hd
  go_loopw [0, 4] (fun cur v wr => ∃ i q : Nat, cur = .int .i64 q ∧ Hd (q = N / 65536 ^ i) ∧ i ≤ 5 ∧ wr.heap[w.heap.size]? = some (.cells #[.bool false, .slice none 0 0] 123 (0, 0)) ∧
    wr.ownsRow (w.heap.size + 1) 2 1 v i (longV (digs16 (N) i)) ∧ Below w.heap.size w wr) (fun cur _ _ => (intOf cur).toNat)
  case atStart =>
    refine ⟨0, N, ?_, ⟨by rw [Nat.pow_zero, Nat.div_one]⟩, by omega, heap_new _ _, ⟨rfl, .inl ⟨rfl, rfl⟩⟩, by focus (repeat (first | (with_reducible exact Below.refl _ _) | (with_reducible assumption) | ((with_reducible refine Below.setCell ?_ ?_ _); rotate_left; (focus (first | omega | (simp; done) | (simp; omega)))) | ((with_reducible refine Below.alloc ?_ ?_ _); rotate_left; (focus (first | omega | (simp; done) | (simp; omega)))) | (with_reducible refine Below.drew ?_) | (refine below_on ?_ (by assumption))))⟩
    rfl
  case round =>
    obtain ⟨i, q, rfl, HQ, hi, y0, hown, hB⟩ := hrel
    have hs0 := lt_of_block y0
    by_cases hlt : 0 < q
    · have hd1 : decide ((q : Int) > 0) = true := by simpa using hlt
      have hq : q < 18446744073709551616 := by
        have := Nat.div_le_self (N) (65536 ^ i)
        rw [HQ.out]; omega
      have hi4 : i < 5 := by
        rcases Nat.lt_or_ge i 5 with h | h
        · exact h
        · obtain rfl : i = 5 := by omega
          have h0 := HQ.out
          have h2 : N / 65536 ^ 5 = 0 := Nat.div_eq_of_lt (by omega)
          omega
      obtain ⟨i0, hi0, hz0, hz1, hz2⟩ := info_parts infoLong
      have hu : Tryz.prog.underlying 121 = some (.slice 2) := by kernel_rfl
      have HD : Hd (d16 (N) i = ((q % 65536 : Nat) : Int)) := ⟨by rw [HQ.out]; rfl⟩
      have HQ2 : Hd (q / 65536 = N / 65536 ^ (i + 1)) := ⟨by rw [HQ.out, Nat.div_div_eq_div_mul, Nat.pow_succ]⟩
      go_wp2_with (at_builtin; refine wpList_append_own_at _ rfl (.tmp 16) (.tmp 19) 121 rfl (w.heap.size + 1) 2 i0 (.int .i64 0) 1 8 hu hi0 hz0 hz1 hz2 rfl (by decide) _ i _ rfl (hown.alloc _) ⟨wr.heap.size, 0, none⟩ 1 1 [_] rfl rfl (cell_one_new _ _ _) ?c2 ?b1 ?b2 ?b3 ?go)
      case c2 => intro u hu; simp at hu; subst hu; rfl
      case b1 => unfold maxLen; omega
      case b2 => omega
      case b3 => simp; omega
      case go =>
        intro v' w1 hown' hgrow _ hat
        have hr : ∀ k, u4.ownBlock = some k → w.heap.size + 1 ≤ k := fun k hk => own_ge hown hk
        have hb : Below w.heap.size w w1 := (Below.alloc hB (by omega) _).trans (below_grown hgrow (fun k hk => by have := hr k hk; omega) (by simp; omega))
        have z0 := (hgrow.block w.heap.size (by simp; omega) (fun e => by have := hr _ e.symm; omega)).trans (heap_old y0 _)
        have HO := Hd.mk hown'
        clear hown hown' hgrow hat hr y0 hB hi0 hz0 hz1 hz2 hu
        go_wp2
        go_roundw
        case rel =>
          refine ⟨i + 1, q / 65536, by go_num, HQ2, by omega, z0, ?_, hb⟩
          rw [digs16_succ]
          unfold longV
          rw [List.map_append, HD.out]
          exact HO.out
        case measure => simp [intOf]; omega
    · have hd1 : decide ((q : Int) > 0) = false := by simp; omega
      obtain rfl : q = 0 := by omega
      have hv : val (digs16 N i) = N := by
        rw [val_digs16, Nat.mod_eq_of_lt]
        rcases Nat.div_eq_zero_iff.1 HQ.out.symm with h | h
        · exact absurd h (Nat.pos_iff_ne_zero.1 (Nat.pow_pos (by decide)))
        · exact h
      have HV := Hd.mk hv
      obtain ⟨A, c, rfl, hc, hD⟩ := dig_of_own hown (by omega)
      have HB := Hd.mk hB
      clear hown hB hlt hv
      go_wp2_with fail
      refine (rof_any true A c _ hc (digs16_dg _ _) _ hD).mono ?_
      rintro e w2 ⟨v, rfl, hV, hb⟩
      rw [HV.out] at hV
      have hw := below_on HB.out hb
      have z1 := heap_below hb y0
      clear hD y0 hb
      obtain ⟨A', c', rfl, h1, h2⟩ := hV
      have hs2 := lt_of_block z1
      have q1 := cell_at z1
      have q2 := frozen_at z1
      have HD := Hd.mk (h2.laid z1)
      clear h2
      go_wp2
      have z2 := laid_both (w.heap.size) w2 (.bool (ng (zof true N))) (.slice A' (dd (ab (zof true N))).length c') z1 rfl
      have c1 := cell_at z2
      refine bodyPost_ret (by simp [results, Tryz.results118, go_sem, c1]) rfl ⟨_, rfl, ⟨A', c', rfl, h1, HD.out _ _⟩, by focus (repeat (first | (with_reducible exact Below.refl _ _) | (with_reducible assumption) | ((with_reducible refine Below.setCell ?_ ?_ _); rotate_left; (focus (first | omega | (simp; done) | (simp; omega)))) | ((with_reducible refine Below.alloc ?_ ?_ _); rotate_left; (focus (first | omega | (simp; done) | (simp; omega)))) | (with_reducible refine Below.drew ?_) | (refine below_on ?_ (by assumption))))⟩
set_option maxHeartbeats 1000000 in
theorem rnum_pos (N : Nat) (hN : N ≤ 9223372036854775807) (w : World) :
    Calls Tryz.prog 118 #[.int .i64 (N : Int)] w fun e w' => ∃ v, e = .returned v ∧ BigAt w' v (zof false N) ∧ Below w.heap.size w w' := by
  have hm : ((N : Int) == -9223372036854775808) = false := by first | (simp; done) | (simp; omega)
  have hd : decide ((N : Int) < 0) = false := by simp
  go_enter Tryz.func118, Tryz.ntmps118
  go_wp2
  clear hm hd
  go_loopw [0, 4] (fun cur v wr => ∃ i q : Nat, cur = .int .i64 q ∧ Hd (q = N / 65536 ^ i) ∧ i ≤ 5 ∧ wr.heap[w.heap.size]? = some (.cells #[.bool false, .slice none 0 0] 123 (0, 0)) ∧
    wr.ownsRow (w.heap.size + 1) 2 1 v i (longV (digs16 (N) i)) ∧ Below w.heap.size w wr) (fun cur _ _ => (intOf cur).toNat)
  case atStart =>
    refine ⟨0, N, ?_, ⟨by rw [Nat.pow_zero, Nat.div_one]⟩, by omega, heap_new _ _, ⟨rfl, .inl ⟨rfl, rfl⟩⟩, by focus (repeat (first | (with_reducible exact Below.refl _ _) | (with_reducible assumption) | ((with_reducible refine Below.setCell ?_ ?_ _); rotate_left; (focus (first | omega | (simp; done) | (simp; omega)))) | ((with_reducible refine Below.alloc ?_ ?_ _); rotate_left; (focus (first | omega | (simp; done) | (simp; omega)))) | (with_reducible refine Below.drew ?_) | (refine below_on ?_ (by assumption))))⟩
    rfl
  case round =>
    obtain ⟨i, q, rfl, HQ, hi, y0, hown, hB⟩ := hrel
    have hs0 := lt_of_block y0
    by_cases hlt : 0 < q
    · have hd1 : decide ((q : Int) > 0) = true := by simpa using hlt
      have hq : q < 18446744073709551616 := by
        have := Nat.div_le_self (N) (65536 ^ i)
        rw [HQ.out]; omega
      have hi4 : i < 5 := by
        rcases Nat.lt_or_ge i 5 with h | h
        · exact h
        · obtain rfl : i = 5 := by omega
          have h0 := HQ.out
          have h2 : N / 65536 ^ 5 = 0 := Nat.div_eq_of_lt (by omega)
          omega
      obtain ⟨i0, hi0, hz0, hz1, hz2⟩ := info_parts infoLong
      have hu : Tryz.prog.underlying 121 = some (.slice 2) := by kernel_rfl
      have HD : Hd (d16 (N) i = ((q % 65536 : Nat) : Int)) := ⟨by rw [HQ.out]; rfl⟩
      have HQ2 : Hd (q / 65536 = N / 65536 ^ (i + 1)) := ⟨by rw [HQ.out, Nat.div_div_eq_div_mul, Nat.pow_succ]⟩
      go_wp2_with (at_builtin; refine wpList_append_own_at _ rfl (.tmp 16) (.tmp 19) 121 rfl (w.heap.size + 1) 2 i0 (.int .i64 0) 1 8 hu hi0 hz0 hz1 hz2 rfl (by decide) _ i _ rfl (hown.alloc _) ⟨wr.heap.size, 0, none⟩ 1 1 [_] rfl rfl (cell_one_new _ _ _) ?c2 ?b1 ?b2 ?b3 ?go)
      case c2 => intro u hu; simp at hu; subst hu; rfl
      case b1 => unfold maxLen; omega
      case b2 => omega
      case b3 => simp; omega
      case go =>
        intro v' w1 hown' hgrow _ hat
        have hr : ∀ k, u4.ownBlock = some k → w.heap.size + 1 ≤ k := fun k hk => own_ge hown hk
        have hb : Below w.heap.size w w1 := (Below.alloc hB (by omega) _).trans (below_grown hgrow (fun k hk => by have := hr k hk; omega) (by simp; omega))
        have z0 := (hgrow.block w.heap.size (by simp; omega) (fun e => by have := hr _ e.symm; omega)).trans (heap_old y0 _)
        have HO := Hd.mk hown'
        clear hown hown' hgrow hat hr y0 hB hi0 hz0 hz1 hz2 hu
        go_wp2
        go_roundw
        case rel =>
          refine ⟨i + 1, q / 65536, by go_num, HQ2, by omega, z0, ?_, hb⟩
          rw [digs16_succ]
          unfold longV
          rw [List.map_append, HD.out]
          exact HO.out
        case measure => simp [intOf]; omega
    · have hd1 : decide ((q : Int) > 0) = false := by simp; omega
      obtain rfl : q = 0 := by omega
      have hv : val (digs16 N i) = N := by
        rw [val_digs16, Nat.mod_eq_of_lt]
        rcases Nat.div_eq_zero_iff.1 HQ.out.symm with h | h
        · exact absurd h (Nat.pos_iff_ne_zero.1 (Nat.pow_pos (by decide)))
        · exact h
      have HV := Hd.mk hv
      obtain ⟨A, c, rfl, hc, hD⟩ := dig_of_own hown (by omega)
      have HB := Hd.mk hB
      clear hown hB hlt hv
      go_wp2_with fail
      refine (rof_any false A c _ hc (digs16_dg _ _) _ hD).mono ?_
      rintro e w2 ⟨v, rfl, hV, hb⟩
      rw [HV.out] at hV
      have hw := below_on HB.out hb
      have z1 := heap_below hb y0
      clear hD y0 hb
      obtain ⟨A', c', rfl, h1, h2⟩ := hV
      have hs2 := lt_of_block z1
      have q1 := cell_at z1
      have q2 := frozen_at z1
      have HD := Hd.mk (h2.laid z1)
      clear h2
      go_wp2
      have z2 := laid_both (w.heap.size) w2 (.bool (ng (zof false N))) (.slice A' (dd (ab (zof false N))).length c') z1 rfl
      have c1 := cell_at z2
      refine bodyPost_ret (by simp [results, Tryz.results118, go_sem, c1]) rfl ⟨_, rfl, ⟨A', c', rfl, h1, HD.out _ _⟩, by focus (repeat (first | (with_reducible exact Below.refl _ _) | (with_reducible assumption) | ((with_reducible refine Below.setCell ?_ ?_ _); rotate_left; (focus (first | omega | (simp; done) | (simp; omega)))) | ((with_reducible refine Below.alloc ?_ ?_ _); rotate_left; (focus (first | omega | (simp; done) | (simp; omega)))) | (with_reducible refine Below.drew ?_) | (refine below_on ?_ (by assumption))))⟩
theorem rnum_any (n : Int) (h1 : -9223372036854775808 ≤ n) (h2 : n ≤ 9223372036854775807) (w : World) :
    Calls Tryz.prog 118 #[.int .i64 n] w fun e w' => ∃ v, e = .returned v ∧ BigAt w' v n ∧ Below w.heap.size w w' := by
  by_cases hm : n = -9223372036854775808
  · subst hm; exact rnum_min w
  · by_cases hn : n < 0
    · obtain ⟨N, rfl⟩ : ∃ N : Nat, n = -(N : Int) := ⟨n.natAbs, by omega⟩
      exact rnum_neg N (by omega) (by omega) w
    · obtain ⟨N, rfl⟩ : ∃ N : Nat, n = (N : Int) := ⟨n.natAbs, by omega⟩
      exact rnum_pos N (by omega) w
end Go.Proofs.YtfchmikbebdflaaGreatDoor
