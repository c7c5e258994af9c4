/-
  Walks: math/bits.Len64. Conditions stand in each theorem.
-/
import Derived.Test.YtfgdichdddknlaaDoorLm3
namespace Go.Proofs.YtfgdichdddknlaaDoor
open Go.RowKit Go.BigFrame

theorem or_low (x b : Nat) (hx : 2 * x < 18446744073709551616) (hb : b ≤ 1) : bits .or .u64 ((2 * x : Nat) : Int) (b : Int) = ((2 * x + b : Nat) : Int) := by
  rw [bits_or_u64_nat _ _ hx (by omega)]
  have := Nat.two_pow_add_eq_or_of_lt (i := 1) (b := b) (by omega) x
  rw [Nat.pow_one] at this
  rw [this]
theorem dbl_digit (a c k : Nat) (hc : c ≤ 1) (hk : k < 4) : bits .or .u64 (IntKind.u64.wrap (dg a k * 2)) (ovr a c k : Nat) = dg (dblN a c) k ∧ dg a k / 9223372036854775808 = (ovr a c (k + 1) : Nat) := by
  have h := dg_dbl a c k hk
  have hb := ovr_le hc k (a := a)
  have hx := dg_lt a k
  obtain ⟨x, hx'⟩ := Int.eq_ofNat_of_zero_le (dg_nonneg a k)
  obtain ⟨z, hz⟩ := Int.eq_ofNat_of_zero_le (dg_nonneg (dblN a c) k)
  rw [hx', hz] at h ⊢
  simp only [Int.toNat_natCast] at h
  rw [hx'] at hx
  refine ⟨?_, ?_⟩
  · rw [IntKind.wrap_u64]
    have e : (x : Int) * 2 % 18446744073709551616 = ((2 * (x % 9223372036854775808) : Nat) : Int) := by omega
    rw [e, or_low _ _ (by omega) hb]
    omega
  · omega

theorem and_one (a q r : Nat) : bits .and .u64 (dg a q / 2 ^ r) 1 = (((dg a q).toNat / 2 ^ r % 2 : Nat) : Int) := by
  have hx := dg_lt a q
  obtain ⟨x, hx'⟩ := Int.eq_ofNat_of_zero_le (dg_nonneg a q)
  rw [hx'] at hx ⊢
  have e : (x : Int) / 2 ^ r = ((x / 2 ^ r : Nat) : Int) := by rw [Int.natCast_ediv, Int.natCast_pow]; rfl
  rw [e, Int.toNat_natCast]
  have h1 : x / 2 ^ r ≤ x := Nat.div_le_self _ _
  have := bits_and_u64_nat (x / 2 ^ r) 1 (by omega) (by omega)
  rw [show ((1 : Nat) : Int) = 1 from rfl] at this
  rw [this, Nat.and_one_is_mod]

end Go.Proofs.YtfgdichdddknlaaDoor

namespace Go.Proofs.YtfgdichdddknlaaDoor
open Go.RowKit Go.BigFrame

/-- How many bits a number takes. -/
def topN (n : Nat) : Nat := if n = 0 then 0 else n.log2 + 1
theorem topN_zero : topN 0 = 0 := rfl
theorem topN_eq {n k : Nat} (h1 : 2 ^ k ≤ n) (h2 : n < 2 ^ (k + 1)) : topN n = k + 1 := by
  have h0 : n ≠ 0 := by have := Nat.two_pow_pos k; omega
  unfold topN
  rw [if_neg h0, (Nat.log2_eq_iff h0).2 ⟨h1, h2⟩]
theorem topN_spec {n : Nat} (h : n ≠ 0) : 2 ^ (topN n - 1) ≤ n ∧ n < 2 ^ topN n ∧ 1 ≤ topN n := by
  unfold topN
  rw [if_neg h]
  have := (Nat.log2_eq_iff h).1 rfl
  exact ⟨by simpa using this.1, this.2, by omega⟩
theorem topN_lt (n : Nat) : n < 2 ^ topN n := by
  by_cases h : n = 0
  · subst h; exact Nat.two_pow_pos _
  · exact (topN_spec h).2.1
theorem topN_le {n k : Nat} (h : n < 2 ^ k) : topN n ≤ k := by
  by_cases h0 : n = 0
  · subst h0; simp [topN]
  · have h1 := (topN_spec h0).1
    have h2 : 2 ^ (topN n - 1) < 2 ^ k := Nat.lt_of_le_of_lt h1 h
    have h3 := (Nat.pow_lt_pow_iff_right (by decide : 1 < 2)).1 h2
    omega
theorem topN_shift (n k : Nat) (h : 2 ^ k ≤ n) : topN n = k + topN (n / 2 ^ k) := by
  have hp := Nat.two_pow_pos k
  have h0 : n / 2 ^ k ≠ 0 := by
    have := (Nat.le_div_iff_mul_le hp (x := 1) (y := n)).2 (by omega)
    omega
  obtain ⟨h1, h2, h3⟩ := topN_spec h0
  have e : k + topN (n / 2 ^ k) = (k + (topN (n / 2 ^ k) - 1)) + 1 := by omega
  rw [e]
  refine topN_eq ?_ ?_
  · rw [Nat.pow_add, Nat.mul_comm]; exact (Nat.le_div_iff_mul_le hp).1 h1
  · have := (Nat.div_lt_iff_lt_mul hp).1 h2
    rwa [← Nat.pow_add, show topN (n / 2 ^ k) + k = (k + (topN (n / 2 ^ k) - 1)) + 1 by omega] at this

theorem tab_val (t : ByteArray) (h : (List.range 256).all (fun n => decide ((t.data.toList.getD n 0).toNat = topN n)) = true) (n : Nat) (hn : n < 256) (hp : n < t.size) : (t[n]'hp).toNat = topN n := by
  have h1 := of_decide_eq_true (List.all_eq_true.1 h n (List.mem_range.2 hn))
  rw [← h1, List.getD_eq_getElem?_getD, List.getElem?_eq_getElem (by simpa using hp)]
  rfl

theorem len_end (x : Nat) (c : Int) (k m : Nat) (t : ByteArray) (h : (List.range 256).all (fun n => decide ((t.data.toList.getD n 0).toNat = topN n)) = true) (hm : m < 256) (hp : m < t.size)
    (hk : topN x = k + topN m) (hc : c = k) (hk64 : k ≤ 64) : wrap64 (c + wrap64 (t[m]'hp).toNat) = topN x := by
  rw [tab_val t h m hm hp, hk, hc]
  have := topN_le (n := m) (k := 8) (by omega)
  unfold wrap64
  omega

theorem len_end0 (x : Nat) (t : ByteArray) (h : (List.range 256).all (fun n => decide ((t.data.toList.getD n 0).toNat = topN n)) = true) (hm : x < 256) (hp : x < t.size) : wrap64 (wrap64 (t[x]'hp).toNat) = topN x := by
  rw [tab_val t h x hm hp]
  have := topN_le (n := x) (k := 8) (by omega)
  unfold wrap64
  omega
theorem ret_int {k : IntKind} {a b : Int} (h : a = b) : Ending.returned (.int k a) = .returned (.int k b) := by rw [h]
theorem dec_ge {a b : Int} (h : b ≤ a) : decide (a ≥ b) = true := by simp; omega
theorem dec_lt {a b : Int} (h : a < b) : decide (a ≥ b) = false := by simp; omega

set_option maxRecDepth 20000 in
set_option maxHeartbeats 400000 in
theorem len_000 (x : Nat) (g : x < 256) (_g32 : x < 4294967296) (_g16 : x < 65536) (_g8 : x < 256) (w : World) :
    Calls Tryd.prog 77 #[.int .u64 x] w fun e w' => e = .returned (.int .i64 (topN x)) ∧ w = w' := by
  have hx0 : (0 : Int) ≤ x := by omega
  have hl : (x : Int) < 256 := by omega
  have h32 := dec_lt (a := (x : Int)) (b := 4294967296) (by omega)
  have h16 := dec_lt (a := (x : Int)) (b := 65536) (by omega)
  have h8 := dec_lt (a := (x : Int)) (b := 256) (by omega)
  have HT : Hd (topN x = 0 + topN (x)) := ⟨by
    omega⟩
  clear _g32 _g16 _g8
  have HG := Hd.mk g
  clear g
  go_enter Tryd.func77, Tryd.ntmps77
  go_wp2
  go_ret
  refine ⟨?_, rfl⟩
  refine ret_int (len_end0 x _ (by kernel_rfl) HG.out _)
set_option maxRecDepth 20000 in
set_option maxHeartbeats 400000 in
theorem len_001 (x : Nat) (g : x / 256 < 256) (g32 : x < 4294967296) (g16 : x < 65536) (g8 : 256 ≤ x) (w : World) :
    Calls Tryd.prog 77 #[.int .u64 x] w fun e w' => e = .returned (.int .i64 (topN x)) ∧ w = w' := by
  have hx0 : (0 : Int) ≤ x := by omega
  have hl : (x : Int) / 256 < 256 := by omega
  have h32 := dec_lt (a := (x : Int)) (b := 4294967296) (by omega)
  have h16 := dec_lt (a := (x : Int)) (b := 65536) (by omega)
  have h8 := dec_ge (a := (x : Int)) (b := 256) (by omega)
  have HT : Hd (topN x = 8 + topN (x / 256)) := ⟨by
    have e8 := topN_shift (x) 8 (by omega)
    simp only [Nat.reducePow] at e8
    omega⟩
  clear g32 g16 g8
  have HG := Hd.mk g
  clear g
  go_enter Tryd.func77, Tryd.ntmps77
  go_wp2
  go_ret
  refine ⟨?_, rfl⟩
  refine ret_int (len_end x _ 8 _ _ (by kernel_rfl) HG.out _ HT.out rfl (by omega))
set_option maxRecDepth 20000 in
set_option maxHeartbeats 400000 in
theorem len_010 (x : Nat) (g : x / 65536 < 256) (g32 : x < 4294967296) (g16 : 65536 ≤ x) (_g8 : x / 65536 < 256) (w : World) :
    Calls Tryd.prog 77 #[.int .u64 x] w fun e w' => e = .returned (.int .i64 (topN x)) ∧ w = w' := by
  have hx0 : (0 : Int) ≤ x := by omega
  have hl : (x : Int) / 65536 < 256 := by omega
  have h32 := dec_lt (a := (x : Int)) (b := 4294967296) (by omega)
  have h16 := dec_ge (a := (x : Int)) (b := 65536) (by omega)
  have h8 := dec_lt (a := (x : Int) / 65536) (b := 256) (by omega)
  have HT : Hd (topN x = 16 + topN (x / 65536)) := ⟨by
    have e16 := topN_shift (x) 16 (by omega)
    simp only [Nat.reducePow] at e16
    omega⟩
  clear g32 g16 _g8
  have HG := Hd.mk g
  clear g
  go_enter Tryd.func77, Tryd.ntmps77
  go_wp2
  go_ret
  refine ⟨?_, rfl⟩
  refine ret_int (len_end x _ 16 _ _ (by kernel_rfl) HG.out _ HT.out rfl (by omega))
set_option maxRecDepth 20000 in
set_option maxHeartbeats 400000 in
theorem len_011 (x : Nat) (g : x / 65536 / 256 < 256) (g32 : x < 4294967296) (g16 : 65536 ≤ x) (g8 : 256 ≤ x / 65536) (w : World) :
    Calls Tryd.prog 77 #[.int .u64 x] w fun e w' => e = .returned (.int .i64 (topN x)) ∧ w = w' := by
  have hx0 : (0 : Int) ≤ x := by omega
  have hl : (x : Int) / 65536 / 256 < 256 := by omega
  have h32 := dec_lt (a := (x : Int)) (b := 4294967296) (by omega)
  have h16 := dec_ge (a := (x : Int)) (b := 65536) (by omega)
  have h8 := dec_ge (a := (x : Int) / 65536) (b := 256) (by omega)
  have HT : Hd (topN x = 24 + topN (x / 65536 / 256)) := ⟨by
    have e16 := topN_shift (x) 16 (by omega)
    have e8 := topN_shift (x / 65536) 8 (by omega)
    simp only [Nat.reducePow] at e16 e8
    omega⟩
  clear g32 g16 g8
  have HG := Hd.mk g
  clear g
  go_enter Tryd.func77, Tryd.ntmps77
  go_wp2
  go_ret
  refine ⟨?_, rfl⟩
  refine ret_int (len_end x _ 24 _ _ (by kernel_rfl) HG.out _ HT.out rfl (by omega))
set_option maxRecDepth 20000 in
set_option maxHeartbeats 400000 in
theorem len_100 (x : Nat) (g : x / 4294967296 < 256) (g32 : 4294967296 ≤ x) (_g16 : x / 4294967296 < 65536) (_g8 : x / 4294967296 < 256) (w : World) :
    Calls Tryd.prog 77 #[.int .u64 x] w fun e w' => e = .returned (.int .i64 (topN x)) ∧ w = w' := by
  have hx0 : (0 : Int) ≤ x := by omega
  have hl : (x : Int) / 4294967296 < 256 := by omega
  have h32 := dec_ge (a := (x : Int)) (b := 4294967296) (by omega)
  have h16 := dec_lt (a := (x : Int) / 4294967296) (b := 65536) (by omega)
  have h8 := dec_lt (a := (x : Int) / 4294967296) (b := 256) (by omega)
  have HT : Hd (topN x = 32 + topN (x / 4294967296)) := ⟨by
    have e32 := topN_shift (x) 32 (by omega)
    simp only [Nat.reducePow] at e32
    omega⟩
  clear g32 _g16 _g8
  have HG := Hd.mk g
  clear g
  go_enter Tryd.func77, Tryd.ntmps77
  go_wp2
  go_ret
  refine ⟨?_, rfl⟩
  refine ret_int (len_end x _ 32 _ _ (by kernel_rfl) HG.out _ HT.out rfl (by omega))
set_option maxRecDepth 20000 in
set_option maxHeartbeats 400000 in
theorem len_101 (x : Nat) (g : x / 4294967296 / 256 < 256) (g32 : 4294967296 ≤ x) (g16 : x / 4294967296 < 65536) (g8 : 256 ≤ x / 4294967296) (w : World) :
    Calls Tryd.prog 77 #[.int .u64 x] w fun e w' => e = .returned (.int .i64 (topN x)) ∧ w = w' := by
  have hx0 : (0 : Int) ≤ x := by omega
  have hl : (x : Int) / 4294967296 / 256 < 256 := by omega
  have h32 := dec_ge (a := (x : Int)) (b := 4294967296) (by omega)
  have h16 := dec_lt (a := (x : Int) / 4294967296) (b := 65536) (by omega)
  have h8 := dec_ge (a := (x : Int) / 4294967296) (b := 256) (by omega)
  have HT : Hd (topN x = 40 + topN (x / 4294967296 / 256)) := ⟨by
    have e32 := topN_shift (x) 32 (by omega)
    have e8 := topN_shift (x / 4294967296) 8 (by omega)
    simp only [Nat.reducePow] at e32 e8
    omega⟩
  clear g32 g16 g8
  have HG := Hd.mk g
  clear g
  go_enter Tryd.func77, Tryd.ntmps77
  go_wp2
  go_ret
  refine ⟨?_, rfl⟩
  refine ret_int (len_end x _ 40 _ _ (by kernel_rfl) HG.out _ HT.out rfl (by omega))
set_option maxRecDepth 20000 in
set_option maxHeartbeats 400000 in
theorem len_110 (x : Nat) (g : x / 4294967296 / 65536 < 256) (g32 : 4294967296 ≤ x) (g16 : 65536 ≤ x / 4294967296) (_g8 : x / 4294967296 / 65536 < 256) (w : World) :
    Calls Tryd.prog 77 #[.int .u64 x] w fun e w' => e = .returned (.int .i64 (topN x)) ∧ w = w' := by
  have hx0 : (0 : Int) ≤ x := by omega
  have hl : (x : Int) / 4294967296 / 65536 < 256 := by omega
  have h32 := dec_ge (a := (x : Int)) (b := 4294967296) (by omega)
  have h16 := dec_ge (a := (x : Int) / 4294967296) (b := 65536) (by omega)
  have h8 := dec_lt (a := (x : Int) / 4294967296 / 65536) (b := 256) (by omega)
  have HT : Hd (topN x = 48 + topN (x / 4294967296 / 65536)) := ⟨by
    have e32 := topN_shift (x) 32 (by omega)
    have e16 := topN_shift (x / 4294967296) 16 (by omega)
    simp only [Nat.reducePow] at e32 e16
    omega⟩
  clear g32 g16 _g8
  have HG := Hd.mk g
  clear g
  go_enter Tryd.func77, Tryd.ntmps77
  go_wp2
  go_ret
  refine ⟨?_, rfl⟩
  refine ret_int (len_end x _ 48 _ _ (by kernel_rfl) HG.out _ HT.out rfl (by omega))
set_option maxRecDepth 20000 in
set_option maxHeartbeats 400000 in
theorem len_111 (x : Nat) (g : x / 4294967296 / 65536 / 256 < 256) (g32 : 4294967296 ≤ x) (g16 : 65536 ≤ x / 4294967296) (g8 : 256 ≤ x / 4294967296 / 65536) (w : World) :
    Calls Tryd.prog 77 #[.int .u64 x] w fun e w' => e = .returned (.int .i64 (topN x)) ∧ w = w' := by
  have hx0 : (0 : Int) ≤ x := by omega
  have hl : (x : Int) / 4294967296 / 65536 / 256 < 256 := by omega
  have h32 := dec_ge (a := (x : Int)) (b := 4294967296) (by omega)
  have h16 := dec_ge (a := (x : Int) / 4294967296) (b := 65536) (by omega)
  have h8 := dec_ge (a := (x : Int) / 4294967296 / 65536) (b := 256) (by omega)
  have HT : Hd (topN x = 56 + topN (x / 4294967296 / 65536 / 256)) := ⟨by
    have e32 := topN_shift (x) 32 (by omega)
    have e16 := topN_shift (x / 4294967296) 16 (by omega)
    have e8 := topN_shift (x / 4294967296 / 65536) 8 (by omega)
    simp only [Nat.reducePow] at e32 e16 e8
    omega⟩
  clear g32 g16 g8
  have HG := Hd.mk g
  clear g
  go_enter Tryd.func77, Tryd.ntmps77
  go_wp2
  go_ret
  refine ⟨?_, rfl⟩
  refine ret_int (len_end x _ 56 _ _ (by kernel_rfl) HG.out _ HT.out rfl (by omega))
theorem len_any (x : Nat) (h : x < 18446744073709551616) (w : World) :
    Calls Tryd.prog 77 #[.int .u64 x] w fun e w' => e = .returned (.int .i64 (topN x)) ∧ w = w' := by
  by_cases c0 : x < 4294967296
  · by_cases c1 : x < 65536
    · by_cases c2 : x < 256
      · exact len_000 x (by omega) (by omega) (by omega) (by omega) w
      · exact len_001 x (by omega) (by omega) (by omega) (by omega) w
    · by_cases c2 : x / 65536 < 256
      · exact len_010 x (by omega) (by omega) (by omega) (by omega) w
      · exact len_011 x (by omega) (by omega) (by omega) (by omega) w
  · by_cases c1 : x / 4294967296 < 65536
    · by_cases c2 : x / 4294967296 < 256
      · exact len_100 x (by omega) (by omega) (by omega) (by omega) w
      · exact len_101 x (by omega) (by omega) (by omega) (by omega) w
    · by_cases c2 : x / 4294967296 / 65536 < 256
      · exact len_110 x (by omega) (by omega) (by omega) (by omega) w
      · exact len_111 x (by omega) (by omega) (by omega) (by omega) w
end Go.Proofs.YtfgdichdddknlaaDoor
