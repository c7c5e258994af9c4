/-
  Walks of ratio: the fraction of two wide numbers, in lowest terms. Conditions stand in each theorem.
-/
import Derived.Laws.CopyOwn
import Derived.Test.YtfchmikbebdflaaGreatDoorWd3
import Derived.Test.YtfchmikbebdflaaGreatDoorWd5
import Derived.Test.YtfchmikbebdflaaGreatDoorWe4
namespace Go.Proofs.YtfchmikbebdflaaGreatDoor
open Go.RowKit Go.BigFrame

theorem half_lt {a e : Nat} (k : Nat) (ha : a < 2 ^ e) : a / 2 ^ k < 2 ^ e := Nat.lt_of_le_of_lt (Nat.div_le_self _ _) ha
theorem half_next (a k : Nat) : a / 2 ^ k / 2 = a / 2 ^ (k + 1) := by rw [Nat.div_div_eq_div_mul, Nat.pow_succ]
theorem tz_bound {n : Nat} (e : Nat) (he : e = 576) (h0 : 0 < n) (h : n < 2 ^ e) : tz n < 9223372036854775808 := by
  obtain ⟨_, _, h⟩ := od_spec e he h0 h
  omega
end Go.Proofs.YtfchmikbebdflaaGreatDoor

namespace Go.Proofs.YtfchmikbebdflaaGreatDoor
open Go.RowKit Go.BigFrame

/-- The number of digits in cells. -/
def valC (c : Array Value) : Nat → Nat
  | 0 => 0
  | k + 1 => valC c k + 2 ^ (64 * k) * (intOf (c.getD k undef)).toNat
/-- The number that a block holds. -/
def wideOf (b : Nat) (W : World) : Nat :=
  match W.heap[b]? with
  | some (.cells c _ _) => valC c 9
  | _ => 0
theorem valC_mod (c : Array Value) (n : Nat) : ∀ k, (∀ i, i < k → c.getD i undef = .int .u64 (dg n i)) → valC c k = n % 2 ^ (64 * k)
  | 0, _ => by simp [valC, Nat.mod_one]
  | k + 1, h => by
    rw [valC, valC_mod c n k (fun i hi => h i (by omega)), h k (by omega), pow_step, mod_step, ← dg_toNat]
    simp only [intOf]
    omega
theorem wideOf_eqK {b n K : Nat} {W : World} {t : TypeId} {f : Nat × Nat} (hK : K = 9) (hn : n < 2 ^ (64 * K)) (h : W.heap[b]? = some (.cells #[.int .u64 (dg (n) 0), .int .u64 (dg (n) 1), .int .u64 (dg (n) 2), .int .u64 (dg (n) 3), .int .u64 (dg (n) 4), .int .u64 (dg (n) 5), .int .u64 (dg (n) 6), .int .u64 (dg (n) 7), .int .u64 (dg (n) 8)] t f)) : wideOf b W = n := by
  unfold wideOf
  rw [h]
  show valC _ 9 = n
  rw [← hK, valC_mod _ n K, Nat.mod_eq_of_lt hn]
  intro i hi
  obtain rfl | rfl | rfl | rfl | rfl | rfl | rfl | rfl | rfl : i = 0 ∨ i = 1 ∨ i = 2 ∨ i = 3 ∨ i = 4 ∨ i = 5 ∨ i = 6 ∨ i = 7 ∨ i = 8 := by omega
  all_goals rfl
theorem wideOf_eq {b n : Nat} {W : World} {t : TypeId} {f : Nat × Nat} (hn : n < 2 ^ (64 * 9)) (h : W.heap[b]? = some (.cells #[.int .u64 (dg (n) 0), .int .u64 (dg (n) 1), .int .u64 (dg (n) 2), .int .u64 (dg (n) 3), .int .u64 (dg (n) 4), .int .u64 (dg (n) 5), .int .u64 (dg (n) 6), .int .u64 (dg (n) 7), .int .u64 (dg (n) 8)] t f)) : wideOf b W = n := wideOf_eqK rfl hn h
theorem nine_eqK {x y K : Nat} (hK : K = 9) (hx : x < 2 ^ (64 * K)) (hy : y < 2 ^ (64 * K)) : (dg x 0 == dg y 0 && (dg x 1 == dg y 1 && (dg x 2 == dg y 2 && (dg x 3 == dg y 3 && (dg x 4 == dg y 4 && (dg x 5 == dg y 5 && (dg x 6 == dg y 6 && (dg x 7 == dg y 7 && (dg x 8 == dg y 8))))))))) = decide (x = y) := by
  rw [Bool.eq_iff_iff]
  simp only [Bool.and_eq_true, beq_iff_eq, decide_eq_true_eq]
  constructor
  · rintro ⟨h0, h1, h2, h3, h4, h5, h6, h7, h8⟩
    have e1 := valC_mod (#[.int .u64 (dg (x) 0), .int .u64 (dg (x) 1), .int .u64 (dg (x) 2), .int .u64 (dg (x) 3), .int .u64 (dg (x) 4), .int .u64 (dg (x) 5), .int .u64 (dg (x) 6), .int .u64 (dg (x) 7), .int .u64 (dg (x) 8)]) x K (fun i hi => by
      obtain rfl | rfl | rfl | rfl | rfl | rfl | rfl | rfl | rfl : i = 0 ∨ i = 1 ∨ i = 2 ∨ i = 3 ∨ i = 4 ∨ i = 5 ∨ i = 6 ∨ i = 7 ∨ i = 8 := by omega
      all_goals rfl)
    have e2 := valC_mod (#[.int .u64 (dg (x) 0), .int .u64 (dg (x) 1), .int .u64 (dg (x) 2), .int .u64 (dg (x) 3), .int .u64 (dg (x) 4), .int .u64 (dg (x) 5), .int .u64 (dg (x) 6), .int .u64 (dg (x) 7), .int .u64 (dg (x) 8)]) y K (fun i hi => by
      obtain rfl | rfl | rfl | rfl | rfl | rfl | rfl | rfl | rfl : i = 0 ∨ i = 1 ∨ i = 2 ∨ i = 3 ∨ i = 4 ∨ i = 5 ∨ i = 6 ∨ i = 7 ∨ i = 8 := by omega
      all_goals first | rw [← h0] | rw [← h1] | rw [← h2] | rw [← h3] | rw [← h4] | rw [← h5] | rw [← h6] | rw [← h7] | rw [← h8]
      all_goals rfl)
    rw [Nat.mod_eq_of_lt hx] at e1
    rw [Nat.mod_eq_of_lt hy] at e2
    exact e1.symm.trans e2
  · rintro rfl
    exact ⟨rfl, rfl, rfl, rfl, rfl, rfl, rfl, rfl, rfl⟩
theorem nine_eq {x y : Nat} (hx : x < 2 ^ (64 * 9)) (hy : y < 2 ^ (64 * 9)) : (dg x 0 == dg y 0 && (dg x 1 == dg y 1 && (dg x 2 == dg y 2 && (dg x 3 == dg y 3 && (dg x 4 == dg y 4 && (dg x 5 == dg y 5 && (dg x 6 == dg y 6 && (dg x 7 == dg y 7 && (dg x 8 == dg y 8))))))))) = decide (x = y) := nine_eqK rfl hx hy
/-- How far the search for what divides both has come. -/
structure GW (a b x y : Nat) : Prop where
  ox : ∃ m, x = 2 * m + 1
  oy : ∃ m, y = 2 * m + 1
  lx : x < 2 ^ (64 * 9)
  ly : y < 2 ^ (64 * 9)
  g : Nat.gcd x y = Nat.gcd (od a) (od b)
theorem od_ltK {n K e : Nat} (he : e = 64 * K) (h : n < 2 ^ e) : od n < 2 ^ (64 * K) := he ▸ Nat.lt_of_le_of_lt (od_le n) h
theorem GW.start {a b : Nat} (ha0 : 0 < a) (hb0 : 0 < b) (ha : a < 2 ^ (64 * 9)) (hb : b < 2 ^ (64 * 9)) : GW a b (od a) (od b) :=
  ⟨(od_spec (64 * 9) rfl ha0 ha).1, (od_spec (64 * 9) rfl hb0 hb).1, od_ltK (K := 9) rfl ha, od_ltK (K := 9) rfl hb, rfl⟩
theorem GW.left {a b x y : Nat} (h : GW a b x y) (hlt : y < x) : GW a b (od (x - y)) y ∧ od (x - y) < x := by
  obtain ⟨h1, ⟨m, h2⟩, h3, h4, h5⟩ := h
  have hs : x - y < 2 ^ (64 * 9) := Nat.lt_of_le_of_lt (Nat.sub_le _ _) h3
  exact ⟨⟨(od_spec (64 * 9) rfl (Nat.sub_pos_of_lt hlt) hs).1, ⟨m, h2⟩, od_ltK (K := 9) rfl hs, h4, (gcd_step h2 (64 * 9) rfl hlt h3).trans h5⟩, by have := od_le (x - y); clear h3 h4 hs; omega⟩
theorem GW.swap {a b x y : Nat} (h : GW a b x y) : GW b a y x := ⟨h.oy, h.ox, h.ly, h.lx, by rw [Nat.gcd_comm, h.g, Nat.gcd_comm]⟩
theorem GW.right {a b x y : Nat} (h : GW a b x y) (hlt : x < y) : GW a b x (od (y - x)) ∧ od (y - x) < y :=
  ⟨(h.swap.left hlt).1.swap, (h.swap.left hlt).2⟩
theorem GW.done {a b x : Nat} (h : GW a b x x) (ha0 : 0 < a) (hb0 : 0 < b) (ha : a < 2 ^ (64 * 9)) (hb : b < 2 ^ (64 * 9)) : x * 2 ^ (min (tz a) (tz b)) = Nat.gcd a b := by
  rw [← gcd_twos (64 * 9) rfl ha0 hb0 ha hb, ← h.g, Nat.gcd_self]
theorem dbl (x k : Nat) : x * 2 ^ k + x * 2 ^ k = x * 2 ^ (k + 1) := by rw [Nat.pow_succ, ← Nat.mul_assoc]; omega
end Go.Proofs.YtfchmikbebdflaaGreatDoor

namespace Go.Proofs.YtfchmikbebdflaaGreatDoor
open Go.RowKit Go.BigFrame

end Go.Proofs.YtfchmikbebdflaaGreatDoor

namespace Go.Proofs.YtfchmikbebdflaaGreatDoor
open Go.RowKit Go.BigFrame

/-- The lowest digit with one bit more. -/
theorem low_or (R bit : Nat) (x : Int) (hbit : bit ≤ 1) (hx : x = bit) : bits .or .u64 (dg (R + R) 0) x = dg (R + R + bit) 0 := by
  subst hx
  rw [dg_add_bit R bit 0 hbit, if_pos rfl]
  have h1 := dg_lt (R + R) 0
  obtain ⟨y, hy⟩ := Int.eq_ofNat_of_zero_le (dg_nonneg (R + R) 0)
  rw [hy] at h1 ⊢
  rw [bits_or_u64_nat _ _ (by omega) (by omega), Int.toNat_natCast]
theorem high_or (R bit k : Nat) (hbit : bit ≤ 1) (hk : k ≠ 0) : dg (R + R) k = dg (R + R + bit) k := by rw [dg_add_bit R bit k hbit, if_neg hk]
theorem pow_or (Q q r : Nat) (x : Int) (hr : r < 64) (hx : x = ((2 ^ r : Nat) : Int)) : bits .or .u64 (dg (Q * 2 ^ (64 * q + r + 1)) q) x = dg (Q * 2 ^ (64 * q + r + 1) + 2 ^ (64 * q + r)) q := by
  subst hx
  rw [dg_add_pow Q q r q hr, if_pos rfl]
  have h1 := dg_lt (Q * 2 ^ (64 * q + r + 1)) q
  have h2 : 2 ^ r < 18446744073709551616 := Nat.pow_lt_pow_right (a := 2) (by decide) hr
  obtain ⟨y, hy⟩ := Int.eq_ofNat_of_zero_le (dg_nonneg (Q * 2 ^ (64 * q + r + 1)) q)
  rw [hy] at h1 ⊢
  rw [bits_or_u64_nat _ _ (by omega) (by omega), Int.toNat_natCast]
theorem pow_not (Q q r k : Nat) (hr : r < 64) (hk : k ≠ q) : dg (Q * 2 ^ (64 * q + r + 1)) k = dg (Q * 2 ^ (64 * q + r + 1) + 2 ^ (64 * q + r)) k := by rw [dg_add_pow Q q r k hr, if_neg hk]
/-- What a round does. -/
structure BY (a b j R bit : Nat) : Prop where
  bit1 : bit ≤ 1
  isbit : a / 2 ^ j % 2 = bit
  isR : a / 2 ^ (j + 1) % b = R
  ge : b ≤ R + R + bit → a / 2 ^ j / b * 2 ^ j = a / 2 ^ (j + 1) / b * 2 ^ (j + 1) + 2 ^ j ∧ a / 2 ^ j % b = R + R + bit - b
  lt : R + R + bit < b → a / 2 ^ j / b * 2 ^ j = a / 2 ^ (j + 1) / b * 2 ^ (j + 1) ∧ a / 2 ^ j % b = R + R + bit
  room : ∀ X, b + b ≤ X → R + R + bit < X
theorem two_same (Q j : Nat) : 2 * Q * 2 ^ j = Q * 2 ^ (j + 1) := by
  rw [Nat.pow_succ, Nat.mul_comm 2 Q, Nat.mul_assoc, Nat.mul_comm 2]
theorem two_more (Q j : Nat) : (2 * Q + 1) * 2 ^ j = Q * 2 ^ (j + 1) + 2 ^ j := by
  rw [Nat.add_mul, Nat.one_mul, two_same]
theorem by_of (a b j : Nat) (hb : 0 < b) : BY a b j (a / 2 ^ (j + 1) % b) (a / 2 ^ j % 2) := by
  have h1 := half_up a j
  have hbit : a / 2 ^ j % 2 ≤ 1 := by omega
  have h2 := div_up (A := a / 2 ^ (j + 1)) (bit := a / 2 ^ j % 2) hb hbit rfl
  have hlt := Nat.mod_lt (a / 2 ^ (j + 1)) hb
  rw [← h1] at h2
  refine ⟨hbit, rfl, rfl, fun h => ?_, fun h => ?_, fun X hX => by omega⟩
  · obtain ⟨e1, e2⟩ := h2.1 (by omega)
    rw [e1, e2]
    exact ⟨two_more _ j, by omega⟩
  · obtain ⟨e1, e2⟩ := h2.2 (by omega)
    rw [e1, e2]
    exact ⟨two_same _ j, by omega⟩
theorem wrap_pow (r : Nat) (hr : r < 64) : IntKind.u64.wrap (2 ^ r) = ((2 ^ r : Nat) : Int) := by
  have h2 : 2 ^ r < 18446744073709551616 := Nat.pow_lt_pow_right (a := 2) (by decide) hr
  have e : (2 : Int) ^ r = ((2 ^ r : Nat) : Int) := by rw [Int.natCast_pow]; rfl
  rw [IntKind.wrap_u64, e]
  generalize 2 ^ r = X at h2 ⊢
  omega
theorem start_zero {a X : Nat} (b : Nat) (h : a < X) : a / X / b * X = 0 ∧ a / X % b = 0 := by
  rw [Nat.div_eq_of_lt h, Nat.zero_div, Nat.zero_mul, Nat.zero_mod]
  exact ⟨rfl, rfl⟩
theorem and_bit (a j q : Nat) (h : j / 64 = q) : bits .and .u64 (dg a q / 2 ^ (j % 64)) 1 = ((a / 2 ^ j % 2 : Nat) : Int) := by
  rw [and_one, dg_bit _ _ _ (by omega), show 64 * q + j % 64 = j by omega]
theorem pow_orj (Q j q : Nat) (x : Int) (h : j / 64 = q) (hx : x = ((2 ^ (j % 64) : Nat) : Int)) : bits .or .u64 (dg (Q * 2 ^ (j + 1)) q) x = dg (Q * 2 ^ (j + 1) + 2 ^ j) q := by
  have := pow_or Q q (j % 64) x (by omega) hx
  rwa [show 64 * q + j % 64 = j by omega] at this
theorem pow_notj (Q j q k : Nat) (h : j / 64 = q) (hk : k ≠ q) : dg (Q * 2 ^ (j + 1)) k = dg (Q * 2 ^ (j + 1) + 2 ^ j) k := by
  have := pow_not Q q (j % 64) k (by omega) hk
  rwa [show 64 * q + j % 64 = j by omega] at this
end Go.Proofs.YtfchmikbebdflaaGreatDoor

namespace Go.Proofs.YtfchmikbebdflaaGreatDoor
open Go.RowKit Go.BigFrame

theorem run_clear_row {P : Program} (w : World) (dT ty elem : TypeId) (g o n cap : Nat) (cur : Array Value) (t : TypeId) (z : Value) (hu : P.underlying dT = some (.slice elem)) (hz : ∀ w, (zeroValue elem).run P w = .ok z w) (hzs : z.cells.size = 1) (h1 : z.cells[0]!.oneCell' = true)
    (hg : w.heap[g]? = some (.cells cur t (0, 0))) (hn : 0 < n) (hfit : o + n ≤ cur.size) :
    (Builtin.clear_ #[dT] ty #[.slice (some ⟨g, o, none⟩) n cap]).run P w = .ok (.tuple #[]) (w.setRow g (cur.toList.take o ++ (List.replicate n z.cells[0]! ++ cur.toList.drop (o + n))).toArray) := by
  have hc : (Builtin.zeroCells z.cells n).toList = List.replicate n z.cells[0]! := by
    apply List.ext_getElem
    · simp [Builtin.zeroCells, hzs]
    · intro i h1 h2
      simp [Builtin.zeroCells, hzs, Nat.mod_one]
  have hst := run_storeCells_at P g o t (List.replicate n z.cells[0]!) 0 cur w hg (by simpa using hfit) (fun v hv => by rw [(List.mem_replicate.1 hv).2]; exact h1)
  obtain ⟨m, rfl⟩ : ∃ m, n = m + 1 := ⟨n - 1, by omega⟩
  simp [Builtin.clear_, run_underlying hu, hz, hc, hst]
theorem wpList_clear_own {P : Program} {w : World} {ops : Array Oper} {rest : List Oper} {o : Oper} {a : Act} {Q : Exit → Act → World → Prop} (hgd : o.guard = none) (d : Operand) (dT : TypeId)
    (ho : o.op = .call { callee := .builtin .clear, args := #[d], argTypes := #[dT] }) (elem : TypeId) (hu : P.underlying dT = some (.slice elem)) (z : Value) (hz : ∀ w, (zeroValue elem).run P w = .ok z w) (hzs : z.cells.size = 1) (h1 : z.cells[0]!.oneCell' = true)
    (g off n cap : Nat) (hd : a.eval d = .slice (some ⟨g, off, none⟩) n cap) (cur : Array Value) (t : TypeId) (hg : w.heap[g]? = some (.cells cur t (0, 0))) (hn : 0 < n) (hfit : off + n ≤ cur.size)
    (h : wpList P ops Q rest (a.put o.dst (.tuple #[])) (w.setRow g (cur.toList.take off ++ (List.replicate n z.cells[0]! ++ cur.toList.drop (off + n))).toArray)) : wpList P ops Q (o :: rest) a w := by
  refine wpList_plain hgd fun K hK => ?_
  have hrun := run_clear_row (P := P) w dT o.type elem g off n cap cur t z hu hz hzs h1 hg hn hfit
  unfold Oper.wp
  simp [execOp, ho, resolve, invoke, builtin, hd, hrun, Result.andThen]
  exact hK _ _ h
theorem wide_of {a : Nat} (k : Nat) (hk : 4 ≤ k) (h : a < 2 ^ 256) : a < 2 ^ (64 * k) := Nat.lt_of_lt_of_le h (Nat.pow_le_pow_right (by decide) (by omega))
end Go.Proofs.YtfchmikbebdflaaGreatDoor

namespace Go.Proofs.YtfchmikbebdflaaGreatDoor
open Go.RowKit Go.BigFrame

theorem gcd_pos_right {n d : Nat} (hd : 0 < d) : 0 < Nat.gcd n d := Nat.gcd_pos_of_pos_right n hd
theorem made_room {n d e X : Nat} (hd : 0 < d) (h : d ≤ e) (hX : e + e ≤ X) : Nat.gcd n d + Nat.gcd n d ≤ X := by
  have := Nat.gcd_le_right n hd
  omega
theorem dbl_room {d k e : Nat} (h : d < 2 ^ k) (hk : k + 1 ≤ e) : d + d ≤ 2 ^ e := by
  have h1 : 2 ^ (k + 1) ≤ 2 ^ e := Nat.pow_le_pow_right (by decide) hk
  rw [Nat.pow_succ] at h1
  omega
end Go.Proofs.YtfchmikbebdflaaGreatDoor
