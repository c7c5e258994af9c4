/-
  Walks of seg: where a line is at an x. Conditions stand in each theorem.
-/
import Derived.Test.YtfchmikbebdflaaGreatDoorSg3
import Derived.Test.YtfchmikbebdflaaGreatDoorWf1
namespace Go.Proofs.YtfchmikbebdflaaGreatDoor
open Go.RowKit Go.BigFrame

/-- A fraction that may be: d above nought, in lowest terms, not too great. -/
structure Rt (k : Nat) (z : Int) (d : Nat) : Prop where
  pos : 0 < d
  low : Nat.gcd (ab z) d = 1
  nb : ab z < 2 ^ k
  db : d < 2 ^ k
theorem Rt.mono {k l : Nat} {z : Int} {d : Nat} (h : Rt k z d) (hkl : k ≤ l) : Rt l z d :=
  ⟨h.pos, h.low, Nat.lt_of_lt_of_le h.nb (Nat.pow_le_pow_right (by decide) hkl), Nat.lt_of_lt_of_le h.db (Nat.pow_le_pow_right (by decide) hkl)⟩
theorem okP_ng (z : Int) : okP (ng z, ab z) := by
  intro h
  simp only [ng, decide_eq_true_eq] at h
  show ab z ≠ 0
  unfold ab
  omega
theorem Rt.ok {k : Nat} {z : Int} {d : Nat} (h : Rt k z d) : okR (ng z, ab z) (false, d) :=
  ⟨okP_ng z, (fun h => by cases h), (by show 0 < zof false d; have := h.pos; unfold zof; simp; omega), h.low⟩
/-- In lowest terms. -/
def rz (z : Int) (d : Nat) : Int := zof (ng z) (ab z / Nat.gcd (ab z) d)
def rd (z : Int) (d : Nat) : Nat := d / Nat.gcd (ab z) d
theorem rd_pos {z : Int} {d : Nat} (hd : 0 < d) : 0 < rd z d := Nat.div_pos (Nat.gcd_le_right _ hd) (Nat.gcd_pos_of_pos_right _ hd)
theorem rd_le (z : Int) (d : Nat) : rd z d ≤ d := Nat.div_le_self _ _
theorem ab_rz (z : Int) (d : Nat) : ab (rz z d) = ab z / Nat.gcd (ab z) d := ab_zof _ _
theorem ab_rz_le (z : Int) (d : Nat) : ab (rz z d) ≤ ab z := by rw [ab_rz]; exact Nat.div_le_self _ _
theorem zof_mul_nat (s : Bool) (n g : Nat) : zof s n * (g : Int) = zof s (n * g) := by
  cases s <;> simp [zof, Int.natCast_mul, Int.neg_mul]
theorem rz_mul (z : Int) (d : Nat) : rz z d * (Nat.gcd (ab z) d : Nat) = z := by
  unfold rz
  rw [zof_mul_nat, Nat.div_mul_cancel (Nat.gcd_dvd_left _ _), zof_ng_ab]
theorem rd_mul (z : Int) (d : Nat) : rd z d * Nat.gcd (ab z) d = d := Nat.div_mul_cancel (Nat.gcd_dvd_right _ _)
/-- It is the same fraction. -/
theorem rz_same (z : Int) {d : Nat} (_hd : 0 < d) : rz z d * (d : Int) = z * (rd z d : Int) := by
  have h1 := rz_mul z d
  have h2 := rd_mul z d
  generalize Nat.gcd (ab z) d = g at h1 h2
  generalize rz z d = a at *
  generalize rd z d = b at *
  rw [← h1, ← h2, Int.natCast_mul, Int.mul_assoc, Int.mul_comm (g : Int)]
theorem Rt.red {k : Nat} {z : Int} {d : Nat} (hd : 0 < d) (h1 : ab z < 2 ^ k) (h2 : d < 2 ^ k) : Rt k (rz z d) (rd z d) :=
  ⟨rd_pos hd, by rw [ab_rz]; exact Nat.gcd_div_gcd_div_gcd_of_pos_right hd, Nat.lt_of_le_of_lt (ab_rz_le _ _) h1, Nat.lt_of_le_of_lt (rd_le _ _) h2⟩
/-- Of what 'made' is given to what it gives. -/
theorem made_rz (s : Bool) (n : Nat) (z : Int) (d : Nat) (hz : zof s n = z) : n / Nat.gcd n d = ab (rz z d) ∧ (s && decide (n / Nat.gcd n d ≠ 0)) = ng (rz z d) ∧ n = ab z := by
  subst hz
  have hn : ab (zof s n) = n := ab_zof s n
  refine ⟨by rw [ab_rz, hn], ?_, hn.symm⟩
  unfold rz
  rw [hn, ng_zof, ng_zof]
  cases s
  · simp
  · by_cases h : n = 0
    · subst h; simp
    · simp [h]
theorem zof_true_false (z : Int) (n : Nat) : zof (ng z) n = if z < 0 then -(n : Int) else n := by
  unfold zof ng
  by_cases h : z < 0 <;> simp [h]
end Go.Proofs.YtfchmikbebdflaaGreatDoor

namespace Go.Proofs.YtfchmikbebdflaaGreatDoor
open Go.RowKit Go.BigFrame

/-- What a fraction and an errno named as results hold. -/
def OutR (w : World) (b d : Nat) (cs : Array Value) (n : Int) (W : World) : Prop :=
  W.heap[b]? = some (.cells cs 91 (0, 0)) ∧ W.heap[d]? = some (.cells #[.int .i64 n] 31 (0, 0)) ∧ Below w.heap.size w W
theorem outR_of {w W W1 W2 : World} {b d : Nat} {cs : Array Value} {n : Int} {c e : Array Value} (hb : w.heap.size ≤ b) (hd : b < d) (h : W.heap[b]? = some (.cells c 91 (0, 0))) (k : W.heap[d]? = some (.cells e 31 (0, 0))) (hc : c.size = 10) (he : e.size = 1) (hB : Below w.heap.size w W)
    (L : LaidK 10 b cs W W1) (K : Laid1 d (.int .i64 n) W1 W2) : OutR w b d cs n W2 :=
  ⟨K.2.1 _ _ (by omega) (L.1 h hc), K.1 (L.2.1 _ _ (by omega) k) he, hB.trans ((L.2.2 _ hb).trans (K.2.2 _ (by omega)))⟩
theorem mul_lt_pow {a b i j e : Nat} (ha : a < 2 ^ i) (hb : b < 2 ^ j) (he : i + j ≤ e) : a * b < 2 ^ e := by
  refine Nat.lt_of_lt_of_le (Nat.mul_lt_mul'' ha hb) ?_
  rw [← Nat.pow_add]
  exact Nat.pow_le_pow_right (by decide) he
theorem add_lt_pow {a b i e : Nat} (ha : a < 2 ^ i) (hb : b < 2 ^ i) (he : i + 1 ≤ e) : a + b < 2 ^ e := by
  refine Nat.lt_of_lt_of_le (Nat.add_lt_add ha hb) ?_
  refine Nat.le_trans (Nat.le_of_eq ?_) (Nat.pow_le_pow_right (by decide) he)
  rw [Nat.pow_succ]
  omega
theorem szof_mul2 (a b : Bool) (x y : Nat) : zof (!(a == b)) (x * y) = zof a x * zof b y := szof_mul a b x y
/-- The sum of two small fractions. -/
def addN (z1 : Int) (d1 : Nat) (z2 : Int) (d2 : Nat) : Int := z1 * d2 + z2 * d1
theorem add_room {k : Nat} {z1 z2 : Int} {d1 d2 : Nat} (h1 : Rt k z1 d1) (h2 : Rt k z2 d2) (e : Nat) (he : k + k + 1 ≤ e) :
    ab z1 * d2 < 2 ^ e ∧ ab z2 * d1 < 2 ^ e ∧ ab (addN z1 d1 z2 d2) < 2 ^ e ∧ d1 * d2 < 2 ^ (k + k) ∧ d1 * d2 < 2 ^ e := by
  have a1 := mul_lt_pow h1.nb h2.db (Nat.le_refl _)
  have a2 := mul_lt_pow h2.nb h1.db (Nat.le_refl _)
  have a3 := mul_lt_pow h1.db h2.db (Nat.le_refl _)
  have a4 := add_lt_pow a1 a2 he
  have hle : ∀ x, x < 2 ^ (k + k) → x < 2 ^ e := fun x hx => Nat.lt_of_lt_of_le hx (Nat.pow_le_pow_right (by decide) (by omega))
  refine ⟨hle _ a1, hle _ a2, Nat.lt_of_le_of_lt ?_ a4, a3, hle _ a3⟩
  have b1 : ab (z1 * (d2 : Int)) = ab z1 * d2 := by rw [ab_mul, ab_nat]
  have b2 : ab (z2 * (d1 : Int)) = ab z2 * d1 := by rw [ab_mul, ab_nat]
  rw [← b1, ← b2]
  unfold addN ab
  exact Int.natAbs_add_le _ _
end Go.Proofs.YtfchmikbebdflaaGreatDoor

namespace Go.Proofs.YtfchmikbebdflaaGreatDoor
open Go.RowKit Go.BigFrame

theorem ng_flip {z : Int} (h : z ≠ 0) : (!ng z) = ng (-z) := by
  unfold ng
  rw [Bool.eq_iff_iff]
  simp
  omega
theorem ab_flip (z : Int) : ab (-z) = ab z := by unfold ab; exact Int.natAbs_neg z
theorem Rt.flip {k : Nat} {z : Int} {d : Nat} (h : Rt k z d) : Rt k (-z) d := ⟨h.pos, by rw [ab_flip]; exact h.low, by rw [ab_flip]; exact h.nb, h.db⟩
theorem sgn_zero {z : Int} (h : z = 0) : sgn z = 0 := by subst h; rfl
theorem sgn_not {z : Int} (h : z ≠ 0) : sgn z ≠ 0 := by unfold sgn; split <;> (try split) <;> omega
end Go.Proofs.YtfchmikbebdflaaGreatDoor

namespace Go.Proofs.YtfchmikbebdflaaGreatDoor
open Go.RowKit Go.BigFrame

/-- The quotient of two fractions. -/
def divN (z1 : Int) (_d1 : Nat) (z2 : Int) (d2 : Nat) : Int := zof (ng z1 != ng z2) (ab z1 * d2)
def divD (_z1 : Int) (d1 : Nat) (z2 : Int) (_d2 : Nat) : Nat := d1 * ab z2
theorem clear_div_dummy : True := trivial
theorem ab_pos {z : Int} (h : z ≠ 0) : 0 < ab z := by unfold ab; omega
theorem lt_pow_of {x i e : Nat} (h : x < 2 ^ i) (he : i ≤ e) : x < 2 ^ e := Nat.lt_of_lt_of_le h (Nat.pow_le_pow_right (by decide) he)
theorem div_room {k : Nat} {z1 z2 : Int} {d1 d2 : Nat} (h1 : Rt k z1 d1) (h2 : Rt k z2 d2) (e : Nat) (he : k + k ≤ e) : ab (divN z1 d1 z2 d2) < 2 ^ e := by
  have habn : ab (divN z1 d1 z2 d2) = ab z1 * d2 := ab_zof _ _
  rw [habn]
  exact mul_lt_pow h1.nb h2.db he
end Go.Proofs.YtfchmikbebdflaaGreatDoor

namespace Go.Proofs.YtfchmikbebdflaaGreatDoor
open Go.RowKit Go.BigFrame

end Go.Proofs.YtfchmikbebdflaaGreatDoor
