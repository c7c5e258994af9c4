/-
  Walks of ratio: quotients of fractions. Conditions stand in each theorem.
-/
import Derived.Test.YtbhfnfokihdjjaaGreatDoorSg3
import Derived.Test.YtbhfnfokihdjjaaGreatDoorWf1
namespace Go.Proofs.YtbhfnfokihdjjaaGreatDoor
open Go.RowKit Go.BigFrame

/-- A fraction that may be: d above nought, in lowest terms, not too great. -/
structure Rt (k : Nat) (z : Int) (d : Nat) : Prop where
  pos : 0 < d
  low : Nat.gcd (ab z) d = 1
  nb : ab z < 2 ^ k
  db : d < 2 ^ k
theorem Rt.mono {k l : Nat} {z : Int} {d : Nat} (h : Rt k z d) (hkl : k ≤ l) : Rt l z d :=
  ⟨h.pos, h.low, Nat.lt_of_lt_of_le h.nb (Nat.pow_le_pow_right (by decide) hkl), Nat.lt_of_lt_of_le h.db (Nat.pow_le_pow_right (by decide) hkl)⟩
theorem okP_ng (z : Int) : okP (ng z, ab z) := by
  intro h
  simp only [ng, decide_eq_true_eq] at h
  show ab z ≠ 0
  unfold ab
  omega
theorem Rt.ok {k : Nat} {z : Int} {d : Nat} (h : Rt k z d) : okR (ng z, ab z) (false, d) :=
  ⟨okP_ng z, (fun h => by cases h), (by show 0 < zof false d; have := h.pos; unfold zof; simp; omega), h.low⟩
/-- In lowest terms. -/
def rz (z : Int) (d : Nat) : Int := zof (ng z) (ab z / Nat.gcd (ab z) d)
def rd (z : Int) (d : Nat) : Nat := d / Nat.gcd (ab z) d
theorem rd_pos {z : Int} {d : Nat} (hd : 0 < d) : 0 < rd z d := Nat.div_pos (Nat.gcd_le_right _ hd) (Nat.gcd_pos_of_pos_right _ hd)
theorem rd_le (z : Int) (d : Nat) : rd z d ≤ d := Nat.div_le_self _ _
theorem ab_rz (z : Int) (d : Nat) : ab (rz z d) = ab z / Nat.gcd (ab z) d := ab_zof _ _
theorem ab_rz_le (z : Int) (d : Nat) : ab (rz z d) ≤ ab z := by rw [ab_rz]; exact Nat.div_le_self _ _
theorem zof_mul_nat (s : Bool) (n g : Nat) : zof s n * (g : Int) = zof s (n * g) := by
  cases s <;> simp [zof, Int.natCast_mul, Int.neg_mul]
theorem rz_mul (z : Int) (d : Nat) : rz z d * (Nat.gcd (ab z) d : Nat) = z := by
  unfold rz
  rw [zof_mul_nat, Nat.div_mul_cancel (Nat.gcd_dvd_left _ _), zof_ng_ab]
theorem rd_mul (z : Int) (d : Nat) : rd z d * Nat.gcd (ab z) d = d := Nat.div_mul_cancel (Nat.gcd_dvd_right _ _)
/-- It is the same fraction. -/
theorem rz_same (z : Int) {d : Nat} (_hd : 0 < d) : rz z d * (d : Int) = z * (rd z d : Int) := by
  have h1 := rz_mul z d
  have h2 := rd_mul z d
  generalize Nat.gcd (ab z) d = g at h1 h2
  generalize rz z d = a at *
  generalize rd z d = b at *
  rw [← h1, ← h2, Int.natCast_mul, Int.mul_assoc, Int.mul_comm (g : Int)]
theorem Rt.red {k : Nat} {z : Int} {d : Nat} (hd : 0 < d) (h1 : ab z < 2 ^ k) (h2 : d < 2 ^ k) : Rt k (rz z d) (rd z d) :=
  ⟨rd_pos hd, by rw [ab_rz]; exact Nat.gcd_div_gcd_div_gcd_of_pos_right hd, Nat.lt_of_le_of_lt (ab_rz_le _ _) h1, Nat.lt_of_le_of_lt (rd_le _ _) h2⟩
/-- Of what 'made' is given to what it gives. -/
theorem made_rz (s : Bool) (n : Nat) (z : Int) (d : Nat) (hz : zof s n = z) : n / Nat.gcd n d = ab (rz z d) ∧ (s && decide (n / Nat.gcd n d ≠ 0)) = ng (rz z d) ∧ n = ab z := by
  subst hz
  have hn : ab (zof s n) = n := ab_zof s n
  refine ⟨by rw [ab_rz, hn], ?_, hn.symm⟩
  unfold rz
  rw [hn, ng_zof, ng_zof]
  cases s
  · simp
  · by_cases h : n = 0
    · subst h; simp
    · simp [h]
theorem zof_true_false (z : Int) (n : Nat) : zof (ng z) n = if z < 0 then -(n : Int) else n := by
  unfold zof ng
  by_cases h : z < 0 <;> simp [h]
set_option maxRecDepth 20000 in
theorem made_v (s : Bool) (n d : Nat) (z : Int) (k : Nat) (hk : k + 1 ≤ 64 * 9) (hz : zof s n = z) (hn : ab z < 2 ^ (64 * 9)) (hd0 : 0 < d) (hd : d < 2 ^ k) (h1 : ab (rz z d) < 2 ^ 256) (h2 : rd z d < 2 ^ 256) (w : World) (hV : Vars w) :
    Calls Tryz.prog 133 #[.agg #[.int .u64 (dg (n) 0), .int .u64 (dg (n) 1), .int .u64 (dg (n) 2), .int .u64 (dg (n) 3), .int .u64 (dg (n) 4), .int .u64 (dg (n) 5), .int .u64 (dg (n) 6), .int .u64 (dg (n) 7), .int .u64 (dg (n) 8), .bool (s)], .agg #[.int .u64 (dg (d) 0), .int .u64 (dg (d) 1), .int .u64 (dg (d) 2), .int .u64 (dg (d) 3), .int .u64 (dg (d) 4), .int .u64 (dg (d) 5), .int .u64 (dg (d) 6), .int .u64 (dg (d) 7), .int .u64 (dg (d) 8)]] w fun e w' => e = .returned (.agg #[.bool (ng (rz z d)), .int .u64 (dg (ab (rz z d)) 0), .int .u64 (dg (ab (rz z d)) 1), .int .u64 (dg (ab (rz z d)) 2), .int .u64 (dg (ab (rz z d)) 3), .bool false, .int .u64 (dg (rd z d) 0), .int .u64 (dg (rd z d) 1), .int .u64 (dg (rd z d) 2), .int .u64 (dg (rd z d) 3)]) ∧ Below w.heap.size w w' := by
  obtain ⟨e1, e2, e3⟩ := made_rz s n z d hz
  have hg : Nat.gcd n d ≤ d := Nat.gcd_le_right _ hd0
  have hdd := dbl_room hd hk
  have hdw : d < 2 ^ (64 * 9) := Nat.lt_of_lt_of_le (Nat.lt_add_of_pos_left hd0) hdd
  exact made_ok s n d (Nat.gcd n d) (ab (rz z d)) (rd z d) (ng (rz z d)) (by rw [e3]; exact hn) hd0 hdw rfl (Nat.le_trans (Nat.add_le_add hg hg) hdd) e1 (by rw [e3]; rfl) h1 h2 (by rw [← e1]; exact e2) w hV
theorem splus_det (s t : Bool) (x y : Nat) (hx : x < 2 ^ (64 * 9)) (hy : y < 2 ^ (64 * 9)) : ∃ b n, zof b n = zof s x + zof t y ∧ n ≤ x + y ∧ ∀ w : World,
    Calls Tryz.prog 111 #[.agg #[.int .u64 (dg (x) 0), .int .u64 (dg (x) 1), .int .u64 (dg (x) 2), .int .u64 (dg (x) 3), .int .u64 (dg (x) 4), .int .u64 (dg (x) 5), .int .u64 (dg (x) 6), .int .u64 (dg (x) 7), .int .u64 (dg (x) 8), .bool (s)], .agg #[.int .u64 (dg (y) 0), .int .u64 (dg (y) 1), .int .u64 (dg (y) 2), .int .u64 (dg (y) 3), .int .u64 (dg (y) 4), .int .u64 (dg (y) 5), .int .u64 (dg (y) 6), .int .u64 (dg (y) 7), .int .u64 (dg (y) 8), .bool (t)]] w fun e w' => e = .returned (.agg #[.int .u64 (dg (n) 0), .int .u64 (dg (n) 1), .int .u64 (dg (n) 2), .int .u64 (dg (n) 3), .int .u64 (dg (n) 4), .int .u64 (dg (n) 5), .int .u64 (dg (n) 6), .int .u64 (dg (n) 7), .int .u64 (dg (n) 8), .bool (b)]) ∧ Below w.heap.size w w' := by
  by_cases hst : s = t
  · exact ⟨_, _, by subst hst; unfold zof; split <;> omega, Nat.le_refl _, fun w => splus_same s t x y hst w⟩
  · by_cases h : y ≤ x
    · exact ⟨_, _, by clear hx hy; cases s <;> cases t <;> simp_all [zof] <;> omega, by clear hx hy; omega, fun w => splus_ge s t x y hst hx h w⟩
    · exact ⟨_, _, by clear hx hy; cases s <;> cases t <;> simp_all [zof] <;> omega, by clear hx hy; omega, fun w => splus_lt s t x y hst hy (Nat.lt_of_not_le h) w⟩
end Go.Proofs.YtbhfnfokihdjjaaGreatDoor

namespace Go.Proofs.YtbhfnfokihdjjaaGreatDoor
open Go.RowKit Go.BigFrame

/-- What a fraction and an errno named as results hold. -/
def OutR (w : World) (b d : Nat) (cs : Array Value) (n : Int) (W : World) : Prop :=
  W.heap[b]? = some (.cells cs 44 (0, 0)) ∧ W.heap[d]? = some (.cells #[.int .i64 n] 26 (0, 0)) ∧ Below w.heap.size w W
theorem outR_of {w W W1 W2 : World} {b d : Nat} {cs : Array Value} {n : Int} {c e : Array Value} (hb : w.heap.size ≤ b) (hd : b < d) (h : W.heap[b]? = some (.cells c 44 (0, 0))) (k : W.heap[d]? = some (.cells e 26 (0, 0))) (hc : c.size = 10) (he : e.size = 1) (hB : Below w.heap.size w W)
    (L : LaidK 10 b cs W W1) (K : Laid1 d (.int .i64 n) W1 W2) : OutR w b d cs n W2 :=
  ⟨K.2.1 _ _ (by omega) (L.1 h hc), K.1 (L.2.1 _ _ (by omega) k) he, hB.trans ((L.2.2 _ hb).trans (K.2.2 _ (by omega)))⟩
theorem mul_lt_pow {a b i j e : Nat} (ha : a < 2 ^ i) (hb : b < 2 ^ j) (he : i + j ≤ e) : a * b < 2 ^ e := by
  refine Nat.lt_of_lt_of_le (Nat.mul_lt_mul'' ha hb) ?_
  rw [← Nat.pow_add]
  exact Nat.pow_le_pow_right (by decide) he
theorem add_lt_pow {a b i e : Nat} (ha : a < 2 ^ i) (hb : b < 2 ^ i) (he : i + 1 ≤ e) : a + b < 2 ^ e := by
  refine Nat.lt_of_lt_of_le (Nat.add_lt_add ha hb) ?_
  refine Nat.le_trans (Nat.le_of_eq ?_) (Nat.pow_le_pow_right (by decide) he)
  rw [Nat.pow_succ]
  omega
theorem szof_mul2 (a b : Bool) (x y : Nat) : zof (!(a == b)) (x * y) = zof a x * zof b y := szof_mul a b x y
theorem times_pos (s : Bool) (a b : Nat) (ha : a < 2 ^ 256) (hb : b < 2 ^ 256) (w : World) :
    Calls Tryz.prog 110 #[.agg #[.bool (s), .int .u64 (dg (a) 0), .int .u64 (dg (a) 1), .int .u64 (dg (a) 2), .int .u64 (dg (a) 3)], .agg #[.bool (false), .int .u64 (dg (b) 0), .int .u64 (dg (b) 1), .int .u64 (dg (b) 2), .int .u64 (dg (b) 3)]] w fun e w' => e = .returned (.agg #[.int .u64 (dg (a * b) 0), .int .u64 (dg (a * b) 1), .int .u64 (dg (a * b) 2), .int .u64 (dg (a * b) 3), .int .u64 (dg (a * b) 4), .int .u64 (dg (a * b) 5), .int .u64 (dg (a * b) 6), .int .u64 (dg (a * b) 7), .int .u64 (dg (a * b) 8), .bool (s)]) ∧ Below w.heap.size w w' := by
  have h := times_w s false a b ha hb w
  rw [show (!(s == false)) = s by cases s <;> rfl] at h
  exact h
/-- The sum of two small fractions. -/
def addN (z1 : Int) (d1 : Nat) (z2 : Int) (d2 : Nat) : Int := z1 * d2 + z2 * d1
theorem add_room {k : Nat} {z1 z2 : Int} {d1 d2 : Nat} (h1 : Rt k z1 d1) (h2 : Rt k z2 d2) (e : Nat) (he : k + k + 1 ≤ e) :
    ab z1 * d2 < 2 ^ e ∧ ab z2 * d1 < 2 ^ e ∧ ab (addN z1 d1 z2 d2) < 2 ^ e ∧ d1 * d2 < 2 ^ (k + k) ∧ d1 * d2 < 2 ^ e := by
  have a1 := mul_lt_pow h1.nb h2.db (Nat.le_refl _)
  have a2 := mul_lt_pow h2.nb h1.db (Nat.le_refl _)
  have a3 := mul_lt_pow h1.db h2.db (Nat.le_refl _)
  have a4 := add_lt_pow a1 a2 he
  have hle : ∀ x, x < 2 ^ (k + k) → x < 2 ^ e := fun x hx => Nat.lt_of_lt_of_le hx (Nat.pow_le_pow_right (by decide) (by omega))
  refine ⟨hle _ a1, hle _ a2, Nat.lt_of_le_of_lt ?_ a4, a3, hle _ a3⟩
  have b1 : ab (z1 * (d2 : Int)) = ab z1 * d2 := by rw [ab_mul, ab_nat]
  have b2 : ab (z2 * (d1 : Int)) = ab z2 * d1 := by rw [ab_mul, ab_nat]
  rw [← b1, ← b2]
  unfold addN ab
  exact Int.natAbs_add_le _ _
set_option maxRecDepth 20000 in
set_option maxHeartbeats 4000000 in
theorem ratio_add (z1 : Int) (d1 : Nat) (z2 : Int) (d2 : Nat) (h1 : Rt 120 z1 d1) (h2 : Rt 120 z2 d2) (w : World) (hV : Vars w) :
    Calls Tryz.prog 130 #[.agg #[.bool (ng (z1)), .int .u64 (dg (ab (z1)) 0), .int .u64 (dg (ab (z1)) 1), .int .u64 (dg (ab (z1)) 2), .int .u64 (dg (ab (z1)) 3), .bool false, .int .u64 (dg (d1) 0), .int .u64 (dg (d1) 1), .int .u64 (dg (d1) 2), .int .u64 (dg (d1) 3)], .agg #[.bool (ng (z2)), .int .u64 (dg (ab (z2)) 0), .int .u64 (dg (ab (z2)) 1), .int .u64 (dg (ab (z2)) 2), .int .u64 (dg (ab (z2)) 3), .bool false, .int .u64 (dg (d2) 0), .int .u64 (dg (d2) 1), .int .u64 (dg (d2) 2), .int .u64 (dg (d2) 3)]] w fun e w' => e = .returned (.tuple #[.agg #[.bool (ng (rz (addN z1 d1 z2 d2) (d1 * d2))), .int .u64 (dg (ab (rz (addN z1 d1 z2 d2) (d1 * d2))) 0), .int .u64 (dg (ab (rz (addN z1 d1 z2 d2) (d1 * d2))) 1), .int .u64 (dg (ab (rz (addN z1 d1 z2 d2) (d1 * d2))) 2), .int .u64 (dg (ab (rz (addN z1 d1 z2 d2) (d1 * d2))) 3), .bool false, .int .u64 (dg (rd (addN z1 d1 z2 d2) (d1 * d2)) 0), .int .u64 (dg (rd (addN z1 d1 z2 d2) (d1 * d2)) 1), .int .u64 (dg (rd (addN z1 d1 z2 d2) (d1 * d2)) 2), .int .u64 (dg (rd (addN z1 d1 z2 d2) (d1 * d2)) 3)], .int .i64 0]) ∧ Below w.heap.size w w' := by
  have hmf : ∀ (fn : Fn) (first cap : Array Value) (w : World), (Instr.makeFunc fn first cap).run Tryz.prog w = .ok (.func fn first cap) w := fun _ _ _ _ => rfl
  have r1 := h1.mono (show 120 ≤ 256 by decide)
  have r2 := h2.mono (show 120 ≤ 256 by decide)
  have room := add_room h1 h2 (64 * 9) (by decide)
  have room2 := add_room h1 h2 256 (by decide)
  have hd0 : 0 < d1 * d2 := Nat.mul_pos h1.pos h2.pos
  obtain ⟨b, n, hb, hn, hplus⟩ := splus_det (ng z1) (ng z2) (ab z1 * d2) (ab z2 * d1) room.1 room.2.1
  have hbz : zof b n = addN z1 d1 z2 d2 := by
    rw [hb, ← zof_mul_nat, ← zof_mul_nat, zof_ng_ab, zof_ng_ab]
    rfl
  obtain ⟨z, hz⟩ : ∃ z, z = rz (addN z1 d1 z2 d2) (d1 * d2) := ⟨_, rfl⟩
  obtain ⟨d, hd⟩ : ∃ d, d = rd (addN z1 d1 z2 d2) (d1 * d2) := ⟨_, rfl⟩
  have HMD : Hd (∀ w, Vars w → Calls Tryz.prog 133 #[.agg #[.int .u64 (dg (n) 0), .int .u64 (dg (n) 1), .int .u64 (dg (n) 2), .int .u64 (dg (n) 3), .int .u64 (dg (n) 4), .int .u64 (dg (n) 5), .int .u64 (dg (n) 6), .int .u64 (dg (n) 7), .int .u64 (dg (n) 8), .bool (b)], .agg #[.int .u64 (dg (d1 * d2) 0), .int .u64 (dg (d1 * d2) 1), .int .u64 (dg (d1 * d2) 2), .int .u64 (dg (d1 * d2) 3), .int .u64 (dg (d1 * d2) 4), .int .u64 (dg (d1 * d2) 5), .int .u64 (dg (d1 * d2) 6), .int .u64 (dg (d1 * d2) 7), .int .u64 (dg (d1 * d2) 8)]] w fun e w' => e = .returned (.agg #[.bool (ng (z)), .int .u64 (dg (ab (z)) 0), .int .u64 (dg (ab (z)) 1), .int .u64 (dg (ab (z)) 2), .int .u64 (dg (ab (z)) 3), .bool false, .int .u64 (dg (d) 0), .int .u64 (dg (d) 1), .int .u64 (dg (d) 2), .int .u64 (dg (d) 3)]) ∧ Below w.heap.size w w') := ⟨fun w hv => by
    rw [hz, hd]
    exact made_v b n (d1 * d2) _ (120 + 120) (by decide) hbz room.2.2.1 hd0 room.2.2.2.1 (Nat.lt_of_le_of_lt (ab_rz_le _ _) room2.2.2.1) (Nat.lt_of_le_of_lt (rd_le _ _) room2.2.2.2.2) w hv⟩
  have HPL := Hd.mk hplus
  have HT : Hd (∀ s x y, ((s = ng z1 ∧ x = ab z1 ∧ y = d2) ∨ (s = ng z2 ∧ x = ab z2 ∧ y = d1)) → ∀ w, Calls Tryz.prog 110 #[.agg #[.bool (s), .int .u64 (dg (x) 0), .int .u64 (dg (x) 1), .int .u64 (dg (x) 2), .int .u64 (dg (x) 3)], .agg #[.bool (false), .int .u64 (dg (y) 0), .int .u64 (dg (y) 1), .int .u64 (dg (y) 2), .int .u64 (dg (y) 3)]] w fun e w' => e = .returned (.agg #[.int .u64 (dg (x * y) 0), .int .u64 (dg (x * y) 1), .int .u64 (dg (x * y) 2), .int .u64 (dg (x * y) 3), .int .u64 (dg (x * y) 4), .int .u64 (dg (x * y) 5), .int .u64 (dg (x * y) 6), .int .u64 (dg (x * y) 7), .int .u64 (dg (x * y) 8), .bool (s)]) ∧ Below w.heap.size w w') := ⟨by
    rintro s x y (⟨rfl, rfl, rfl⟩ | ⟨rfl, rfl, rfl⟩) w
    · exact times_pos _ _ _ r1.nb r2.db w
    · exact times_pos _ _ _ r2.nb r1.db w⟩
  have HPR : Hd (∀ w, Calls Tryz.prog 126 #[.agg #[.bool (false), .int .u64 (dg (d1) 0), .int .u64 (dg (d1) 1), .int .u64 (dg (d1) 2), .int .u64 (dg (d1) 3)], .agg #[.bool (false), .int .u64 (dg (d2) 0), .int .u64 (dg (d2) 1), .int .u64 (dg (d2) 2), .int .u64 (dg (d2) 3)]] w fun e w' => e = .returned (.agg #[.int .u64 (dg (d1 * d2) 0), .int .u64 (dg (d1 * d2) 1), .int .u64 (dg (d1 * d2) 2), .int .u64 (dg (d1 * d2) 3), .int .u64 (dg (d1 * d2) 4), .int .u64 (dg (d1 * d2) 5), .int .u64 (dg (d1 * d2) 6), .int .u64 (dg (d1 * d2) 7), .int .u64 (dg (d1 * d2) 8)]) ∧ Below w.heap.size w w') := ⟨fun w => product_any false false d1 d2 r1.db r2.db w⟩
  have HA : Hd (∀ B w, w.heap[B]? = some (.cells #[.bool (ng (z1)), .int .u64 (dg (ab (z1)) 0), .int .u64 (dg (ab (z1)) 1), .int .u64 (dg (ab (z1)) 2), .int .u64 (dg (ab (z1)) 3), .bool false, .int .u64 (dg (d1) 0), .int .u64 (dg (d1) 1), .int .u64 (dg (d1) 2), .int .u64 (dg (d1) 3), .bool (ng (z2)), .int .u64 (dg (ab (z2)) 0), .int .u64 (dg (ab (z2)) 1), .int .u64 (dg (ab (z2)) 2), .int .u64 (dg (ab (z2)) 3), .bool false, .int .u64 (dg (d2) 0), .int .u64 (dg (d2) 1), .int .u64 (dg (d2) 2), .int .u64 (dg (d2) 3)] 44 (0, 0)) → Calls Tryz.prog 109 #[.slice (some ⟨B, 0, none⟩) 2 2] w fun e w' => e = .returned (.tuple #[]) ∧ Below w.heap.size w w') := ⟨fun B w hz =>
    all_two B (ng z1, ab z1) (false, d1) (ng z2, ab z2) (false, d2) r1.nb r1.db r2.nb r2.db _ true true ⟨fun _ => r1.ok, fun _ => rfl⟩ ⟨fun _ => r2.ok, fun _ => rfl⟩ w hz⟩
  rw [← hz, ← hd]
  have HV := Hd.mk hV
  clear h1 h2 r1 r2 room room2 hd0 hb hn hplus hbz hz hd hV
  go_enter_defers Tryz.func130, Tryz.ntmps130
  go_wp2_with fail
  refine (HA.out (w.heap.size + 1 + 1 + 1 + 1) _ (by focus (repeat (first | (with_reducible exact heap_at (by first | rfl | (simp; done) | (simp; omega)) _) | (with_reducible refine heap_old ?_ _))))).mono ?_
  rintro e w1 ⟨rfl, hb1⟩
  have z0 : w1.heap[w.heap.size]? = some _ := heap_below hb1 (heap_old (heap_old (heap_old (heap_old (heap_new w _) _) _) _) _)
  have c0 := cell_at z0
  have f0 := frozen_at z0
  have z7 : w1.heap[w.heap.size + 1]? = some _ := heap_below hb1 (heap_old (heap_old (heap_old (heap_at (n := w.heap.size + 1) (by simp) _) _) _) _)
  have c7 := cell_at z7
  have f7 := frozen_at z7
  have z1 : w1.heap[w.heap.size + 1 + 1]? = some _ := heap_below hb1 (heap_old (heap_old (heap_at (n := w.heap.size + 1 + 1) (by simp) _) _) _)
  have c1 := cell_at z1
  have f1 := frozen_at z1
  have z2 : w1.heap[w.heap.size + 1 + 1 + 1]? = some _ := heap_below hb1 (heap_old (heap_at (n := w.heap.size + 1 + 1 + 1) (by simp) _) _)
  have c2 := cell_at z2
  have f2 := frozen_at z2
  have hw1 : Below w.heap.size w w1 := by
    focus (repeat (first | (with_reducible exact Below.refl _ _) | (with_reducible assumption) | ((with_reducible refine Below.setCell ?_ ?_ _); rotate_left; (focus (first | omega | (simp; done) | (simp; omega)))) | ((with_reducible refine Below.alloc ?_ ?_ _); rotate_left; (focus (first | omega | (simp; done) | (simp; omega)))) | (with_reducible refine Below.drew ?_) | (refine below_on ?_ (by assumption))))
  clear hb1 c0 f0 c7 f7 c1 f1 c2 f2
  go_upto_region 3 with (fail)
  have HVW := Hd.mk (HV.out.below hw1)
  refine region_qt 17 (by kernel_rfl) (by kernel_rfl) fun X _ mk hmk hcl => ?_
  have c0 := mk_cell hmk z0
  have c7 := mk_cell hmk z7
  simp only [List.take_succ_cons, List.take_zero, List.drop_succ_cons, List.drop_zero]
  repeat (go_big_quiet_step (first | (go_at_call 110; exact (HT.out _ _ _ (by first | (with_reducible exact Or.inl ⟨rfl, rfl, rfl⟩) | (with_reducible exact Or.inr ⟨rfl, rfl, rfl⟩)) _).mono fun e w' h => ⟨h.1, hcl _ _ h.2⟩) | (go_at_call 111; exact (HPL.out _).mono fun e w' h => ⟨h.1, hcl _ _ h.2⟩) | (go_at_call 126; exact (HPR.out _).mono fun e w' h => ⟨h.1, hcl _ _ h.2⟩) | (go_at_call 133; exact (HMD.out _ (HVW.out.below (hmk _))).mono fun e w' h => ⟨h.1, hcl _ _ h.2⟩)))
  refine wpQuiet_nil ?_
  rintro _ ⟨x, rfl⟩
  clear c0 c7
  have hx := hmk x
  clear hcl hmk
  generalize mk x = W1 at hx
  have y1 := heap_below hx z1
  have y2 := heap_below hx z2
  have hB := below_on hw1 hx
  have c1 := cell_at y1
  have c2 := cell_at y2
  have f1 := frozen_at y1
  have f2 := frozen_at y2
  clear hx z0 z7 z1 z2 hw1 HVW
  go_wp2
  refine leaves_cons (f := 107) (args := #[.pointer (some ⟨w.heap.size + 1 + 1 + 1, 0, none⟩), .func (.func 153) #[] #[.pointer (some ⟨w.heap.size + 1 + 1, 0, none⟩)]]) (by simp) (by simp [go_sem]) ?_
  refine (ratio_caught_idle _ _ _).mono ?_
  rintro e u' w4 ⟨rfl, rfl, rfl⟩
  refine abs_leaves (OutR w (w.heap.size + 1 + 1) (w.heap.size + 1 + 1 + 1) #[.bool (ng (z)), .int .u64 (dg (ab (z)) 0), .int .u64 (dg (ab (z)) 1), .int .u64 (dg (ab (z)) 2), .int .u64 (dg (ab (z)) 3), .bool false, .int .u64 (dg (d) 0), .int .u64 (dg (d) 1), .int .u64 (dg (d) 2), .int .u64 (dg (d) 3)] 0) (outR_of (by omega) (by omega) y1 y2 rfl rfl hB (laid_10 ..) (laid_one ..)) fun W ⟨y1, y2, hB⟩ => ?_
  have c1 := cell_at y1
  have c2 := cell_at y2
  simp [Leaves, settle, results, Tryz.results130, go_sem, c1, c2]
  exact hB
end Go.Proofs.YtbhfnfokihdjjaaGreatDoor

namespace Go.Proofs.YtbhfnfokihdjjaaGreatDoor
open Go.RowKit Go.BigFrame

theorem ng_flip {z : Int} (h : z ≠ 0) : (!ng z) = ng (-z) := by
  unfold ng
  rw [Bool.eq_iff_iff]
  simp
  omega
theorem ab_flip (z : Int) : ab (-z) = ab z := by unfold ab; exact Int.natAbs_neg z
theorem Rt.flip {k : Nat} {z : Int} {d : Nat} (h : Rt k z d) : Rt k (-z) d := ⟨h.pos, by rw [ab_flip]; exact h.low, by rw [ab_flip]; exact h.nb, h.db⟩
theorem sgn_zero {z : Int} (h : z = 0) : sgn z = 0 := by subst h; rfl
theorem sgn_not {z : Int} (h : z ≠ 0) : sgn z ≠ 0 := by unfold sgn; split <;> (try split) <;> omega
set_option maxRecDepth 20000 in
set_option maxHeartbeats 2000000 in
theorem ratio_turned (z m : Int) (d : Nat) (hm : -z = m) (hz : ab z < 2 ^ 256) (w : World) :
    Calls Tryz.prog 131 #[.agg #[.bool (ng (z)), .int .u64 (dg (ab (z)) 0), .int .u64 (dg (ab (z)) 1), .int .u64 (dg (ab (z)) 2), .int .u64 (dg (ab (z)) 3), .bool false, .int .u64 (dg (d) 0), .int .u64 (dg (d) 1), .int .u64 (dg (d) 2), .int .u64 (dg (d) 3)]] w fun e w' => e = .returned (.agg #[.bool (ng (m)), .int .u64 (dg (ab (m)) 0), .int .u64 (dg (ab (m)) 1), .int .u64 (dg (ab (m)) 2), .int .u64 (dg (ab (m)) 3), .bool false, .int .u64 (dg (d) 0), .int .u64 (dg (d) 1), .int .u64 (dg (d) 2), .int .u64 (dg (d) 3)]) ∧ Below w.heap.size w w' := by
  have HS := Hd.mk (fun w => sign_ok z hz w)
  by_cases h0 : z = 0
  · obtain rfl : z = m := by omega
    have h1 := sgn_zero h0
    have h2 : (sgn z != 0) = false := by rw [h1]; rfl
    have h3 : (sgn z == 0) = true := by rw [h1]; rfl
    clear hm hz h0 h1
    go_enter Tryz.func131, Tryz.ntmps131
    go_wp2_with fail
    refine (HS.out _).mono ?_
    rintro e w1 ⟨rfl, hb⟩
    have z0 := heap_below hb (heap_old (heap_new w (.cells #[.bool (ng (z)), .int .u64 (dg (ab (z)) 0), .int .u64 (dg (ab (z)) 1), .int .u64 (dg (ab (z)) 2), .int .u64 (dg (ab (z)) 3), .bool false, .int .u64 (dg (d) 0), .int .u64 (dg (d) 1), .int .u64 (dg (d) 2), .int .u64 (dg (d) 3)] 44)) _)
    have z1 := heap_below hb (heap_at (n := w.heap.size + 1) (by simp) (.cells #[.bool false, .int .u64 0, .int .u64 0, .int .u64 0, .int .u64 0, .bool false, .int .u64 0, .int .u64 0, .int .u64 0, .int .u64 0] 44))
    have hB : Below w.heap.size w w1 := below_on (by focus (repeat (first | (with_reducible exact Below.refl _ _) | (with_reducible assumption) | ((with_reducible refine Below.setCell ?_ ?_ _); rotate_left; (focus (first | omega | (simp; done) | (simp; omega)))) | ((with_reducible refine Below.alloc ?_ ?_ _); rotate_left; (focus (first | omega | (simp; done) | (simp; omega)))) | (with_reducible refine Below.drew ?_) | (refine below_on ?_ (by assumption))))) hb
    have c0 := cell_at z0
    have c1 := cell_at z1
    have f1 := frozen_at z1
    clear hb
    go_wp2
    obtain ⟨l1, l2, l3⟩ := laid_10 (w.heap.size + 1) w1 (.bool (ng z)) (.int .u64 (dg (ab z) 0)) (.int .u64 (dg (ab z) 1)) (.int .u64 (dg (ab z) 2)) (.int .u64 (dg (ab z) 3)) (.bool false) (.int .u64 (dg d 0)) (.int .u64 (dg d 1)) (.int .u64 (dg d 2)) (.int .u64 (dg d 3))
    have k1 := cell_at (l1 z1 rfl)
    refine bodyPost_ret (by simp [results, Tryz.results131, go_sem, k1] <;> rfl) rfl ⟨rfl, hB.trans (l3 _ (by omega))⟩
  · have h1 := sgn_not h0
    have h2 : (sgn z != 0) = true := by simp [h1]
    have h3 : (sgn z == 0) = false := by simp [h1]
    have HN : Hd ((!ng z) = ng m) := ⟨by rw [← hm]; exact ng_flip h0⟩
    have HA : Hd (ab z = ab m) := ⟨by rw [← hm, ab_flip]⟩
    clear hm hz h0 h1
    go_enter Tryz.func131, Tryz.ntmps131
    go_wp2_with fail
    refine (HS.out _).mono ?_
    rintro e w1 ⟨rfl, hb⟩
    have z0 := heap_below hb (heap_old (heap_new w (.cells #[.bool (ng (z)), .int .u64 (dg (ab (z)) 0), .int .u64 (dg (ab (z)) 1), .int .u64 (dg (ab (z)) 2), .int .u64 (dg (ab (z)) 3), .bool false, .int .u64 (dg (d) 0), .int .u64 (dg (d) 1), .int .u64 (dg (d) 2), .int .u64 (dg (d) 3)] 44)) _)
    have z1 := heap_below hb (heap_at (n := w.heap.size + 1) (by simp) (.cells #[.bool false, .int .u64 0, .int .u64 0, .int .u64 0, .int .u64 0, .bool false, .int .u64 0, .int .u64 0, .int .u64 0, .int .u64 0] 44))
    have hB : Below w.heap.size w w1 := below_on (by focus (repeat (first | (with_reducible exact Below.refl _ _) | (with_reducible assumption) | ((with_reducible refine Below.setCell ?_ ?_ _); rotate_left; (focus (first | omega | (simp; done) | (simp; omega)))) | ((with_reducible refine Below.alloc ?_ ?_ _); rotate_left; (focus (first | omega | (simp; done) | (simp; omega)))) | (with_reducible refine Below.drew ?_) | (refine below_on ?_ (by assumption))))) hb
    have c0 := cell_at z0
    have f0 := frozen_at z0
    clear hb
    go_upto_region 3 with (fail)
    refine abs_wp (fun W => W.heap[w.heap.size]? = some (.cells #[.bool (ng (m)), .int .u64 (dg (ab (m)) 0), .int .u64 (dg (ab (m)) 1), .int .u64 (dg (ab (m)) 2), .int .u64 (dg (ab (m)) 3), .bool false, .int .u64 (dg (d) 0), .int .u64 (dg (d) 1), .int .u64 (dg (d) 2), .int .u64 (dg (d) 3)] 44 (0, 0)) ∧ W.heap[w.heap.size + 1]? = some (.cells #[.bool false, .int .u64 0, .int .u64 0, .int .u64 0, .int .u64 0, .bool false, .int .u64 0, .int .u64 0, .int .u64 0, .int .u64 0] 44 (0, 0)) ∧ Below w.heap.size w W) ⟨?_, heap_set_other z1 (by simp) _, by focus (repeat (first | (with_reducible exact Below.refl _ _) | (with_reducible assumption) | ((with_reducible refine Below.setCell ?_ ?_ _); rotate_left; (focus (first | omega | (simp; done) | (simp; omega)))) | ((with_reducible refine Below.alloc ?_ ?_ _); rotate_left; (focus (first | omega | (simp; done) | (simp; omega)))) | (with_reducible refine Below.drew ?_) | (refine below_on ?_ (by assumption))))⟩ fun W ⟨y0, y1, hB⟩ => ?_
    · rw [← HN.out, ← HA.out]
      exact heap_set z0 _ _
    clear z0 z1 c0 f0
    have c0 := cell_at y0
    have c1 := cell_at y1
    have f1 := frozen_at y1
    go_wp2
    obtain ⟨l1, l2, l3⟩ := laid_10 (w.heap.size + 1) W (.bool (ng m)) (.int .u64 (dg (ab m) 0)) (.int .u64 (dg (ab m) 1)) (.int .u64 (dg (ab m) 2)) (.int .u64 (dg (ab m) 3)) (.bool false) (.int .u64 (dg d 0)) (.int .u64 (dg d 1)) (.int .u64 (dg d 2)) (.int .u64 (dg d 3))
    have k1 := cell_at (l1 y1 rfl)
    refine bodyPost_ret (by simp [results, Tryz.results131, go_sem, k1] <;> rfl) rfl ⟨rfl, hB.trans (l3 _ (by omega))⟩
set_option maxRecDepth 20000 in
set_option maxHeartbeats 2000000 in
theorem ratio_sub (z1 : Int) (d1 : Nat) (z2 m : Int) (d2 : Nat) (hm : -z2 = m) (h1 : Rt 120 z1 d1) (h2 : Rt 120 z2 d2) (w : World) (hV : Vars w) :
    Calls Tryz.prog 114 #[.agg #[.bool (ng (z1)), .int .u64 (dg (ab (z1)) 0), .int .u64 (dg (ab (z1)) 1), .int .u64 (dg (ab (z1)) 2), .int .u64 (dg (ab (z1)) 3), .bool false, .int .u64 (dg (d1) 0), .int .u64 (dg (d1) 1), .int .u64 (dg (d1) 2), .int .u64 (dg (d1) 3)], .agg #[.bool (ng (z2)), .int .u64 (dg (ab (z2)) 0), .int .u64 (dg (ab (z2)) 1), .int .u64 (dg (ab (z2)) 2), .int .u64 (dg (ab (z2)) 3), .bool false, .int .u64 (dg (d2) 0), .int .u64 (dg (d2) 1), .int .u64 (dg (d2) 2), .int .u64 (dg (d2) 3)]] w fun e w' => e = .returned (.tuple #[.agg #[.bool (ng (rz (addN z1 d1 m d2) (d1 * d2))), .int .u64 (dg (ab (rz (addN z1 d1 m d2) (d1 * d2))) 0), .int .u64 (dg (ab (rz (addN z1 d1 m d2) (d1 * d2))) 1), .int .u64 (dg (ab (rz (addN z1 d1 m d2) (d1 * d2))) 2), .int .u64 (dg (ab (rz (addN z1 d1 m d2) (d1 * d2))) 3), .bool false, .int .u64 (dg (rd (addN z1 d1 m d2) (d1 * d2)) 0), .int .u64 (dg (rd (addN z1 d1 m d2) (d1 * d2)) 1), .int .u64 (dg (rd (addN z1 d1 m d2) (d1 * d2)) 2), .int .u64 (dg (rd (addN z1 d1 m d2) (d1 * d2)) 3)], .int .i64 0]) ∧ Below w.heap.size w w' := by
  have r2 := h2.mono (show 120 ≤ 256 by decide)
  have h3 : Rt 120 m d2 := hm ▸ h2.flip
  obtain ⟨z, hz⟩ : ∃ z, z = rz (addN z1 d1 m d2) (d1 * d2) := ⟨_, rfl⟩
  obtain ⟨d, hd⟩ : ∃ d, d = rd (addN z1 d1 m d2) (d1 * d2) := ⟨_, rfl⟩
  have HC : Hd (∀ w, Calls Tryz.prog 80 #[.agg #[.bool (ng (z2)), .int .u64 (dg (ab (z2)) 0), .int .u64 (dg (ab (z2)) 1), .int .u64 (dg (ab (z2)) 2), .int .u64 (dg (ab (z2)) 3), .bool false, .int .u64 (dg (d2) 0), .int .u64 (dg (d2) 1), .int .u64 (dg (d2) 2), .int .u64 (dg (d2) 3)]] w fun e w' => e = .returned (.int .i64 0) ∧ Below w.heap.size w w') := ⟨fun w => rat_check_any (ng z2, ab z2) (false, d2) r2.nb r2.db true ⟨fun _ => r2.ok, fun _ => rfl⟩ w⟩
  have HT : Hd (∀ w, Calls Tryz.prog 131 #[.agg #[.bool (ng (z2)), .int .u64 (dg (ab (z2)) 0), .int .u64 (dg (ab (z2)) 1), .int .u64 (dg (ab (z2)) 2), .int .u64 (dg (ab (z2)) 3), .bool false, .int .u64 (dg (d2) 0), .int .u64 (dg (d2) 1), .int .u64 (dg (d2) 2), .int .u64 (dg (d2) 3)]] w fun e w' => e = .returned (.agg #[.bool (ng (m)), .int .u64 (dg (ab (m)) 0), .int .u64 (dg (ab (m)) 1), .int .u64 (dg (ab (m)) 2), .int .u64 (dg (ab (m)) 3), .bool false, .int .u64 (dg (d2) 0), .int .u64 (dg (d2) 1), .int .u64 (dg (d2) 2), .int .u64 (dg (d2) 3)]) ∧ Below w.heap.size w w') := ⟨fun w => ratio_turned z2 m d2 hm r2.nb w⟩
  have HA : Hd (∀ w, Vars w → Calls Tryz.prog 130 #[.agg #[.bool (ng (z1)), .int .u64 (dg (ab (z1)) 0), .int .u64 (dg (ab (z1)) 1), .int .u64 (dg (ab (z1)) 2), .int .u64 (dg (ab (z1)) 3), .bool false, .int .u64 (dg (d1) 0), .int .u64 (dg (d1) 1), .int .u64 (dg (d1) 2), .int .u64 (dg (d1) 3)], .agg #[.bool (ng (m)), .int .u64 (dg (ab (m)) 0), .int .u64 (dg (ab (m)) 1), .int .u64 (dg (ab (m)) 2), .int .u64 (dg (ab (m)) 3), .bool false, .int .u64 (dg (d2) 0), .int .u64 (dg (d2) 1), .int .u64 (dg (d2) 2), .int .u64 (dg (d2) 3)]] w fun e w' => e = .returned (.tuple #[.agg #[.bool (ng (z)), .int .u64 (dg (ab (z)) 0), .int .u64 (dg (ab (z)) 1), .int .u64 (dg (ab (z)) 2), .int .u64 (dg (ab (z)) 3), .bool false, .int .u64 (dg (d) 0), .int .u64 (dg (d) 1), .int .u64 (dg (d) 2), .int .u64 (dg (d) 3)], .int .i64 0]) ∧ Below w.heap.size w w') := ⟨fun w hv => by rw [hz, hd]; exact ratio_add z1 d1 m d2 h1 h3 w hv⟩
  rw [← hz, ← hd]
  have HV := Hd.mk hV
  clear hm h1 h2 r2 h3 hz hd hV
  go_enter Tryz.func114, Tryz.ntmps114
  go_wp2_with fail
  refine (HC.out _).mono ?_
  rintro e w1 ⟨rfl, hb⟩
  have z0 := heap_below hb (heap_old (heap_old (heap_new w (.cells #[.bool (ng (z1)), .int .u64 (dg (ab (z1)) 0), .int .u64 (dg (ab (z1)) 1), .int .u64 (dg (ab (z1)) 2), .int .u64 (dg (ab (z1)) 3), .bool false, .int .u64 (dg (d1) 0), .int .u64 (dg (d1) 1), .int .u64 (dg (d1) 2), .int .u64 (dg (d1) 3)] 44)) _) _)
  have z1 := heap_below hb (heap_old (heap_at (n := w.heap.size + 1) (by simp) (.cells #[.bool (ng (z2)), .int .u64 (dg (ab (z2)) 0), .int .u64 (dg (ab (z2)) 1), .int .u64 (dg (ab (z2)) 2), .int .u64 (dg (ab (z2)) 3), .bool false, .int .u64 (dg (d2) 0), .int .u64 (dg (d2) 1), .int .u64 (dg (d2) 2), .int .u64 (dg (d2) 3)] 44)) _)
  have z2 := heap_below hb (heap_at (n := w.heap.size + 1 + 1) (by simp) (.cells #[.bool false, .int .u64 0, .int .u64 0, .int .u64 0, .int .u64 0, .bool false, .int .u64 0, .int .u64 0, .int .u64 0, .int .u64 0] 44))
  have hB : Below w.heap.size w w1 := below_on (by focus (repeat (first | (with_reducible exact Below.refl _ _) | (with_reducible assumption) | ((with_reducible refine Below.setCell ?_ ?_ _); rotate_left; (focus (first | omega | (simp; done) | (simp; omega)))) | ((with_reducible refine Below.alloc ?_ ?_ _); rotate_left; (focus (first | omega | (simp; done) | (simp; omega)))) | (with_reducible refine Below.drew ?_) | (refine below_on ?_ (by assumption))))) hb
  clear hb
  go_upto_region 4 with (fail)
  have HVW := Hd.mk (HV.out.below hB)
  refine region_qt 6 (by kernel_rfl) (by kernel_rfl) fun X _ mk hmk hcl => ?_
  have c0 := mk_cell hmk z0
  have c1 := mk_cell hmk z1
  simp only [List.take_succ_cons, List.take_zero, List.drop_succ_cons, List.drop_zero]
  repeat (go_big_quiet_step (first | (go_at_call 131; exact (HT.out _).mono fun e w' h => ⟨h.1, hcl _ _ h.2⟩) | (go_at_call 130; exact (HA.out _ (HVW.out.below (hmk _))).mono fun e w' h => ⟨h.1, hcl _ _ h.2⟩)))
  refine wpQuiet_nil ?_
  rintro _ ⟨x, rfl⟩
  clear c0 c1
  have hx := hmk x
  clear hcl hmk
  generalize mk x = W1 at hx
  have y2 := heap_below hx z2
  have hB1 := below_on hB hx
  have c2 := cell_at y2
  have f2 := frozen_at y2
  clear hx z0 z1 z2 hB HVW
  go_wp2
  obtain ⟨l1, l2, l3⟩ := laid_10 (w.heap.size + 1 + 1) W1 (.bool (ng z)) (.int .u64 (dg (ab z) 0)) (.int .u64 (dg (ab z) 1)) (.int .u64 (dg (ab z) 2)) (.int .u64 (dg (ab z) 3)) (.bool false) (.int .u64 (dg d 0)) (.int .u64 (dg d 1)) (.int .u64 (dg d 2)) (.int .u64 (dg d 3))
  have k2 := cell_at (l1 y2 rfl)
  refine bodyPost_ret (by simp [results, Tryz.results114, go_sem, k2] <;> rfl) rfl ⟨rfl, hB1.trans (l3 _ (by omega))⟩
end Go.Proofs.YtbhfnfokihdjjaaGreatDoor

namespace Go.Proofs.YtbhfnfokihdjjaaGreatDoor
open Go.RowKit Go.BigFrame

/-- The quotient of two fractions. -/
def divN (z1 : Int) (_d1 : Nat) (z2 : Int) (d2 : Nat) : Int := zof (ng z1 != ng z2) (ab z1 * d2)
def divD (_z1 : Int) (d1 : Nat) (z2 : Int) (_d2 : Nat) : Nat := d1 * ab z2
theorem clear_div_dummy : True := trivial
theorem ab_pos {z : Int} (h : z ≠ 0) : 0 < ab z := by unfold ab; omega
theorem lt_pow_of {x i e : Nat} (h : x < 2 ^ i) (he : i ≤ e) : x < 2 ^ e := Nat.lt_of_lt_of_le h (Nat.pow_le_pow_right (by decide) he)
theorem div_room {k : Nat} {z1 z2 : Int} {d1 d2 : Nat} (h1 : Rt k z1 d1) (h2 : Rt k z2 d2) (e : Nat) (he : k + k ≤ e) : ab (divN z1 d1 z2 d2) < 2 ^ e := by
  have habn : ab (divN z1 d1 z2 d2) = ab z1 * d2 := ab_zof _ _
  rw [habn]
  exact mul_lt_pow h1.nb h2.db he
set_option maxRecDepth 20000 in
set_option maxHeartbeats 4000000 in
theorem ratio_div (z1 : Int) (d1 : Nat) (z2 : Int) (d2 : Nat) (h1 : Rt 120 z1 d1) (h2 : Rt 120 z2 d2) (h0 : z2 ≠ 0) (w : World) (hV : Vars w) :
    Calls Tryz.prog 115 #[.agg #[.bool (ng (z1)), .int .u64 (dg (ab (z1)) 0), .int .u64 (dg (ab (z1)) 1), .int .u64 (dg (ab (z1)) 2), .int .u64 (dg (ab (z1)) 3), .bool false, .int .u64 (dg (d1) 0), .int .u64 (dg (d1) 1), .int .u64 (dg (d1) 2), .int .u64 (dg (d1) 3)], .agg #[.bool (ng (z2)), .int .u64 (dg (ab (z2)) 0), .int .u64 (dg (ab (z2)) 1), .int .u64 (dg (ab (z2)) 2), .int .u64 (dg (ab (z2)) 3), .bool false, .int .u64 (dg (d2) 0), .int .u64 (dg (d2) 1), .int .u64 (dg (d2) 2), .int .u64 (dg (d2) 3)]] w fun e w' => e = .returned (.tuple #[.agg #[.bool (ng (rz (divN z1 d1 z2 d2) (divD z1 d1 z2 d2))), .int .u64 (dg (ab (rz (divN z1 d1 z2 d2) (divD z1 d1 z2 d2))) 0), .int .u64 (dg (ab (rz (divN z1 d1 z2 d2) (divD z1 d1 z2 d2))) 1), .int .u64 (dg (ab (rz (divN z1 d1 z2 d2) (divD z1 d1 z2 d2))) 2), .int .u64 (dg (ab (rz (divN z1 d1 z2 d2) (divD z1 d1 z2 d2))) 3), .bool false, .int .u64 (dg (rd (divN z1 d1 z2 d2) (divD z1 d1 z2 d2)) 0), .int .u64 (dg (rd (divN z1 d1 z2 d2) (divD z1 d1 z2 d2)) 1), .int .u64 (dg (rd (divN z1 d1 z2 d2) (divD z1 d1 z2 d2)) 2), .int .u64 (dg (rd (divN z1 d1 z2 d2) (divD z1 d1 z2 d2)) 3)], .int .i64 0]) ∧ Below w.heap.size w w' := by
  have hmf : ∀ (fn : Fn) (first cap : Array Value) (w : World), (Instr.makeFunc fn first cap).run Tryz.prog w = .ok (.func fn first cap) w := fun _ _ _ _ => rfl
  have r1 := h1.mono (show 120 ≤ 256 by decide)
  have r2 := h2.mono (show 120 ≤ 256 by decide)
  have m1 := mul_lt_pow h1.nb h2.db (Nat.le_refl (120 + 120))
  have m2 := mul_lt_pow h1.db h2.nb (Nat.le_refl (120 + 120))
  have hd0 : 0 < divD z1 d1 z2 d2 := Nat.mul_pos h1.pos (ab_pos h0)
  have habn : ab (divN z1 d1 z2 d2) = ab z1 * d2 := ab_zof _ _
  have hw1 := div_room h1 h2 (64 * 9) (by decide)
  have hw2 := div_room h1 h2 256 (by decide)
  obtain ⟨z, hz⟩ : ∃ z, z = rz (divN z1 d1 z2 d2) (divD z1 d1 z2 d2) := ⟨_, rfl⟩
  obtain ⟨d, hd⟩ : ∃ d, d = rd (divN z1 d1 z2 d2) (divD z1 d1 z2 d2) := ⟨_, rfl⟩
  obtain ⟨s, hs⟩ : ∃ s, (ng z1 != ng z2) = s := ⟨_, rfl⟩
  have hs2 : (!(ng z1 == ng z2)) = s := hs
  have HS := Hd.mk hs
  have HS2 := Hd.mk hs2
  have HMD : Hd (∀ w, Vars w → Calls Tryz.prog 133 #[.agg #[.int .u64 (dg (ab z1 * d2) 0), .int .u64 (dg (ab z1 * d2) 1), .int .u64 (dg (ab z1 * d2) 2), .int .u64 (dg (ab z1 * d2) 3), .int .u64 (dg (ab z1 * d2) 4), .int .u64 (dg (ab z1 * d2) 5), .int .u64 (dg (ab z1 * d2) 6), .int .u64 (dg (ab z1 * d2) 7), .int .u64 (dg (ab z1 * d2) 8), .bool (s)], .agg #[.int .u64 (dg (d1 * ab z2) 0), .int .u64 (dg (d1 * ab z2) 1), .int .u64 (dg (d1 * ab z2) 2), .int .u64 (dg (d1 * ab z2) 3), .int .u64 (dg (d1 * ab z2) 4), .int .u64 (dg (d1 * ab z2) 5), .int .u64 (dg (d1 * ab z2) 6), .int .u64 (dg (d1 * ab z2) 7), .int .u64 (dg (d1 * ab z2) 8)]] w fun e w' => e = .returned (.agg #[.bool (ng (z)), .int .u64 (dg (ab (z)) 0), .int .u64 (dg (ab (z)) 1), .int .u64 (dg (ab (z)) 2), .int .u64 (dg (ab (z)) 3), .bool false, .int .u64 (dg (d) 0), .int .u64 (dg (d) 1), .int .u64 (dg (d) 2), .int .u64 (dg (d) 3)]) ∧ Below w.heap.size w w') := ⟨fun w hv => by
    rw [hz, hd]
    exact made_v s (ab z1 * d2) (d1 * ab z2) (divN z1 d1 z2 d2) (120 + 120) (by decide) (by rw [← hs]; rfl) hw1 hd0 m2 (Nat.lt_of_le_of_lt (ab_rz_le _ _) hw2) (Nat.lt_of_le_of_lt (rd_le _ _) (lt_pow_of m2 (by decide))) w hv⟩
  have HPR : Hd (∀ s t x y, ((s = ng z1 ∧ x = ab z1 ∧ t = false ∧ y = d2) ∨ (s = false ∧ x = d1 ∧ t = ng z2 ∧ y = ab z2)) → ∀ w, Calls Tryz.prog 126 #[.agg #[.bool (s), .int .u64 (dg (x) 0), .int .u64 (dg (x) 1), .int .u64 (dg (x) 2), .int .u64 (dg (x) 3)], .agg #[.bool (t), .int .u64 (dg (y) 0), .int .u64 (dg (y) 1), .int .u64 (dg (y) 2), .int .u64 (dg (y) 3)]] w fun e w' => e = .returned (.agg #[.int .u64 (dg (x * y) 0), .int .u64 (dg (x * y) 1), .int .u64 (dg (x * y) 2), .int .u64 (dg (x * y) 3), .int .u64 (dg (x * y) 4), .int .u64 (dg (x * y) 5), .int .u64 (dg (x * y) 6), .int .u64 (dg (x * y) 7), .int .u64 (dg (x * y) 8)]) ∧ Below w.heap.size w w') := ⟨by
    rintro s t x y (⟨rfl, rfl, rfl, rfl⟩ | ⟨rfl, rfl, rfl, rfl⟩) w
    · exact product_any _ _ _ _ r1.nb r2.db w
    · exact product_any _ _ _ _ r1.db r2.nb w⟩
  have HA : Hd (∀ B w, w.heap[B]? = some (.cells #[.bool (ng (z1)), .int .u64 (dg (ab (z1)) 0), .int .u64 (dg (ab (z1)) 1), .int .u64 (dg (ab (z1)) 2), .int .u64 (dg (ab (z1)) 3), .bool false, .int .u64 (dg (d1) 0), .int .u64 (dg (d1) 1), .int .u64 (dg (d1) 2), .int .u64 (dg (d1) 3), .bool (ng (z2)), .int .u64 (dg (ab (z2)) 0), .int .u64 (dg (ab (z2)) 1), .int .u64 (dg (ab (z2)) 2), .int .u64 (dg (ab (z2)) 3), .bool false, .int .u64 (dg (d2) 0), .int .u64 (dg (d2) 1), .int .u64 (dg (d2) 2), .int .u64 (dg (d2) 3)] 44 (0, 0)) → Calls Tryz.prog 109 #[.slice (some ⟨B, 0, none⟩) 2 2] w fun e w' => e = .returned (.tuple #[]) ∧ Below w.heap.size w w') := ⟨fun B w hz =>
    all_two B (ng z1, ab z1) (false, d1) (ng z2, ab z2) (false, d2) r1.nb r1.db r2.nb r2.db _ true true ⟨fun _ => r1.ok, fun _ => rfl⟩ ⟨fun _ => r2.ok, fun _ => rfl⟩ w hz⟩
  have HSG := Hd.mk (fun w => sign_ok z2 r2.nb w)
  have HN := Hd.mk (sgn_not h0)
  rw [← hz, ← hd]
  have HV := Hd.mk hV
  clear hw1 hw2 h1 h2 r1 r2 m1 m2 habn hd0 hz hd hV hs hs2 h0
  go_enter_defers Tryz.func115, Tryz.ntmps115
  go_wp2_with fail
  refine (HA.out (w.heap.size + 1 + 1 + 1 + 1) _ (by focus (repeat (first | (with_reducible exact heap_at (by first | rfl | (simp; done) | (simp; omega)) _) | (with_reducible refine heap_old ?_ _))))).mono ?_
  rintro e w1 ⟨rfl, hb1⟩
  have z0 : w1.heap[w.heap.size]? = some _ := heap_below hb1 (heap_old (heap_old (heap_old (heap_old (heap_new w _) _) _) _) _)
  have c0 := cell_at z0
  have f0 := frozen_at z0
  have z7 : w1.heap[w.heap.size + 1]? = some _ := heap_below hb1 (heap_old (heap_old (heap_old (heap_at (n := w.heap.size + 1) (by simp) _) _) _) _)
  have c7 := cell_at z7
  have f7 := frozen_at z7
  have z8 : w1.heap[w.heap.size + 1 + 1]? = some _ := heap_below hb1 (heap_old (heap_old (heap_at (n := w.heap.size + 1 + 1) (by simp) _) _) _)
  have c8 := cell_at z8
  have f8 := frozen_at z8
  have z9 : w1.heap[w.heap.size + 1 + 1 + 1]? = some _ := heap_below hb1 (heap_old (heap_at (n := w.heap.size + 1 + 1 + 1) (by simp) _) _)
  have c9 := cell_at z9
  have f9 := frozen_at z9
  have hw1 : Below w.heap.size w w1 := by
    focus (repeat (first | (with_reducible exact Below.refl _ _) | (with_reducible assumption) | ((with_reducible refine Below.setCell ?_ ?_ _); rotate_left; (focus (first | omega | (simp; done) | (simp; omega)))) | ((with_reducible refine Below.alloc ?_ ?_ _); rotate_left; (focus (first | omega | (simp; done) | (simp; omega)))) | (with_reducible refine Below.drew ?_) | (refine below_on ?_ (by assumption))))
  clear hb1 c0 f0 f7 c8 f8 c9 f9
  go_wp2_with fail
  refine (HSG.out _).mono ?_
  rintro e w2 ⟨rfl, hb⟩
  have y0 := heap_below hb z0
  have y7 := heap_below hb z7
  have y1 := heap_below hb z8
  have y2 := heap_below hb z9
  have hw2 := below_on hw1 hb
  have hn2 : (sgn z2 != 0) = true := by simp [HN.out]
  have hn3 : (sgn z2 == 0) = false := by simp [HN.out]
  clear hb z0 z7 z8 z9 hw1 c7
  go_upto_region 4 with (go_at_call 125; refine (ratio_must_ok _ _).mono ?_; rintro e w3 ⟨rfl, rfl⟩)
  clear hn2 hn3
  have HVW := Hd.mk (HV.out.below hw2)
  have hs := HS.out
  have hs2 := HS2.out
  refine region_qt 19 (by kernel_rfl) (by kernel_rfl) fun X _ mk hmk hcl => ?_
  have c0 := mk_cell hmk y0
  have c7 := mk_cell hmk y7
  simp only [List.take_succ_cons, List.take_zero, List.drop_succ_cons, List.drop_zero]
  repeat (go_big_quiet_step (first | (go_at_call 126; exact (HPR.out _ _ _ _ (by first | (with_reducible exact Or.inl ⟨rfl, rfl, rfl, rfl⟩) | (with_reducible exact Or.inr ⟨rfl, rfl, rfl, rfl⟩)) _).mono fun e w' h => ⟨h.1, hcl _ _ h.2⟩) | (go_at_call 133; exact (HMD.out _ (HVW.out.below (hmk _))).mono fun e w' h => ⟨h.1, hcl _ _ h.2⟩)))
  refine wpQuiet_nil ?_
  rintro _ ⟨x, rfl⟩
  clear c0 c7 hs hs2
  have hx := hmk x
  clear hcl hmk
  generalize mk x = W1 at hx
  have z8 := heap_below hx y1
  have z9 := heap_below hx y2
  have hB := below_on hw2 hx
  have c1 := cell_at z8
  have c2 := cell_at z9
  have f1 := frozen_at z8
  have f2 := frozen_at z9
  clear hx y0 y7 y1 y2 hw2 HVW
  go_wp2
  refine leaves_cons (f := 107) (args := #[.pointer (some ⟨w.heap.size + 1 + 1 + 1, 0, none⟩), .func (.func 132) #[] #[.pointer (some ⟨w.heap.size + 1 + 1, 0, none⟩)]]) (by simp) (by simp [go_sem]) ?_
  refine (ratio_caught_idle _ _ _).mono ?_
  rintro e u' w4 ⟨rfl, rfl, rfl⟩
  refine abs_leaves (OutR w (w.heap.size + 1 + 1) (w.heap.size + 1 + 1 + 1) #[.bool (ng (z)), .int .u64 (dg (ab (z)) 0), .int .u64 (dg (ab (z)) 1), .int .u64 (dg (ab (z)) 2), .int .u64 (dg (ab (z)) 3), .bool false, .int .u64 (dg (d) 0), .int .u64 (dg (d) 1), .int .u64 (dg (d) 2), .int .u64 (dg (d) 3)] 0) (outR_of (by omega) (by omega) z8 z9 rfl rfl hB (laid_10 ..) (laid_one ..)) fun W ⟨y1, y2, hB⟩ => ?_
  have c1 := cell_at y1
  have c2 := cell_at y2
  simp [Leaves, settle, results, Tryz.results115, go_sem, c1, c2]
  exact hB
end Go.Proofs.YtbhfnfokihdjjaaGreatDoor
