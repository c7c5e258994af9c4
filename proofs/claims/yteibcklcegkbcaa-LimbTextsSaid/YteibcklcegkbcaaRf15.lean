/-
  A quotient digit by digit: plain laws; digits appended to a row. Conditions stand in each theorem.
-/
import Derived.Test.YteibcklcegkbcaaRf13
import Derived.Deep.Upon
namespace Go.Proofs.Yteibcklcegkbcaa
open Go.RowKit Go.BigFrame

theorem three_digits {m : Nat} (h : (dd m).length ≤ 3) : d16 m 0 + 65536 * (d16 m 1 + 65536 * d16 m 2) = m ∧ m < 281474976710656 := by
  have h1 := (dd_len 3 m).1 h
  unfold d16
  rw [show 65536 ^ 0 = 1 from rfl, show 65536 ^ 1 = 65536 from rfl, show 65536 ^ 2 = 65536 * 65536 from rfl, ← Nat.div_div_eq_div_mul, Nat.div_one]
  omega
set_option maxHeartbeats 400000 in
theorem rword_any (m : Nat) (A : Option Addr) (c : Nat) (hc : (dd m).length ≤ c) (h3 : (dd m).length ≤ 3) (w : World) (h : DigAt w A (dd m)) :
    Calls Try.prog 51 #[.slice A (dd m).length c] w fun e w' => e = .returned (.int .i64 m) ∧ w = w' := by
  have HH := Hd.mk h
  have HT := Hd.mk (three_digits h3).1
  obtain ⟨x, hx⟩ : ∃ x, d16 m 0 = x := ⟨_, rfl⟩
  obtain ⟨y, hy⟩ : ∃ y, d16 m 1 = y := ⟨_, rfl⟩
  obtain ⟨z, hz⟩ : ∃ z, d16 m 2 = z := ⟨_, rfl⟩
  have x0 := d16_nonneg m 0
  have x1 := d16_lt m 0
  have y0 := d16_nonneg m 1
  have y1 := d16_lt m 1
  have z0 := d16_nonneg m 2
  have z1 := d16_lt m 2
  rw [hx] at HT x0 x1
  rw [hy] at HT y0 y1
  rw [hz] at HT z0 z1
  have HX := Hd.mk hx
  have HY := Hd.mk hy
  have HZ := Hd.mk hz
  clear h hx hy hz h3
  go_enter Try.func51, Try.ntmps51
  go_wp2_with fail
  refine (rat_d m 0 x HX.out A c hc _ HH.out).mono ?_
  rintro e w1 ⟨rfl, rfl⟩
  go_wp2_with fail
  refine (rat_d m 1 y HY.out A c hc _ HH.out).mono ?_
  rintro e w1 ⟨rfl, rfl⟩
  go_wp2_with fail
  refine (rat_d m 2 z HZ.out A c hc _ HH.out).mono ?_
  rintro e w1 ⟨rfl, rfl⟩
  go_wp2
  go_ret
  exact ⟨by rw [← HT.out]; rfl, rfl⟩
theorem wrap_div (M N : Nat) (h : M < 281474976710656) : wrap64 ((M : Int) / (N : Int)) = ((M / N : Nat) : Int) := by
  have := Nat.div_le_self M N
  obtain ⟨K, hK⟩ : ∃ K, M / N = K := ⟨_, rfl⟩
  rw [← Int.natCast_ediv, hK, IntWalk.wrap64_in]
  omega
theorem rnum_sl (z : Int) (N : Nat) (hz : z = N) (hN : N ≤ 9223372036854775807) (w : World) :
    Calls Try.prog 30 #[.int .i64 z] w fun e w' => ∃ (A : Option Addr) (c : Nat), e = .returned (.agg #[.bool false, .slice A (dd N).length c]) ∧ (dd N).length ≤ c ∧ DigAt w' A (dd N) ∧ Below w.heap.size w w' := by
  subst hz
  refine (rnum_pos N hN w).mono ?_
  rintro e w' ⟨v, rfl, ⟨A, c, rfl, h1, h2⟩, hb⟩
  rw [show ab (zof false N) = N from ab_zof _ _] at h1 h2 ⊢
  exact ⟨A, c, by rw [ng_zof]; rfl, h1, h2, hb⟩
theorem zof_div2 (x y : Int) : zof (ng x != ng y) (ab x / ab y) = x.tdiv y := zof_div x y
/-- The four blocks of a quotient under way. -/
def QuoW (x y : Int) (A B : Option Addr) (c d : Nat) (w W : World) : Prop :=
  W.heap[w.heap.size]? = some (.cells #[.bool (ng x), .slice A (dd (ab x)).length c] 38 (0, 0)) ∧ W.heap[w.heap.size + 1]? = some (.cells #[.bool (ng y), .slice B (dd (ab y)).length d] 38 (0, 0)) ∧
    W.heap[w.heap.size + 1 + 1]? = some (.cells #[.bool false, .slice none 0 0] 38 (0, 0)) ∧ W.heap[w.heap.size + 1 + 1 + 1]? = some (.cells #[.bool false, .slice none 0 0] 38 (0, 0)) ∧ Below w.heap.size w W
theorem QuoW.below {x y : Int} {A B : Option Addr} {c d : Nat} {w W W1 : World} (h : QuoW x y A B c d w W) (hb : Below W.heap.size W W1) : QuoW x y A B c d w W1 :=
  ⟨heap_below hb h.1, heap_below hb h.2.1, heap_below hb h.2.2.1, heap_below hb h.2.2.2.1, below_on h.2.2.2.2 hb⟩
theorem QuoW.drew {x y : Int} {A B : Option Addr} {c d : Nat} {w W : World} (h : QuoW x y A B c d w W) : QuoW x y A B c d w W.drew := h.below (Below.drew (Below.refl _ _))
/-- What is read of the boxes. -/
def Boxes (x y : Int) (A B : Option Addr) (c d b : Nat) (W' : World) : Prop :=
  (W'.cell? ⟨b, 0, none⟩ = some (.bool (ng x)) ∧ W'.cell? ⟨b, 1, none⟩ = some (.slice A (dd (ab x)).length c)) ∧ W'.cell? ⟨b + 1, 0, none⟩ = some (.bool (ng y)) ∧ W'.cell? ⟨b + 1, 1, none⟩ = some (.slice B (dd (ab y)).length d)
theorem QuoW.boxes {x y : Int} {A B : Option Addr} {c d : Nat} {w W : World} (h : QuoW x y A B c d w W) (W' : World) (hb : Below (w.heap.size + 1 + 1) W W') : Boxes x y A B c d w.heap.size W' :=
  ⟨⟨(hb.cell (show w.heap.size < w.heap.size + 1 + 1 by omega)).trans (cell_at h.1 0), (hb.cell (show w.heap.size < w.heap.size + 1 + 1 by omega)).trans (cell_at h.1 1)⟩,
    (hb.cell (show w.heap.size + 1 < w.heap.size + 1 + 1 by omega)).trans (cell_at h.2.1 0), (hb.cell (show w.heap.size + 1 < w.heap.size + 1 + 1 by omega)).trans (cell_at h.2.1 1)⟩
/-- The two results laid. -/
theorem QuoW.laid {x y : Int} {A B : Option Addr} {c d : Nat} {w W : World} (h : QuoW x y A B c d w W) (v0 v1 v2 v3 : Value) :
    ((((W.setCell ⟨w.heap.size + 1 + 1, 0, none⟩ v0).setCell ⟨w.heap.size + 1 + 1, 1, none⟩ v1).setCell ⟨w.heap.size + 1 + 1 + 1, 0, none⟩ v2).setCell ⟨w.heap.size + 1 + 1 + 1, 1, none⟩ v3).heap[w.heap.size + 1 + 1]? = some (.cells #[v0, v1] 38 (0, 0)) ∧
    ((((W.setCell ⟨w.heap.size + 1 + 1, 0, none⟩ v0).setCell ⟨w.heap.size + 1 + 1, 1, none⟩ v1).setCell ⟨w.heap.size + 1 + 1 + 1, 0, none⟩ v2).setCell ⟨w.heap.size + 1 + 1 + 1, 1, none⟩ v3).heap[w.heap.size + 1 + 1 + 1]? = some (.cells #[v2, v3] 38 (0, 0)) ∧
    Below w.heap.size w ((((W.setCell ⟨w.heap.size + 1 + 1, 0, none⟩ v0).setCell ⟨w.heap.size + 1 + 1, 1, none⟩ v1).setCell ⟨w.heap.size + 1 + 1 + 1, 0, none⟩ v2).setCell ⟨w.heap.size + 1 + 1 + 1, 1, none⟩ v3) :=
  ⟨heap_set_other (heap_set_other (laid_both _ _ _ _ h.2.2.1 rfl) (by simp) _) (by simp) _,
    laid_both _ _ _ _ (heap_set_other (heap_set_other h.2.2.2.1 (by simp) _) (by simp) _) rfl,
    (((h.2.2.2.2.setCell (by simp; omega) _).setCell (by simp; omega) _).setCell (by simp; omega) _).setCell (by simp; omega) _⟩
theorem QuoW.big {x y z : Int} {A B : Option Addr} {c d : Nat} {w W : World} (h : QuoW x y A B c d w W) {v : Value} (hv : BigAt W v z) (v0 v1 v2 v3 : Value) :
    BigAt ((((W.setCell ⟨w.heap.size + 1 + 1, 0, none⟩ v0).setCell ⟨w.heap.size + 1 + 1, 1, none⟩ v1).setCell ⟨w.heap.size + 1 + 1 + 1, 0, none⟩ v2).setCell ⟨w.heap.size + 1 + 1 + 1, 1, none⟩ v3) v z :=
  (hv.laid h.2.2.1 v0 v1).laid (heap_set_other (heap_set_other h.2.2.2.1 (by simp) _) (by simp) _) v2 v3
set_option maxRecDepth 20000 in
set_option maxHeartbeats 2000000 in
theorem rquo_few (m n : Int) (hy0 : n ≠ 0) (u v : Value) (hlx : (dd (ab m)).length ≤ 3) (hly : (dd (ab n)).length ≤ 3) (w : World) (hu : BigAt w u m) (hv : BigAt w v n) :
    Calls Try.prog 19 #[u, v] w fun e w' => ∃ q r, e = .returned (.tuple #[q, r]) ∧ BigAt w' q (m.tdiv n) ∧ BigAt w' r (m.tmod n) ∧ Below w.heap.size w w' := by
  obtain ⟨A, c, rfl, hc, hA⟩ := hu
  obtain ⟨B, d, rfl, hd, hB⟩ := hv
  have HA := Hd.mk hA
  have HB := Hd.mk hB
  have HLX := Hd.mk hlx
  have HLY := Hd.mk hly
  obtain ⟨la, hla⟩ : ∃ la, (dd (ab m)).length = la := ⟨_, rfl⟩
  obtain ⟨lb, hlb⟩ : ∃ lb, (dd (ab n)).length = lb := ⟨_, rfl⟩
  have hd1 : decide (((dd (ab m)).length : Int) ≤ 3) = true := by simp; omega
  have hd2 : decide (((dd (ab n)).length : Int) ≤ 3) = true := by simp; omega
  have b1 := (three_digits hlx).2
  have b2 := (three_digits hly).2
  clear hA hB hlx hly hla hlb
  go_enter Try.func19, Try.ntmps19
  go_upto_region 2 with (fail)
  refine abs_wp (QuoW m n A B c d w) ⟨heap_old (heap_old (heap_old (heap_new _ _) _) _) _, heap_old (heap_old (heap_at (by simp) _) _) _, heap_old (heap_at (by simp) _) _, heap_at (by simp) _, by focus (repeat (first | (with_reducible exact Below.refl _ _) | (with_reducible assumption) | ((with_reducible refine Below.setCell ?_ ?_ _); rotate_left; (focus (first | omega | (simp; done) | (simp; omega)))) | ((with_reducible refine Below.alloc ?_ ?_ _); rotate_left; (focus (first | omega | (simp; done) | (simp; omega)))) | (with_reducible refine Below.drew ?_) | (refine below_on ?_ (by assumption))))⟩ fun W QW => ?_
  clear hd1 hd2
  refine region_mix 6 (by kernel_rfl) (by kernel_rfl) (fun _ _ _ _ h => h) fun X _ mk hmk hcl => ?_
  have c0 := mk_cell hmk QW.1
  have c1 := mk_cell hmk QW.2.1
  have hB := QW.2.2.2.2
  simp only [List.take_succ_cons, List.take_zero, List.drop_succ_cons, List.drop_zero]
  repeat (go_big_quiet_step ((go_at_call 51; exact (rword_any _ _ _ (by first | (with_reducible exact hc) | (with_reducible exact hd)) (by first | (with_reducible exact HLX.out) | (with_reducible exact HLY.out)) _ (by first | (with_reducible exact (HA.out.below hB).below (hmk _)) | (with_reducible exact (HB.out.below hB).below (hmk _)))).mono fun e w' ⟨he, hw⟩ => ⟨he, _, hw.symm⟩)))
  refine wpQuiet_nil ?_
  rintro _ ⟨x, rfl⟩
  have QW1 := QW.below (hmk x)
  clear hcl hmk c0 c1 hB QW
  generalize mk x = W1 at QW1
  go_upto_region 3 with (fail)
  have HS : Hd (∀ W', Below (w.heap.size + 1 + 1) W1 W' → (W'.cell? ⟨w.heap.size, 0, none⟩ = some (.bool (ng m)) ∧ W'.cell? ⟨w.heap.size, 1, none⟩ = some (.slice A (dd (ab m)).length c)) ∧ W'.cell? ⟨w.heap.size + 1, 0, none⟩ = some (.bool (ng n)) ∧ W'.cell? ⟨w.heap.size + 1, 1, none⟩ = some (.slice B (dd (ab n)).length d)) := ⟨fun W' h => QW1.boxes W' h⟩
  have hD : Below (w.heap.size + 1 + 1) W1 W1.drew := Below.drew (Below.refl _ _)
  have hsz : w.heap.size + 1 + 1 ≤ W1.heap.size := by have := lt_of_block QW1.2.2.1; omega
  have QM := QW1.drew
  have hnz : ab n ≠ 0 := by unfold ab; omega
  have hfd : ∀ (A : Option Addr) (l c : Nat) (w : World), (Instr.field 38 (.agg #[.bool false, .slice A l c]) 1).run Try.prog w = .ok (.slice A l c) w := fun _ _ _ _ => by kernel_rfl
  have hdq := wrap_div (ab m) (ab n) b1
  have hdr : Int.tmod (ab m : Int) (ab n : Int) = ((ab m % ab n : Nat) : Int) := by rw [Int.tmod_eq_emod_of_nonneg (by omega), Int.natCast_emod]
  go_region_held3 (fun W' => (W'.cell? ⟨w.heap.size, 0, none⟩ = some (.bool (ng m)) ∧ W'.cell? ⟨w.heap.size, 1, none⟩ = some (.slice A (dd (ab m)).length c)) ∧ W'.cell? ⟨w.heap.size + 1, 0, none⟩ = some (.bool (ng n)) ∧ W'.cell? ⟨w.heap.size + 1, 1, none⟩ = some (.slice B (dd (ab n)).length d)) ((exact HS.out _ (by focus (repeat (first | (with_reducible exact Below.refl _ _) | (with_reducible assumption) | ((with_reducible refine Below.setCell ?_ ?_ _); rotate_left; (focus (first | omega | (simp; done) | (simp; omega)))) | ((with_reducible refine Below.alloc ?_ ?_ _); rotate_left; (focus (first | omega | (simp; done) | (simp; omega)))) | (with_reducible refine Below.drew ?_) | (refine below_on ?_ (by assumption)))))))
    ((first
      | (go_at_call 50; have hq := hN2; clear hq; refine (rof_any (ng m) A0 c0 _ hN2 (dd_range _) _ hD2).mono ?_; rintro e wd ⟨vd, rfl, hV2, hb⟩; rw [val_of_dd, zof_mod] at hV2; obtain ⟨A2, c2, rfl, h1, h2⟩ := hV2; have hV2 : BigAt wd _ (m.tmod n) := ⟨A2, c2, rfl, h1, h2⟩; have hV1 := hV1.below hb; have QM := QM.below hb; have hD := below_up hsz hD hb; have q1 := cell_at QM.2.2.1; have q2 := frozen_at QM.2.2.1; have q3 := cell_at QM.2.2.2.1; have q4 := frozen_at QM.2.2.2.1; have q5 := lt_of_block QM.2.2.2.1; clear hb)
      | (go_at_call 30; have hq := hV1; clear hq; refine (rnum_sl _ (ab m % ab n) (by first | rfl | exact hdr) (by have := Nat.mod_le (ab m) (ab n); omega) _).mono ?_; rintro e wc ⟨A0, c0, rfl, hN2, hD2, hb⟩; have hV1 := hV1.below hb; have QM := QM.below hb; have hD := below_up hsz hD hb; clear hb)
      | (go_at_call 50; refine (rof_any (ng m != ng n) A0 c0 _ hN1 (dd_range _) _ hD0).mono ?_; rintro e wb ⟨vb, rfl, hV1, hb⟩; rw [val_of_dd, zof_div2] at hV1; obtain ⟨A1, c1, rfl, h1, h2⟩ := hV1; have hV1 : BigAt wb _ (m.tdiv n) := ⟨A1, c1, rfl, h1, h2⟩; have QM := QM.below hb; have hD := below_up hsz hD hb; clear hb)
      | (go_at_call 30; refine (rnum_sl _ (ab m / ab n) (by first | rfl | exact hdq | exact (IntWalk.i64_left _).trans hdq) (by have := Nat.div_le_self (ab m) (ab n); omega) _).mono ?_; rintro e wa ⟨A0, c0, rfl, hN1, hD0, hb⟩; have QM := QM.below hb; have hD := below_up hsz hD hb; clear hb)))
  obtain ⟨l1, l2, l3⟩ := QM.laid (.bool (ng (m.tdiv n))) (.slice A1 (dd (ab (m.tdiv n))).length c1) (.bool (ng (m.tmod n))) (.slice A2 (dd (ab (m.tmod n))).length c2)
  have b1 := Hd.mk (QM.big hV1 (.bool (ng (m.tdiv n))) (.slice A1 (dd (ab (m.tdiv n))).length c1) (.bool (ng (m.tmod n))) (.slice A2 (dd (ab (m.tmod n))).length c2))
  have b2 := Hd.mk (QM.big hV2 (.bool (ng (m.tdiv n))) (.slice A1 (dd (ab (m.tdiv n))).length c1) (.bool (ng (m.tmod n))) (.slice A2 (dd (ab (m.tmod n))).length c2))
  have k1 := cell_at l1
  have k2 := cell_at l2
  have HF := Hd.mk l3
  clear l1 l2 l3 hV1 hV2 QM
  clear q1 q2 q3 q4 hD
  generalize ((((wd.setCell ⟨w.heap.size + 1 + 1, 0, none⟩ (.bool (ng (m.tdiv n)))).setCell ⟨w.heap.size + 1 + 1, 1, none⟩ (.slice A1 (dd (ab (m.tdiv n))).length c1)).setCell ⟨w.heap.size + 1 + 1 + 1, 0, none⟩ (.bool (ng (m.tmod n)))).setCell ⟨w.heap.size + 1 + 1 + 1, 1, none⟩ (.slice A2 (dd (ab (m.tmod n))).length c2)) = wz at *
  go_wp2
  refine bodyPost_ret (by simp [results, Try.results19, go_sem, k1, k2]) rfl ⟨_, _, rfl, b1.out, b2.out, HF.out⟩
open Go.RowKit Go.BigFrame

/-- The quotient's digits under way: those from i on are reckoned. -/
def QRow (m n la i : Nat) (ds : List Int) : Prop :=
  ds.length = la ∧ Dg ds ∧ val ds = 65536 ^ i * (m / 65536 ^ i / n) ∧ ∀ j, j < i → j < la → ds[j]? = some 0
theorem q_start {m n la : Nat} (h : m < 65536 ^ la) : QRow m n la la (List.replicate la 0) ∧ m / 65536 ^ la % n = 0 := by
  refine ⟨⟨by simp, ?_, ?_, ?_⟩, ?_⟩
  · intro x hx
    have := (List.mem_replicate.1 hx).2
    omega
  · rw [val_zeros, Nat.div_eq_of_lt h, Nat.zero_div, Nat.mul_zero]
  · intro j h1 _
    simp [h1]
  · rw [Nat.div_eq_of_lt h, Nat.zero_mod]
/-- What is to be divided at digit j. -/
def rest0 (m n j : Nat) : Nat := m / 65536 ^ j % 65536 + 65536 * (m / 65536 ^ (j + 1) % n)
theorem rest0_step (m n j : Nat) (hn : 0 < n) : rest0 m n j < 65536 * n ∧ rest0 m n j % n = m / 65536 ^ j % n ∧ m / 65536 ^ j / n = 65536 * (m / 65536 ^ (j + 1) / n) + rest0 m n j / n := by
  unfold rest0
  have e : m / 65536 ^ (j + 1) = m / 65536 ^ j / 65536 := by rw [Nat.pow_succ, Nat.div_div_eq_div_mul]
  rw [e]
  generalize m / 65536 ^ j = M
  have h1 := Nat.mod_lt (M / 65536) hn
  have h2 := Nat.div_add_mod (M / 65536) n
  have h3 : M = n * (65536 * (M / 65536 / n)) + (M % 65536 + 65536 * (M / 65536 % n)) := by
    rw [Nat.mul_left_comm]
    omega
  refine ⟨by omega, ?_, ?_⟩
  · conv => rhs; rw [h3]
    rw [Nat.mul_add_mod]
  · conv => lhs; rw [h3]
    rw [Nat.mul_add_div hn]
theorem q_next {m n la j : Nat} {ds : List Int} (h : QRow m n la (j + 1) ds) (hj : j < la) (hn : 0 < n) : QRow m n la j (ds.set j ((rest0 m n j / n : Nat) : Int)) := by
  obtain ⟨h1, h2, h3, h4⟩ := h
  obtain ⟨r1, r2, r3⟩ := rest0_step m n j hn
  have h0 := h4 j (by omega) hj
  have hv := val_set ds j 0 ((rest0 m n j / n : Nat) : Int) h0
  have hlt : rest0 m n j / n < 65536 := Nat.div_lt_of_lt_mul (by rw [Nat.mul_comm]; exact r1)
  refine ⟨by simp [h1], dg_set h2 (Int.natCast_nonneg _) (Int.ofNat_lt.2 hlt), ?_, ?_⟩
  · rw [r3, Nat.mul_add, ← Nat.mul_assoc, ← Nat.pow_succ, ← h3]
    have e0 : (0 : Int).toNat = 0 := rfl
    rw [e0, Int.toNat_natCast, Nat.mul_comm (rest0 m n j / n)] at hv
    omega
  · intro i hi hil
    rw [List.getElem?_set_ne (by omega)]
    exact h4 i (by omega) hil
theorem q_end {m n la : Nat} {ds : List Int} (h : QRow m n la 0 ds) : val ds = m / n := by
  rw [h.2.2.1, Nat.pow_zero, Nat.one_mul, Nat.div_one]
/-- One bit of a digit of the quotient. -/
theorem bit_step (R D : Nat) (hD : 0 < D) : (D ≤ R % (2 * D) → R % D = R % (2 * D) - D ∧ R / D = 2 * (R / (2 * D)) + 1) ∧ (¬ D ≤ R % (2 * D) → R % D = R % (2 * D) ∧ R / D = 2 * (R / (2 * D))) := by
  have h1 := Nat.div_add_mod R (2 * D)
  have h2 : R % (2 * D) < 2 * D := Nat.mod_lt _ (by omega)
  rw [Nat.mul_assoc] at h1
  constructor
  · intro h
    have := (Nat.div_mod_unique hD (a := R) (c := R % (2 * D) - D) (d := 2 * (R / (2 * D)) + 1)).2 ⟨by rw [Nat.mul_add, Nat.mul_left_comm]; omega, by omega⟩
    exact ⟨this.2, this.1⟩
  · intro h
    have := (Nat.div_mod_unique hD (a := R) (c := R % (2 * D)) (d := 2 * (R / (2 * D)))).2 ⟨by rw [Nat.mul_left_comm]; omega, by omega⟩
    exact ⟨this.2, this.1⟩
theorem dbl_pow (n k : Nat) : n * 2 ^ (k + 1) = 2 * (n * 2 ^ k) := by rw [Nat.pow_succ, Nat.mul_left_comm 2, Nat.mul_comm 2]
theorem dig_yes {R n k : Nat} (hn : 0 < n) (h : n * 2 ^ k ≤ R % (n * 2 ^ (k + 1))) : R % (n * 2 ^ k) = R % (n * 2 ^ (k + 1)) - n * 2 ^ k ∧ R / (n * 2 ^ k) * 2 ^ k = R / (n * 2 ^ (k + 1)) * 2 ^ (k + 1) + 2 ^ k := by
  rw [dbl_pow] at h ⊢
  obtain ⟨h1, h2⟩ := (bit_step R (n * 2 ^ k) (Nat.mul_pos hn (Nat.two_pow_pos _))).1 h
  refine ⟨h1, ?_⟩
  rw [h2, Nat.add_mul, Nat.one_mul, Nat.pow_succ, Nat.mul_comm 2 (R / _), Nat.mul_assoc, Nat.mul_comm (2 ^ k) 2]
theorem dig_no {R n k : Nat} (hn : 0 < n) (h : ¬ n * 2 ^ k ≤ R % (n * 2 ^ (k + 1))) : R % (n * 2 ^ k) = R % (n * 2 ^ (k + 1)) ∧ R / (n * 2 ^ k) * 2 ^ k = R / (n * 2 ^ (k + 1)) * 2 ^ (k + 1) := by
  rw [dbl_pow] at h ⊢
  obtain ⟨h1, h2⟩ := (bit_step R (n * 2 ^ k) (Nat.mul_pos hn (Nat.two_pow_pos _))).2 h
  refine ⟨h1, ?_⟩
  rw [h2, Nat.pow_succ, Nat.mul_comm 2 (R / _), Nat.mul_assoc, Nat.mul_comm (2 ^ k) 2]
theorem dig_bound {R n k : Nat} (h : R < 65536 * n) : R / (n * 2 ^ k) * 2 ^ k < 65536 := by
  rw [← Nat.div_div_eq_div_mul]
  have h1 := Nat.div_mul_le_self (R / n) (2 ^ k)
  have h2 : R / n < 65536 := Nat.div_lt_of_lt_mul (by rw [Nat.mul_comm]; exact h)
  omega
theorem infoSl : (Try.prog.info? 36).map (fun i => (i.zero, i.size, i.bytes)) = some (some (.slice none 0 0), 1, 24) := by kernel_rfl
theorem addr_plain (b off n : Nat) : (⟨b, off, none⟩ : Addr).add n = ⟨b, off + n, none⟩ := by
  unfold Addr.add
  split
  · rename_i h; rw [h]; rfl
  · rfl
/-- Digits appended to a row of digits that is owned. -/
theorem wpList_append_dig {ops : Array Oper} {rest : List Oper} {o : Oper} {a : Act} {Q : Exit → Act → World → Prop} {w : World} (hgd : o.guard = none) (s x : Operand)
    (ho : o.op = .call { callee := .builtin .append, args := #[s, x], argTypes := #[36, 36] }) (base : Nat) (v : Value) (n : Nat) (xs : List Value) (hs : a.eval s = v) (hown : w.ownsRow base 2 1 v n xs)
    (A : Option Addr) (c : Nat) (ds : List Int) (hx : a.eval x = .slice A ds.length c) (hD : DigAt w A ds) (hn : n ≤ 1000) (hl : ds.length ≤ 1000) (hbase : base ≤ w.heap.size)
    (h : ∀ v' w', w'.ownsRow base 2 1 v' (n + ds.length) (xs ++ longV ds) → w.grownBy w' v.ownBlock → wpList Try.prog ops Q rest (a.put o.dst v') w') :
    wpList Try.prog ops Q (o :: rest) a w := by
  obtain ⟨i0, hi, hz0, hz1, hz2⟩ := info_parts infoLong
  have hu : Try.prog.underlying 36 = some (.slice 2) := by kernel_rfl
  by_cases h0 : 0 < ds.length
  · obtain ⟨b, off, rfl, hcell⟩ := hD.2 h0
    refine wpList_append_own_at w hgd s x 36 ho base 2 i0 (.int .i64 0) 1 8 hu hi hz0 hz1 hz2 rfl (by decide) v n xs hs hown ⟨b, off, none⟩ ds.length c (longV ds) hx (by simp [longV]) ?_ ?_ (by unfold maxLen; omega) (by omega) hbase (fun v' w' r1 r2 _ _ => h v' w' r1 r2)
    · intro j u hu
      simp only [longV, List.getElem?_map, Option.map_eq_some_iff] at hu
      obtain ⟨y, hy, rfl⟩ := hu
      rw [addr_plain]
      exact hcell j y hy
    · intro u hu
      simp only [longV, List.mem_map] at hu
      obtain ⟨y, _, rfl⟩ := hu
      rfl
  · have e0 : ds = [] := List.eq_nil_of_length_eq_zero (by omega)
    subst e0
    have hS : Src Try.prog i0.size 36 (.slice A 0 c) 0 [] w := by
      cases A with
      | none => exact Src.ofNil _ hu c
      | some ad => exact Src.ofSlice _ hu ad 0 c [] (by simp) (by simp) (by simp)
    have hv : ∃ (B : Option Addr) (l k : Nat), v = .slice B l k ∧ l ≤ k := by
      rcases hown.2 with ⟨rfl, _⟩ | ⟨g, cap, cur, rfl, _, _, hc, _⟩
      · exact ⟨none, 0, 0, rfl, Nat.le_refl _⟩
      · exact ⟨_, _, _, rfl, hc⟩
    obtain ⟨B, l, k, rfl, hlk⟩ := hv
    have hrun := run_append_nothing w 36 36 o.type 2 i0 hu hi B l k hlk _ hS
    refine wpList_plain hgd fun K hK => ?_
    unfold Oper.wp
    simp [execOp, ho, resolve, invoke, builtin, hs, hx, hrun, Result.andThen]
    exact hK _ _ (h _ _ (by simpa [longV] using hown) (World.grownBy.refl _ _))
end Go.Proofs.Yteibcklcegkbcaa
