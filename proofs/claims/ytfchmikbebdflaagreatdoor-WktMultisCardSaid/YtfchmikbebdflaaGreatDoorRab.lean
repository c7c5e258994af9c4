/-
  A region's post that forgets how it came about; two results laid in two blocks. Conditions stand in each theorem.
-/
import Derived.Deep.Upon
import Derived.Test.YtfchmikbebdflaaGreatDoorSu1
namespace Go.Proofs.YtfchmikbebdflaaGreatDoor
open Go.RowKit Go.BigFrame

theorem three_digits {m : Nat} (h : (dd m).length ≤ 3) : d16 m 0 + 65536 * (d16 m 1 + 65536 * d16 m 2) = m ∧ m < 281474976710656 := by
  have h1 := (dd_len 3 m).1 h
  unfold d16
  rw [show 65536 ^ 0 = 1 from rfl, show 65536 ^ 1 = 65536 from rfl, show 65536 ^ 2 = 65536 * 65536 from rfl, ← Nat.div_div_eq_div_mul, Nat.div_one]
  omega
set_option maxHeartbeats 400000 in
theorem rword_any (m : Nat) (A : Option Addr) (c : Nat) (hc : (dd m).length ≤ c) (h3 : (dd m).length ≤ 3) (w : World) (h : DigAt w A (dd m)) :
    Calls Tryz.prog 165 #[.slice A (dd m).length c] w fun e w' => e = .returned (.int .i64 m) ∧ w = w' := by
  have HH := Hd.mk h
  have HT := Hd.mk (three_digits h3).1
  obtain ⟨x, hx⟩ : ∃ x, d16 m 0 = x := ⟨_, rfl⟩
  obtain ⟨y, hy⟩ : ∃ y, d16 m 1 = y := ⟨_, rfl⟩
  obtain ⟨z, hz⟩ : ∃ z, d16 m 2 = z := ⟨_, rfl⟩
  have x0 := d16_nonneg m 0
  have x1 := d16_lt m 0
  have y0 := d16_nonneg m 1
  have y1 := d16_lt m 1
  have z0 := d16_nonneg m 2
  have z1 := d16_lt m 2
  rw [hx] at HT x0 x1
  rw [hy] at HT y0 y1
  rw [hz] at HT z0 z1
  have HX := Hd.mk hx
  have HY := Hd.mk hy
  have HZ := Hd.mk hz
  clear h hx hy hz h3
  go_enter Tryz.func165, Tryz.ntmps165
  go_wp2_with fail
  refine (rat_d m 0 x HX.out A c hc _ HH.out).mono ?_
  rintro e w1 ⟨rfl, rfl⟩
  go_wp2_with fail
  refine (rat_d m 1 y HY.out A c hc _ HH.out).mono ?_
  rintro e w1 ⟨rfl, rfl⟩
  go_wp2_with fail
  refine (rat_d m 2 z HZ.out A c hc _ HH.out).mono ?_
  rintro e w1 ⟨rfl, rfl⟩
  go_wp2
  go_ret
  exact ⟨by rw [← HT.out]; rfl, rfl⟩
theorem wrap_div (M N : Nat) (h : M < 281474976710656) : wrap64 ((M : Int) / (N : Int)) = ((M / N : Nat) : Int) := by
  have := Nat.div_le_self M N
  obtain ⟨K, hK⟩ : ∃ K, M / N = K := ⟨_, rfl⟩
  rw [← Int.natCast_ediv, hK, IntWalk.wrap64_in]
  omega
theorem rnum_sl (z : Int) (N : Nat) (hz : z = N) (hN : N ≤ 9223372036854775807) (w : World) :
    Calls Tryz.prog 118 #[.int .i64 z] w fun e w' => ∃ (A : Option Addr) (c : Nat), e = .returned (.agg #[.bool false, .slice A (dd N).length c]) ∧ (dd N).length ≤ c ∧ DigAt w' A (dd N) ∧ Below w.heap.size w w' := by
  subst hz
  refine (rnum_pos N hN w).mono ?_
  rintro e w' ⟨v, rfl, ⟨A, c, rfl, h1, h2⟩, hb⟩
  rw [show ab (zof false N) = N from ab_zof _ _] at h1 h2 ⊢
  exact ⟨A, c, by rw [ng_zof]; rfl, h1, h2, hb⟩
theorem zof_div2 (x y : Int) : zof (ng x != ng y) (ab x / ab y) = x.tdiv y := zof_div x y
/-- The four blocks of a quotient under way. -/
def QuoW (x y : Int) (A B : Option Addr) (c d : Nat) (w W : World) : Prop :=
  W.heap[w.heap.size]? = some (.cells #[.bool (ng x), .slice A (dd (ab x)).length c] 123 (0, 0)) ∧ W.heap[w.heap.size + 1]? = some (.cells #[.bool (ng y), .slice B (dd (ab y)).length d] 123 (0, 0)) ∧
    W.heap[w.heap.size + 1 + 1]? = some (.cells #[.bool false, .slice none 0 0] 123 (0, 0)) ∧ W.heap[w.heap.size + 1 + 1 + 1]? = some (.cells #[.bool false, .slice none 0 0] 123 (0, 0)) ∧ Below w.heap.size w W
theorem QuoW.below {x y : Int} {A B : Option Addr} {c d : Nat} {w W W1 : World} (h : QuoW x y A B c d w W) (hb : Below W.heap.size W W1) : QuoW x y A B c d w W1 :=
  ⟨heap_below hb h.1, heap_below hb h.2.1, heap_below hb h.2.2.1, heap_below hb h.2.2.2.1, below_on h.2.2.2.2 hb⟩
theorem QuoW.drew {x y : Int} {A B : Option Addr} {c d : Nat} {w W : World} (h : QuoW x y A B c d w W) : QuoW x y A B c d w W.drew := h.below (Below.drew (Below.refl _ _))
/-- What is read of the boxes. -/
def Boxes (x y : Int) (A B : Option Addr) (c d b : Nat) (W' : World) : Prop :=
  (W'.cell? ⟨b, 0, none⟩ = some (.bool (ng x)) ∧ W'.cell? ⟨b, 1, none⟩ = some (.slice A (dd (ab x)).length c)) ∧ W'.cell? ⟨b + 1, 0, none⟩ = some (.bool (ng y)) ∧ W'.cell? ⟨b + 1, 1, none⟩ = some (.slice B (dd (ab y)).length d)
theorem QuoW.boxes {x y : Int} {A B : Option Addr} {c d : Nat} {w W : World} (h : QuoW x y A B c d w W) (W' : World) (hb : Below (w.heap.size + 1 + 1) W W') : Boxes x y A B c d w.heap.size W' :=
  ⟨⟨(hb.cell (show w.heap.size < w.heap.size + 1 + 1 by omega)).trans (cell_at h.1 0), (hb.cell (show w.heap.size < w.heap.size + 1 + 1 by omega)).trans (cell_at h.1 1)⟩,
    (hb.cell (show w.heap.size + 1 < w.heap.size + 1 + 1 by omega)).trans (cell_at h.2.1 0), (hb.cell (show w.heap.size + 1 < w.heap.size + 1 + 1 by omega)).trans (cell_at h.2.1 1)⟩
/-- The two results laid. -/
theorem QuoW.laid {x y : Int} {A B : Option Addr} {c d : Nat} {w W : World} (h : QuoW x y A B c d w W) (v0 v1 v2 v3 : Value) :
    ((((W.setCell ⟨w.heap.size + 1 + 1, 0, none⟩ v0).setCell ⟨w.heap.size + 1 + 1, 1, none⟩ v1).setCell ⟨w.heap.size + 1 + 1 + 1, 0, none⟩ v2).setCell ⟨w.heap.size + 1 + 1 + 1, 1, none⟩ v3).heap[w.heap.size + 1 + 1]? = some (.cells #[v0, v1] 123 (0, 0)) ∧
    ((((W.setCell ⟨w.heap.size + 1 + 1, 0, none⟩ v0).setCell ⟨w.heap.size + 1 + 1, 1, none⟩ v1).setCell ⟨w.heap.size + 1 + 1 + 1, 0, none⟩ v2).setCell ⟨w.heap.size + 1 + 1 + 1, 1, none⟩ v3).heap[w.heap.size + 1 + 1 + 1]? = some (.cells #[v2, v3] 123 (0, 0)) ∧
    Below w.heap.size w ((((W.setCell ⟨w.heap.size + 1 + 1, 0, none⟩ v0).setCell ⟨w.heap.size + 1 + 1, 1, none⟩ v1).setCell ⟨w.heap.size + 1 + 1 + 1, 0, none⟩ v2).setCell ⟨w.heap.size + 1 + 1 + 1, 1, none⟩ v3) :=
  ⟨heap_set_other (heap_set_other (laid_both _ _ _ _ h.2.2.1 rfl) (by simp) _) (by simp) _,
    laid_both _ _ _ _ (heap_set_other (heap_set_other h.2.2.2.1 (by simp) _) (by simp) _) rfl,
    (((h.2.2.2.2.setCell (by simp; omega) _).setCell (by simp; omega) _).setCell (by simp; omega) _).setCell (by simp; omega) _⟩
theorem QuoW.big {x y z : Int} {A B : Option Addr} {c d : Nat} {w W : World} (h : QuoW x y A B c d w W) {v : Value} (hv : BigAt W v z) (v0 v1 v2 v3 : Value) :
    BigAt ((((W.setCell ⟨w.heap.size + 1 + 1, 0, none⟩ v0).setCell ⟨w.heap.size + 1 + 1, 1, none⟩ v1).setCell ⟨w.heap.size + 1 + 1 + 1, 0, none⟩ v2).setCell ⟨w.heap.size + 1 + 1 + 1, 1, none⟩ v3) v z :=
  (hv.laid h.2.2.1 v0 v1).laid (heap_set_other (heap_set_other h.2.2.2.1 (by simp) _) (by simp) _) v2 v3
set_option maxRecDepth 20000 in
set_option maxHeartbeats 2000000 in
theorem rquo_few (m n : Int) (hy0 : n ≠ 0) (u v : Value) (hlx : (dd (ab m)).length ≤ 3) (hly : (dd (ab n)).length ≤ 3) (w : World) (hu : BigAt w u m) (hv : BigAt w v n) :
    Calls Tryz.prog 143 #[u, v] w fun e w' => ∃ q r, e = .returned (.tuple #[q, r]) ∧ BigAt w' q (m.tdiv n) ∧ BigAt w' r (m.tmod n) ∧ Below w.heap.size w w' := by
  obtain ⟨A, c, rfl, hc, hA⟩ := hu
  obtain ⟨B, d, rfl, hd, hB⟩ := hv
  have HA := Hd.mk hA
  have HB := Hd.mk hB
  have HLX := Hd.mk hlx
  have HLY := Hd.mk hly
  obtain ⟨la, hla⟩ : ∃ la, (dd (ab m)).length = la := ⟨_, rfl⟩
  obtain ⟨lb, hlb⟩ : ∃ lb, (dd (ab n)).length = lb := ⟨_, rfl⟩
  have hd1 : decide (((dd (ab m)).length : Int) ≤ 3) = true := by simp; omega
  have hd2 : decide (((dd (ab n)).length : Int) ≤ 3) = true := by simp; omega
  have b1 := (three_digits hlx).2
  have b2 := (three_digits hly).2
  clear hA hB hlx hly hla hlb
  go_enter Tryz.func143, Tryz.ntmps143
  go_upto_region 2 with (fail)
  refine abs_wp (QuoW m n A B c d w) ⟨heap_old (heap_old (heap_old (heap_new _ _) _) _) _, heap_old (heap_old (heap_at (by simp) _) _) _, heap_old (heap_at (by simp) _) _, heap_at (by simp) _, by focus (repeat (first | (with_reducible exact Below.refl _ _) | (with_reducible assumption) | ((with_reducible refine Below.setCell ?_ ?_ _); rotate_left; (focus (first | omega | (simp; done) | (simp; omega)))) | ((with_reducible refine Below.alloc ?_ ?_ _); rotate_left; (focus (first | omega | (simp; done) | (simp; omega)))) | (with_reducible refine Below.drew ?_) | (refine below_on ?_ (by assumption))))⟩ fun W QW => ?_
  clear hd1 hd2
  refine region_mix 6 (by kernel_rfl) (by kernel_rfl) (fun _ _ _ _ h => h) fun X _ mk hmk hcl => ?_
  have c0 := mk_cell hmk QW.1
  have c1 := mk_cell hmk QW.2.1
  have hB := QW.2.2.2.2
  simp only [List.take_succ_cons, List.take_zero, List.drop_succ_cons, List.drop_zero]
  repeat (go_big_quiet_step ((go_at_call 165; exact (rword_any _ _ _ (by first | (with_reducible exact hc) | (with_reducible exact hd)) (by first | (with_reducible exact HLX.out) | (with_reducible exact HLY.out)) _ (by first | (with_reducible exact (HA.out.below hB).below (hmk _)) | (with_reducible exact (HB.out.below hB).below (hmk _)))).mono fun e w' ⟨he, hw⟩ => ⟨he, _, hw.symm⟩)))
  refine wpQuiet_nil ?_
  rintro _ ⟨x, rfl⟩
  have QW1 := QW.below (hmk x)
  clear hcl hmk c0 c1 hB QW
  generalize mk x = W1 at QW1
  go_upto_region 3 with (fail)
  have HS : Hd (∀ W', Below (w.heap.size + 1 + 1) W1 W' → (W'.cell? ⟨w.heap.size, 0, none⟩ = some (.bool (ng m)) ∧ W'.cell? ⟨w.heap.size, 1, none⟩ = some (.slice A (dd (ab m)).length c)) ∧ W'.cell? ⟨w.heap.size + 1, 0, none⟩ = some (.bool (ng n)) ∧ W'.cell? ⟨w.heap.size + 1, 1, none⟩ = some (.slice B (dd (ab n)).length d)) := ⟨fun W' h => QW1.boxes W' h⟩
  have hD : Below (w.heap.size + 1 + 1) W1 W1.drew := Below.drew (Below.refl _ _)
  have hsz : w.heap.size + 1 + 1 ≤ W1.heap.size := by have := lt_of_block QW1.2.2.1; omega
  have QM := QW1.drew
  have hnz : ab n ≠ 0 := by unfold ab; omega
  have hfd : ∀ (A : Option Addr) (l c : Nat) (w : World), (Instr.field 123 (.agg #[.bool false, .slice A l c]) 1).run Tryz.prog w = .ok (.slice A l c) w := fun _ _ _ _ => by kernel_rfl
  have hdq := wrap_div (ab m) (ab n) b1
  have hdr : Int.tmod (ab m : Int) (ab n : Int) = ((ab m % ab n : Nat) : Int) := by rw [Int.tmod_eq_emod_of_nonneg (by omega), Int.natCast_emod]
  go_region_held3 (fun W' => (W'.cell? ⟨w.heap.size, 0, none⟩ = some (.bool (ng m)) ∧ W'.cell? ⟨w.heap.size, 1, none⟩ = some (.slice A (dd (ab m)).length c)) ∧ W'.cell? ⟨w.heap.size + 1, 0, none⟩ = some (.bool (ng n)) ∧ W'.cell? ⟨w.heap.size + 1, 1, none⟩ = some (.slice B (dd (ab n)).length d)) ((exact HS.out _ (by focus (repeat (first | (with_reducible exact Below.refl _ _) | (with_reducible assumption) | ((with_reducible refine Below.setCell ?_ ?_ _); rotate_left; (focus (first | omega | (simp; done) | (simp; omega)))) | ((with_reducible refine Below.alloc ?_ ?_ _); rotate_left; (focus (first | omega | (simp; done) | (simp; omega)))) | (with_reducible refine Below.drew ?_) | (refine below_on ?_ (by assumption)))))))
    ((first
      | (go_at_call 141; have hq := hN2; clear hq; refine (rof_any (ng m) A0 c0 _ hN2 (dd_range _) _ hD2).mono ?_; rintro e wd ⟨vd, rfl, hV2, hb⟩; rw [val_of_dd, zof_mod] at hV2; obtain ⟨A2, c2, rfl, h1, h2⟩ := hV2; have hV2 : BigAt wd _ (m.tmod n) := ⟨A2, c2, rfl, h1, h2⟩; have hV1 := hV1.below hb; have QM := QM.below hb; have hD := below_up hsz hD hb; have q1 := cell_at QM.2.2.1; have q2 := frozen_at QM.2.2.1; have q3 := cell_at QM.2.2.2.1; have q4 := frozen_at QM.2.2.2.1; have q5 := lt_of_block QM.2.2.2.1; clear hb)
      | (go_at_call 118; have hq := hV1; clear hq; refine (rnum_sl _ (ab m % ab n) (by first | rfl | exact hdr) (by have := Nat.mod_le (ab m) (ab n); omega) _).mono ?_; rintro e wc ⟨A0, c0, rfl, hN2, hD2, hb⟩; have hV1 := hV1.below hb; have QM := QM.below hb; have hD := below_up hsz hD hb; clear hb)
      | (go_at_call 141; refine (rof_any (ng m != ng n) A0 c0 _ hN1 (dd_range _) _ hD0).mono ?_; rintro e wb ⟨vb, rfl, hV1, hb⟩; rw [val_of_dd, zof_div2] at hV1; obtain ⟨A1, c1, rfl, h1, h2⟩ := hV1; have hV1 : BigAt wb _ (m.tdiv n) := ⟨A1, c1, rfl, h1, h2⟩; have QM := QM.below hb; have hD := below_up hsz hD hb; clear hb)
      | (go_at_call 118; refine (rnum_sl _ (ab m / ab n) (by first | rfl | exact hdq | exact (IntWalk.i64_left _).trans hdq) (by have := Nat.div_le_self (ab m) (ab n); omega) _).mono ?_; rintro e wa ⟨A0, c0, rfl, hN1, hD0, hb⟩; have QM := QM.below hb; have hD := below_up hsz hD hb; clear hb)))
  obtain ⟨l1, l2, l3⟩ := QM.laid (.bool (ng (m.tdiv n))) (.slice A1 (dd (ab (m.tdiv n))).length c1) (.bool (ng (m.tmod n))) (.slice A2 (dd (ab (m.tmod n))).length c2)
  have b1 := Hd.mk (QM.big hV1 (.bool (ng (m.tdiv n))) (.slice A1 (dd (ab (m.tdiv n))).length c1) (.bool (ng (m.tmod n))) (.slice A2 (dd (ab (m.tmod n))).length c2))
  have b2 := Hd.mk (QM.big hV2 (.bool (ng (m.tdiv n))) (.slice A1 (dd (ab (m.tdiv n))).length c1) (.bool (ng (m.tmod n))) (.slice A2 (dd (ab (m.tmod n))).length c2))
  have k1 := cell_at l1
  have k2 := cell_at l2
  have HF := Hd.mk l3
  clear l1 l2 l3 hV1 hV2 QM
  clear q1 q2 q3 q4 hD
  generalize ((((wd.setCell ⟨w.heap.size + 1 + 1, 0, none⟩ (.bool (ng (m.tdiv n)))).setCell ⟨w.heap.size + 1 + 1, 1, none⟩ (.slice A1 (dd (ab (m.tdiv n))).length c1)).setCell ⟨w.heap.size + 1 + 1 + 1, 0, none⟩ (.bool (ng (m.tmod n)))).setCell ⟨w.heap.size + 1 + 1 + 1, 1, none⟩ (.slice A2 (dd (ab (m.tmod n))).length c2)) = wz at *
  go_wp2
  refine bodyPost_ret (by simp [results, Tryz.results143, go_sem, k1, k2]) rfl ⟨_, _, rfl, b1.out, b2.out, HF.out⟩
open Go.RowKit Go.BigFrame

/-- The quotient's digits under way: those from i on are reckoned. -/
def QRow (m n la i : Nat) (ds : List Int) : Prop :=
  ds.length = la ∧ Dg ds ∧ val ds = 65536 ^ i * (m / 65536 ^ i / n) ∧ ∀ j, j < i → j < la → ds[j]? = some 0
theorem q_start {m n la : Nat} (h : m < 65536 ^ la) : QRow m n la la (List.replicate la 0) ∧ m / 65536 ^ la % n = 0 := by
  refine ⟨⟨by simp, ?_, ?_, ?_⟩, ?_⟩
  · intro x hx
    have := (List.mem_replicate.1 hx).2
    omega
  · rw [val_zeros, Nat.div_eq_of_lt h, Nat.zero_div, Nat.mul_zero]
  · intro j h1 _
    simp [h1]
  · rw [Nat.div_eq_of_lt h, Nat.zero_mod]
/-- What is to be divided at digit j. -/
def rest0 (m n j : Nat) : Nat := m / 65536 ^ j % 65536 + 65536 * (m / 65536 ^ (j + 1) % n)
theorem rest0_step (m n j : Nat) (hn : 0 < n) : rest0 m n j < 65536 * n ∧ rest0 m n j % n = m / 65536 ^ j % n ∧ m / 65536 ^ j / n = 65536 * (m / 65536 ^ (j + 1) / n) + rest0 m n j / n := by
  unfold rest0
  have e : m / 65536 ^ (j + 1) = m / 65536 ^ j / 65536 := by rw [Nat.pow_succ, Nat.div_div_eq_div_mul]
  rw [e]
  generalize m / 65536 ^ j = M
  have h1 := Nat.mod_lt (M / 65536) hn
  have h2 := Nat.div_add_mod (M / 65536) n
  have h3 : M = n * (65536 * (M / 65536 / n)) + (M % 65536 + 65536 * (M / 65536 % n)) := by
    rw [Nat.mul_left_comm]
    omega
  refine ⟨by omega, ?_, ?_⟩
  · conv => rhs; rw [h3]
    rw [Nat.mul_add_mod]
  · conv => lhs; rw [h3]
    rw [Nat.mul_add_div hn]
theorem q_next {m n la j : Nat} {ds : List Int} (h : QRow m n la (j + 1) ds) (hj : j < la) (hn : 0 < n) : QRow m n la j (ds.set j ((rest0 m n j / n : Nat) : Int)) := by
  obtain ⟨h1, h2, h3, h4⟩ := h
  obtain ⟨r1, r2, r3⟩ := rest0_step m n j hn
  have h0 := h4 j (by omega) hj
  have hv := val_set ds j 0 ((rest0 m n j / n : Nat) : Int) h0
  have hlt : rest0 m n j / n < 65536 := Nat.div_lt_of_lt_mul (by rw [Nat.mul_comm]; exact r1)
  refine ⟨by simp [h1], dg_set h2 (Int.natCast_nonneg _) (Int.ofNat_lt.2 hlt), ?_, ?_⟩
  · rw [r3, Nat.mul_add, ← Nat.mul_assoc, ← Nat.pow_succ, ← h3]
    have e0 : (0 : Int).toNat = 0 := rfl
    rw [e0, Int.toNat_natCast, Nat.mul_comm (rest0 m n j / n)] at hv
    omega
  · intro i hi hil
    rw [List.getElem?_set_ne (by omega)]
    exact h4 i (by omega) hil
theorem q_end {m n la : Nat} {ds : List Int} (h : QRow m n la 0 ds) : val ds = m / n := by
  rw [h.2.2.1, Nat.pow_zero, Nat.one_mul, Nat.div_one]
/-- One bit of a digit of the quotient. -/
theorem bit_step (R D : Nat) (hD : 0 < D) : (D ≤ R % (2 * D) → R % D = R % (2 * D) - D ∧ R / D = 2 * (R / (2 * D)) + 1) ∧ (¬ D ≤ R % (2 * D) → R % D = R % (2 * D) ∧ R / D = 2 * (R / (2 * D))) := by
  have h1 := Nat.div_add_mod R (2 * D)
  have h2 : R % (2 * D) < 2 * D := Nat.mod_lt _ (by omega)
  rw [Nat.mul_assoc] at h1
  constructor
  · intro h
    have := (Nat.div_mod_unique hD (a := R) (c := R % (2 * D) - D) (d := 2 * (R / (2 * D)) + 1)).2 ⟨by rw [Nat.mul_add, Nat.mul_left_comm]; omega, by omega⟩
    exact ⟨this.2, this.1⟩
  · intro h
    have := (Nat.div_mod_unique hD (a := R) (c := R % (2 * D)) (d := 2 * (R / (2 * D)))).2 ⟨by rw [Nat.mul_left_comm]; omega, by omega⟩
    exact ⟨this.2, this.1⟩
theorem dbl_pow (n k : Nat) : n * 2 ^ (k + 1) = 2 * (n * 2 ^ k) := by rw [Nat.pow_succ, Nat.mul_left_comm 2, Nat.mul_comm 2]
theorem dig_yes {R n k : Nat} (hn : 0 < n) (h : n * 2 ^ k ≤ R % (n * 2 ^ (k + 1))) : R % (n * 2 ^ k) = R % (n * 2 ^ (k + 1)) - n * 2 ^ k ∧ R / (n * 2 ^ k) * 2 ^ k = R / (n * 2 ^ (k + 1)) * 2 ^ (k + 1) + 2 ^ k := by
  rw [dbl_pow] at h ⊢
  obtain ⟨h1, h2⟩ := (bit_step R (n * 2 ^ k) (Nat.mul_pos hn (Nat.two_pow_pos _))).1 h
  refine ⟨h1, ?_⟩
  rw [h2, Nat.add_mul, Nat.one_mul, Nat.pow_succ, Nat.mul_comm 2 (R / _), Nat.mul_assoc, Nat.mul_comm (2 ^ k) 2]
theorem dig_no {R n k : Nat} (hn : 0 < n) (h : ¬ n * 2 ^ k ≤ R % (n * 2 ^ (k + 1))) : R % (n * 2 ^ k) = R % (n * 2 ^ (k + 1)) ∧ R / (n * 2 ^ k) * 2 ^ k = R / (n * 2 ^ (k + 1)) * 2 ^ (k + 1) := by
  rw [dbl_pow] at h ⊢
  obtain ⟨h1, h2⟩ := (bit_step R (n * 2 ^ k) (Nat.mul_pos hn (Nat.two_pow_pos _))).2 h
  refine ⟨h1, ?_⟩
  rw [h2, Nat.pow_succ, Nat.mul_comm 2 (R / _), Nat.mul_assoc, Nat.mul_comm (2 ^ k) 2]
theorem dig_bound {R n k : Nat} (h : R < 65536 * n) : R / (n * 2 ^ k) * 2 ^ k < 65536 := by
  rw [← Nat.div_div_eq_div_mul]
  have h1 := Nat.div_mul_le_self (R / n) (2 ^ k)
  have h2 : R / n < 65536 := Nat.div_lt_of_lt_mul (by rw [Nat.mul_comm]; exact h)
  omega
theorem infoSl : (Tryz.prog.info? 121).map (fun i => (i.zero, i.size, i.bytes)) = some (some (.slice none 0 0), 1, 24) := by kernel_rfl
theorem addr_plain (b off n : Nat) : (⟨b, off, none⟩ : Addr).add n = ⟨b, off + n, none⟩ := by
  unfold Addr.add
  split
  · rename_i h; rw [h]; rfl
  · rfl
/-- Digits appended to a row of digits that is owned. -/
theorem wpList_append_dig {ops : Array Oper} {rest : List Oper} {o : Oper} {a : Act} {Q : Exit → Act → World → Prop} {w : World} (hgd : o.guard = none) (s x : Operand)
    (ho : o.op = .call { callee := .builtin .append, args := #[s, x], argTypes := #[121, 121] }) (base : Nat) (v : Value) (n : Nat) (xs : List Value) (hs : a.eval s = v) (hown : w.ownsRow base 2 1 v n xs)
    (A : Option Addr) (c : Nat) (ds : List Int) (hx : a.eval x = .slice A ds.length c) (hD : DigAt w A ds) (hn : n ≤ 1000) (hl : ds.length ≤ 1000) (hbase : base ≤ w.heap.size)
    (h : ∀ v' w', w'.ownsRow base 2 1 v' (n + ds.length) (xs ++ longV ds) → w.grownBy w' v.ownBlock → wpList Tryz.prog ops Q rest (a.put o.dst v') w') :
    wpList Tryz.prog ops Q (o :: rest) a w := by
  obtain ⟨i0, hi, hz0, hz1, hz2⟩ := info_parts infoLong
  have hu : Tryz.prog.underlying 121 = some (.slice 2) := by kernel_rfl
  by_cases h0 : 0 < ds.length
  · obtain ⟨b, off, rfl, hcell⟩ := hD.2 h0
    refine wpList_append_own_at w hgd s x 121 ho base 2 i0 (.int .i64 0) 1 8 hu hi hz0 hz1 hz2 rfl (by decide) v n xs hs hown ⟨b, off, none⟩ ds.length c (longV ds) hx (by simp [longV]) ?_ ?_ (by unfold maxLen; omega) (by omega) hbase (fun v' w' r1 r2 _ _ => h v' w' r1 r2)
    · intro j u hu
      simp only [longV, List.getElem?_map, Option.map_eq_some_iff] at hu
      obtain ⟨y, hy, rfl⟩ := hu
      rw [addr_plain]
      exact hcell j y hy
    · intro u hu
      simp only [longV, List.mem_map] at hu
      obtain ⟨y, _, rfl⟩ := hu
      rfl
  · have e0 : ds = [] := List.eq_nil_of_length_eq_zero (by omega)
    subst e0
    have hS : Src Tryz.prog i0.size 121 (.slice A 0 c) 0 [] w := by
      cases A with
      | none => exact Src.ofNil _ hu c
      | some ad => exact Src.ofSlice _ hu ad 0 c [] (by simp) (by simp) (by simp)
    have hv : ∃ (B : Option Addr) (l k : Nat), v = .slice B l k ∧ l ≤ k := by
      rcases hown.2 with ⟨rfl, _⟩ | ⟨g, cap, cur, rfl, _, _, hc, _⟩
      · exact ⟨none, 0, 0, rfl, Nat.le_refl _⟩
      · exact ⟨_, _, _, rfl, hc⟩
    obtain ⟨B, l, k, rfl, hlk⟩ := hv
    have hrun := run_append_nothing w 121 121 o.type 2 i0 hu hi B l k hlk _ hS
    refine wpList_plain hgd fun K hK => ?_
    unfold Oper.wp
    simp [execOp, ho, resolve, invoke, builtin, hs, hx, hrun, Result.andThen]
    exact hK _ _ (h _ _ (by simpa [longV] using hown) (World.grownBy.refl _ _))
end Go.Proofs.YtfchmikbebdflaaGreatDoor

namespace Go.Proofs.YtfchmikbebdflaaGreatDoor
open Go.RowKit Go.BigFrame

theorem Sl.below {base : Nat} {v : Value} {n : Nat} {W W1 : World} (h : Sl base v n W) (hb : Below W.heap.size W W1) : Sl base v n W1 := by
  obtain ⟨A, c, h1, h2, h3, h4⟩ := h
  exact ⟨A, c, h1, h2, h3.below hb, h4⟩
theorem Sl.low {base b : Nat} {v : Value} {n : Nat} {W : World} (h : Sl base v n W) (hb : b ≤ base) : Sl b v n W := by
  obtain ⟨A, c, h1, h2, h3, h4⟩ := h
  exact ⟨A, c, h1, h2, h3, fun h0 a ha => Nat.le_trans hb (h4 h0 a ha)⟩
theorem cell_grown {W W1 : World} {row : Option Nat} (hg : W.grownBy W1 row) {b o : Nat} (hb : b < W.heap.size) (hne : some b ≠ row) : W1.cell? ⟨b, o, none⟩ = W.cell? ⟨b, o, none⟩ := by
  have h := hg.block b hb hne
  unfold World.cell?
  simp only [h]
theorem Sl.grown {base : Nat} {v : Value} {n : Nat} {W W1 : World} {row : Option Nat} (h : Sl base v n W) (hg : W.grownBy W1 row) (hne : v.ownBlock ≠ row) : Sl base v n W1 := by
  obtain ⟨A, c, rfl, h2, h3, h4⟩ := h
  refine ⟨A, c, rfl, h2, ⟨h3.1, fun h0 => ?_⟩, h4⟩
  obtain ⟨b, off, rfl, hc⟩ := h3.2 h0
  refine ⟨b, off, rfl, fun k x hk => ?_⟩
  have h5 := hc k x hk
  rw [cell_grown hg (World.block_lt_of_cell? _ _ h5) hne]
  exact h5
theorem Sl.lt {base : Nat} {v : Value} {n : Nat} {W : World} (h : Sl base v n W) (hn : 0 < n) : ∃ b, v.ownBlock = some b ∧ base ≤ b ∧ b < W.heap.size := by
  obtain ⟨A, c, rfl, h2, h3, h4⟩ := h
  have h0 : 0 < (dd n).length := by
    rcases Nat.eq_zero_or_pos (dd n).length with h | h
    · have := (dd_len 0 n).1 (by omega)
      simp at this
      omega
    · exact h
  obtain ⟨b, off, rfl, hc⟩ := h3.2 h0
  exact ⟨b, rfl, h4 h0 _ rfl, World.block_lt_of_cell? _ _ (hc 0 _ (List.getElem?_eq_getElem h0))⟩
theorem QuoW.grown {x y : Int} {A B : Option Addr} {c d : Nat} {w W W1 : World} {row : Option Nat} (h : QuoW x y A B c d w W) (hg : W.grownBy W1 row) (hr : ∀ k, row = some k → w.heap.size + 1 + 1 + 1 + 1 ≤ k) : QuoW x y A B c d w W1 := by
  have hs := lt_of_block h.2.2.2.1
  have hne : ∀ k, k < w.heap.size + 1 + 1 + 1 + 1 → some k ≠ row := fun k hk e => by have := hr k e.symm; omega
  exact ⟨(hg.block _ (by omega) (hne _ (by omega))).trans h.1, (hg.block _ (by omega) (hne _ (by omega))).trans h.2.1, (hg.block _ (by omega) (hne _ (by omega))).trans h.2.2.1, (hg.block _ hs (hne _ (by omega))).trans h.2.2.2.1,
    h.2.2.2.2.trans (below_grown hg (fun k hk => by have := hr k hk; omega) (by omega))⟩
/-- The doubles of n, k of them, in a row of slices. -/
def Dbl (base n : Nat) (v : Value) (k : Nat) (W : World) : Prop :=
  ∃ vs : List Value, W.ownsRow base 121 1 v k vs ∧ ∀ j u, vs[j]? = some u → Sl 0 u (n * 2 ^ j) W ∧ u.ownBlock ≠ v.ownBlock
/-- The sixteen doubles of n, read. -/
def DblAt (n g : Nat) (W : World) : Prop :=
  ∀ j, j < 16 → ∃ (A : Option Addr) (c : Nat), W.cell? ⟨g, j, none⟩ = some (.slice A (dd (n * 2 ^ j)).length c) ∧ (dd (n * 2 ^ j)).length ≤ c ∧ DigAt W A (dd (n * 2 ^ j))
theorem DblAt.below {n g : Nat} {W W1 : World} (h : DblAt n g W) (hb : Below W.heap.size W W1) : DblAt n g W1 := fun j hj => by
  obtain ⟨A, c, h1, h2, h3⟩ := h j hj
  exact ⟨A, c, (hb.cell (World.block_lt_of_cell? _ _ h1)).trans h1, h2, h3.below hb⟩
theorem Dbl.at {base n : Nat} {v : Value} {W : World} (h : Dbl base n v 16 W) : ∃ g cap, v = .slice (some ⟨g, 0, none⟩) 16 cap ∧ 16 ≤ cap ∧ DblAt n g W := by
  obtain ⟨vs, hown, hvs⟩ := h
  have hlen : vs.length = 16 := by have := hown.1; simpa using this
  rcases hown.2 with ⟨_, h0⟩ | ⟨g, cap, cur, rfl, hg, hcur, hcap, hmax, hsize, htake⟩
  · omega
  · refine ⟨g, cap, rfl, hcap, fun j hj => ?_⟩
    obtain ⟨u, hu⟩ : ∃ u, vs[j]? = some u := ⟨_, List.getElem?_eq_getElem (by omega)⟩
    obtain ⟨⟨A3, c3, rfl, h31, h32, h33⟩, hne⟩ := hvs j u hu
    refine ⟨A3, c3, ?_, h31, h32⟩
    rw [cell_at hcur]
    have h5 : (cur.toList.take (16 * 1))[j]? = vs[j]? := by rw [htake]
    rw [List.getElem?_take, if_pos (by omega), Array.getElem?_toList, hu] at h5
    exact h5
theorem Sl.set {base : Nat} {v : Value} {n : Nat} {W : World} (h : Sl base v n W) {g : Nat} (hg : g < base) (o : Nat) (u : Value) : Sl base v n (W.setCell ⟨g, o, none⟩ u) := by
  obtain ⟨A, c, rfl, h2, h3, h4⟩ := h
  refine ⟨A, c, rfl, h2, ⟨h3.1, fun h0 => ?_⟩, h4⟩
  obtain ⟨b, off, rfl, hc⟩ := h3.2 h0
  refine ⟨b, off, rfl, fun k x hk => ?_⟩
  have h5 := h4 h0 _ rfl
  rw [cell_set_other _ _ _ (by simp at h5 ⊢; omega)]
  exact hc k x hk
theorem set_same {ds : List Int} {j : Nat} {x : Int} (h : ds[j]? = some x) : ds.set j x = ds := by
  apply List.ext_getElem?
  intro i
  by_cases hi : j = i
  · subst hi
    rw [List.getElem?_set_self (List.getElem?_eq_some_iff.1 h).1, h]
  · rw [List.getElem?_set_ne hi]
theorem dd_mono {a b : Nat} (h : a ≤ b) : (dd a).length ≤ (dd b).length := (dd_len _ _).2 (Nat.lt_of_le_of_lt h ((dd_len _ _).1 (Nat.le_refl _)))
theorem add_bit (q k : Nat) (h : q + 2 ^ k < 65536) : wrap64 ((q : Int) + wrap64 (2 ^ k)) = ((q + 2 ^ k : Nat) : Int) := by
  have e : (2 : Int) ^ k = ((2 ^ k : Nat) : Int) := (Int.natCast_pow 2 k).symm
  rw [e]
  generalize 2 ^ k = p at *
  rw [IntWalk.wrap64_in (p : Int) (by omega), IntWalk.wrap64_in _ (by omega)]
  omega
theorem dbl_len {n : Nat} (h : (dd n).length ≤ 200) (j : Nat) (hj : j ≤ 16) : (dd (n * 2 ^ j)).length ≤ 1000 := by
  have h1 := (dd_len 200 n).1 h
  refine Nat.le_trans ((dd_len 201 _).2 ?_) (by omega)
  rw [Nat.pow_succ]
  have h2 : 2 ^ j ≤ 65536 := Nat.le_trans (Nat.pow_le_pow_right (by decide) hj) (by decide)
  exact Nat.lt_of_le_of_lt (Nat.mul_le_mul_left n h2) (Nat.mul_lt_mul_of_pos_right h1 (by decide))
set_option maxRecDepth 20000 in
set_option maxHeartbeats 4000000 in
theorem rquo_many1 (m n : Int) (hy0 : n ≠ 0) (u v : Value) (hlx : (dd (ab m)).length ≤ 1000) (hly : (dd (ab n)).length ≤ 200) (h3 : ¬ (dd (ab m)).length ≤ 3) (w : World) (hu : BigAt w u m) (hv : BigAt w v n) :
    Calls Tryz.prog 143 #[u, v] w fun e w' => ∃ q r, e = .returned (.tuple #[q, r]) ∧ BigAt w' q (m.tdiv n) ∧ BigAt w' r (m.tmod n) ∧ Below w.heap.size w w' := by
  obtain ⟨A, c, rfl, hc, hA⟩ := hu
  obtain ⟨B, d, rfl, hd, hB⟩ := hv
  have HA := Hd.mk hA
  have HB := Hd.mk hB
  have HLX := Hd.mk hlx
  have HLY := Hd.mk hly
  have HLJ := Hd.mk (dbl_len hly)
  have hd1 : decide (((dd (ab m)).length : Int) ≤ 3) = false := by simp; omega
  clear hA hB hlx hly h3
  go_enter Tryz.func143, Tryz.ntmps143
  go_upto_region 4 with (fail)
  clear hd1
  refine abs_wp (QuoW m n A B c d w) ⟨heap_old (heap_old (heap_old (heap_new _ _) _) _) _, heap_old (heap_old (heap_at (by simp) _) _) _, heap_old (heap_at (by simp) _) _, heap_at (by simp) _, by focus (repeat (first | (with_reducible exact Below.refl _ _) | (with_reducible assumption) | ((with_reducible refine Below.setCell ?_ ?_ _); rotate_left; (focus (first | omega | (simp; done) | (simp; omega)))) | ((with_reducible refine Below.alloc ?_ ?_ _); rotate_left; (focus (first | omega | (simp; done) | (simp; omega)))) | (with_reducible refine Below.drew ?_) | (refine below_on ?_ (by assumption))))⟩ fun W QW => ?_
  have c0 := cell_at QW.2.1
  have hsz := lt_of_block QW.2.2.2.1
  go_wp2
  have hdb : Dbl (w.heap.size + 1 + 1 + 1 + 1) (ab n) (.slice (some ⟨W.heap.size, 0, none⟩) 1 1) 1 (W.alloc (.cells #[.slice B (dd (ab n)).length d] 121)) := by
    refine ⟨[.slice B (dd (ab n)).length d], ⟨rfl, .inr ⟨_, 1, _, rfl, by omega, heap_new _ _, by omega, by unfold maxLen; omega, rfl, rfl⟩⟩, ?_⟩
    intro j u hu
    match j, hu with
    | 0, hu =>
      simp only [List.getElem?_cons_zero, Option.some.injEq] at hu
      subst hu
      rw [Nat.pow_zero, Nat.mul_one]
      have hsl : Sl 0 (.slice B (dd (ab n)).length d) (ab n) W := ⟨B, d, rfl, hd, HB.out.below QW.2.2.2.2, fun _ _ _ => Nat.zero_le _⟩
      obtain ⟨b, hb1, _, hb2⟩ := hsl.lt (by unfold ab; omega)
      refine ⟨hsl.below (Below.alloc (Below.refl _ _) (Nat.le_refl _) _), fun e => ?_⟩
      have h4 := hb1.symm.trans e
      simp only [Value.ownBlock, Option.some.injEq] at h4
      omega
    | j + 1, hu => simp at hu
  have hqw := QW.below (Below.alloc (Below.refl _ _) (Nat.le_refl _) (.cells #[.slice B (dd (ab n)).length d] 121))
  go_loopw [8, 9] (fun v kv wr => ∃ k : Nat, 1 ≤ k ∧ k ≤ 16 ∧ kv = .int .i64 k ∧ Dbl (w.heap.size + 1 + 1 + 1 + 1) (ab n) v k wr ∧ QuoW m n A B c d w wr) (fun _ kv _ => 16 - (intOf kv).toNat)
  case atStart => exact ⟨1, by omega, by omega, rfl, hdb, hqw⟩
  case round =>
    clear QW c0 hdb hqw hsz
    obtain ⟨k, hk1, hk, rfl, ⟨vs, hown, hvs⟩, QW⟩ := hrel
    have hsz := lt_of_block QW.2.2.2.1
    by_cases hlt : k < 16
    · have hd1 : decide ((k : Int) < 16) = true := by simp; omega
      obtain ⟨j, rfl⟩ : ∃ j, k = j + 1 := ⟨k - 1, by omega⟩
      have hlen : vs.length = j + 1 := by have := hown.1; simpa using this
      obtain ⟨u, hu⟩ : ∃ u, vs[j]? = some u := ⟨_, List.getElem?_eq_getElem (by omega)⟩
      obtain ⟨⟨A3, c3, rfl, h31, h32, h33⟩, hne⟩ := hvs j u hu
      rcases hown.2 with ⟨_, h0⟩ | ⟨g, cap, cur, rfl, hg, hcur, hcap, hmax, hsize, htake⟩
      · omega
      · have hjk : (((j + 1 : Nat) : Int) - 1) = (j : Int) := by omega
        have e0 : wr.cell? ⟨g, j, none⟩ = some (.slice A3 (dd (ab n * 2 ^ j)).length c3) := by
          rw [cell_at hcur]
          have h5 : (cur.toList.take ((j + 1) * 1))[j]? = vs[j]? := by rw [htake]
          rw [List.getElem?_take, if_pos (by omega), Array.getElem?_toList, hu] at h5
          exact h5
        have l0 := lt_of_block hcur
        have HU := Hd.mk hu
        have HV := Hd.mk hvs
        have HO := Hd.mk hown
        have H32 := Hd.mk h32
        clear hvs hu hown hcur htake
        go_wp2
        refine region_mix 11 (by kernel_rfl) (by kernel_rfl) (fun _ _ _ _ h => h) fun X _ mk hmk hcl => ?_
        have c1 := fun x => ((hmk x).cell l0).trans e0
        simp only [List.take_succ_cons, List.take_zero, List.drop_succ_cons, List.drop_zero]
        repeat (go_big_quiet_step (skip))
        refine wpQuiet_nil ?_
        rintro _ ⟨x, rfl⟩
        have hx1 := hmk x
        clear hcl hmk c1 e0
        generalize mk x = W1 at hx1
        have hp : (dd (ab n * 2 ^ j)).length ≤ 1000 := HLJ.out j (by omega)
        have hn0 : 0 < ab n * 2 ^ j := Nat.mul_pos (by unfold ab; omega) (Nat.two_pow_pos _)
        go_wp2_with fail
        refine (rplus_any (ab n * 2 ^ j) (ab n * 2 ^ j) A3 A3 c3 c3 h31 h31 hp hp _ (H32.out.below hx1) (H32.out.below hx1)).mono ?_
        rintro e W2 ⟨v2, rfl, hS, hb⟩
        rw [show ab n * 2 ^ j + ab n * 2 ^ j = ab n * 2 ^ (j + 1) by rw [Nat.pow_succ, ← Nat.mul_assoc]; omega] at hS
        have hB2 : Below wr.heap.size wr W2 := below_on hx1 hb
        have hown2 := own_below HO.out hB2
        have hs1 := hx1.size
        have hs2 := hb.size
        obtain ⟨bb, hbb, hbb1, hbb2⟩ := hS.lt (Nat.mul_pos (by unfold ab; omega) (Nat.two_pow_pos _))
        obtain ⟨A4, c4, rfl, h41, h42, h43⟩ := hS
        have H42 := Hd.mk h42
        have H43 := Hd.mk h43
        obtain ⟨i1, hi, hz0, hz1, hz2⟩ := info_parts infoSl
        have hu : Tryz.prog.underlying 229 = some (.slice 121) := by kernel_rfl
        clear h42 h43 hb
        go_wp2_with (at_builtin; refine wpList_append_own_at _ rfl (.tmp 56) (.tmp 68) 229 rfl (w.heap.size + 1 + 1 + 1 + 1) 121 i1 (.slice none 0 0) 1 24 hu hi hz0 hz1 hz2 rfl (by decide) _ (j + 1) _ rfl (hown2.alloc _) ⟨W2.heap.size, 0, none⟩ 1 1 [_] rfl rfl (cell_one_new _ _ _) ?c2 ?b1 ?b2 ?b3 ?go)
        case c2 => intro u hu; simp at hu; subst hu; rfl
        case b1 => unfold maxLen; omega
        case b2 => omega
        case b3 => simp; omega
        case go =>
          intro v' w1 hown' hgrow _ hat
          have hat2 : v'.ownBlock = some g ∨ v'.ownBlock = some (W2.heap.size + 1) := by simpa [Value.ownBlock] using hat
          have hA1 : Below W2.heap.size W2 (W2.alloc (.cells #[.slice A4 (dd (ab n * 2 ^ (j + 1))).length c4] 121)) := Below.alloc (Below.refl _ _) (Nat.le_refl _) _
          have hq1 : QuoW m n A B c d w w1 := ((QW.below hB2).below hA1).grown hgrow (fun k hk => by simp [Value.ownBlock] at hk; omega)
          have hd2 : ∀ i u, (vs ++ [.slice A4 (dd (ab n * 2 ^ (j + 1))).length c4])[i]? = some u → Sl 0 u (ab n * 2 ^ i) w1 ∧ u.ownBlock ≠ v'.ownBlock := by
            have hnew : ∀ u z, u.ownBlock ≠ some g → (∃ b, u.ownBlock = some b ∧ b < W2.heap.size) → Sl 0 u z W2 → Sl 0 u z w1 ∧ u.ownBlock ≠ v'.ownBlock := by
              rintro u z h1 ⟨b, hb1, hb2⟩ h3
              refine ⟨(h3.below hA1).grown hgrow h1, fun e => ?_⟩
              rcases hat2 with h4 | h4
              · exact h1 (e.trans h4)
              · rw [hb1, h4] at e
                simp only [Option.some.injEq] at e
                omega
            intro i u hu
            by_cases hi : i < vs.length
            · rw [List.getElem?_append_left hi] at hu
              obtain ⟨h1, h2⟩ := HV.out i u hu
              obtain ⟨b, hb1, _, hb2⟩ := h1.lt (Nat.mul_pos (by unfold ab; omega) (Nat.two_pow_pos _))
              exact hnew u _ h2 ⟨b, hb1, by omega⟩ (h1.below hB2)
            · have hi2 : i = j + 1 := by
                have := (List.getElem?_eq_some_iff.1 hu).1
                simp at this
                omega
              subst hi2
              rw [List.getElem?_append_right (by omega), hlen, Nat.sub_self] at hu
              simp only [List.getElem?_cons_zero, Option.some.injEq] at hu
              subst hu
              refine hnew _ _ ?_ ⟨bb, hbb, hbb2⟩ ⟨A4, c4, rfl, h41, H42.out, fun _ _ _ => Nat.zero_le _⟩
              rw [hbb]
              simp only [ne_eq, Option.some.injEq]
              omega
          have hlt2 : j + 1 < 16 := hlt
          have HDD := Hd.mk hd2
          have HOO := Hd.mk hown'
          clear hd2 hown' hgrow hat hat2 hA1 hown2 HV HO HU hbb hne h31 h32 h33 h41 hi hz0 hz1 hz2 hu hB2 hd1
          go_wp2
          go_roundw
          case rel => exact ⟨j + 1 + 1, by omega, by omega, by go_num, ⟨_, HOO.out, HDD.out⟩, hq1⟩
          case measure => simp [intOf]; omega
    · obtain rfl : k = 16 := by omega
      have hdb : Dbl (w.heap.size + 1 + 1 + 1 + 1) (ab n) u8 16 wr := ⟨vs, hown, hvs⟩
      clear hown hvs
      obtain ⟨gD, cap, rfl, hcap, hdd⟩ := hdb.at
      obtain ⟨i0, hi, hz0, hz1, hz2⟩ := info_parts infoLong
      have hu : Tryz.prog.underlying 121 = some (.slice 2) := by kernel_rfl
      have c0 := cell_at QW.1
      have HDD := Hd.mk hdd
      have HQW := Hd.mk QW
      obtain ⟨la, hla⟩ : ∃ la, (dd (ab m)).length = la := ⟨_, rfl⟩
      have HLA := Hd.mk hla
      have hlx := HLX.out
      rw [hla] at hlx hc HLX c0 ⊢
      clear hdb hdd QW hla
      go_wp2_with (at_make; refine wpList_make_full _ rfl _ _ 121 rfl 0 2 i0 (.int .i64 0) 1 hu hi hz0 hz1 _ _ _ _ la rfl rfl rfl rfl (by rw [hz2]; omega) (by unfold maxLen; omega) (Nat.zero_le _) ?_)
      intro w1 hown hgrow
      have hB1 : Below wr.heap.size wr w1 := below_grown hgrow (fun k hk => by cases hk) (Nat.le_refl _)
      have hrow := row_own hown
      clear hown hgrow hsz hk1 hk hlt hcap
      have HQS := Hd.mk (q_start (m := ab m) (n := ab n) ((dd_len la _).1 (Nat.le_of_eq HLA.out)))
      generalize wr = WQ at *
      have c0 : w1.cell? ⟨w.heap.size, 1, none⟩ = some (.slice A la c) := (hB1.cell (lt_of_block HQW.out.1)).trans (c0 1)
      go_wp2
      clear c0
      go_loopw [11, 12] (fun rv iv wq => ∃ (i : Nat) (ds : List Int), i ≤ la ∧ iv = .int .i64 ((i : Int) - 1) ∧ Hd (QRow (ab m) (ab n) la i ds) ∧ Below WQ.heap.size WQ wq ∧ RowAt wq WQ.heap.size ds ∧ Sl (WQ.heap.size + 1) rv (ab m / 65536 ^ i % ab n) wq) (fun _ iv _ => (intOf iv + 1).toNat)
      case atStart =>
        refine ⟨la, _, Nat.le_refl _, rfl, ⟨HQS.out.1⟩, hB1, hrow, ?_⟩
        rw [HQS.out.2]
        exact ⟨none, 0, by rw [dd_zero]; rfl, by rw [dd_zero]; exact Nat.le_refl _, by rw [dd_zero]; exact ⟨by simp, fun h => by simp at h⟩, fun _ a h => by cases h⟩
      case round =>
        clear hB1 hrow HQS
        obtain ⟨i, ds, hil, rfl, HR, hB, hrow, hSl⟩ := hrel
        have hsz := hB.size
        have hlq := lt_of_block hrow
        have hQ := HQW.out.below hB
        match i, hil, HR, hSl with
        | 0, hil, HR, hSl =>
          rw [Nat.pow_zero, Nat.div_one] at hSl
          obtain ⟨Ar, cr, rfl, r1, r2, _⟩ := hSl
          have hL : ds.length = la := HR.out.1
          have hdig := hrow.dig (by omega)
          have hof := fun W' (hb : Below wr.heap.size wr W') => rof_any (ng m != ng n) (some ⟨WQ.heap.size, 0, none⟩) la ds (Nat.le_of_eq hL) HR.out.2.1 W' (hdig.below hb)
          rw [hL, q_end HR.out, zof_div2] at hof
          have hog := fun W' (hb : Below wr.heap.size wr W') => rof_any (ng m) Ar cr _ r1 (dd_range _) W' (r2.below hb)
          rw [val_of_dd, zof_mod] at hog
          have HOF := Hd.mk hof
          have HOG := Hd.mk hog
          have hbx := hQ.boxes
          unfold Boxes at hbx
          rw [HLA.out] at hbx
          have HS := Hd.mk hbx
          have QM := hQ.drew
          have hsz4 : w.heap.size + 1 + 1 ≤ wr.heap.size := by have := lt_of_block hQ.2.2.1; omega
          have hW : Below wr.heap.size wr wr.drew := Below.drew (Below.refl _ _)
          clear hof hog hbx r1 r2 hdig hrow hB hQ hsz
          go_upto_region 21 with (fail)
          go_region_held3 (fun W' => (W'.cell? ⟨w.heap.size, 0, none⟩ = some (.bool (ng m)) ∧ W'.cell? ⟨w.heap.size, 1, none⟩ = some (.slice A la c)) ∧ W'.cell? ⟨w.heap.size + 1, 0, none⟩ = some (.bool (ng n)) ∧ W'.cell? ⟨w.heap.size + 1, 1, none⟩ = some (.slice B (dd (ab n)).length d)) ((exact HS.out _ (by have := hW.mono hsz4; focus (repeat (first | (with_reducible exact Below.refl _ _) | (with_reducible assumption) | ((with_reducible refine Below.setCell ?_ ?_ _); rotate_left; (focus (first | omega | (simp; done) | (simp; omega)))) | ((with_reducible refine Below.alloc ?_ ?_ _); rotate_left; (focus (first | omega | (simp; done) | (simp; omega)))) | (with_reducible refine Below.drew ?_) | (refine below_on ?_ (by assumption)))))))
            ((first
              | (go_at_call 141; have hq := hV1; clear hq; refine (HOG.out _ hW).mono ?_; rintro e wd ⟨vd, rfl, hV2, hb⟩; obtain ⟨A2, c2, rfl, h1, h2⟩ := hV2; have hV2 : BigAt wd _ (m.tmod n) := ⟨A2, c2, rfl, h1, h2⟩; have hV1 := hV1.below hb; have QM := QM.below hb; have hW := below_on hW hb; have q1 := cell_at QM.2.2.1; have q2 := frozen_at QM.2.2.1; have q3 := cell_at QM.2.2.2.1; have q4 := frozen_at QM.2.2.2.1; have q5 := lt_of_block QM.2.2.2.1; clear hb)
              | (go_at_call 141; refine (HOF.out _ hW).mono ?_; rintro e wb ⟨vb, rfl, hV1, hb⟩; obtain ⟨A1, c1, rfl, h1, h2⟩ := hV1; have hV1 : BigAt wb _ (m.tdiv n) := ⟨A1, c1, rfl, h1, h2⟩; have QM := QM.below hb; have hW := below_on hW hb; clear hb)))
          obtain ⟨l1, l2, l3⟩ := QM.laid (.bool (ng (m.tdiv n))) (.slice A1 (dd (ab (m.tdiv n))).length c1) (.bool (ng (m.tmod n))) (.slice A2 (dd (ab (m.tmod n))).length c2)
          have b1 := Hd.mk (QM.big hV1 (.bool (ng (m.tdiv n))) (.slice A1 (dd (ab (m.tdiv n))).length c1) (.bool (ng (m.tmod n))) (.slice A2 (dd (ab (m.tmod n))).length c2))
          have b2 := Hd.mk (QM.big hV2 (.bool (ng (m.tdiv n))) (.slice A1 (dd (ab (m.tdiv n))).length c1) (.bool (ng (m.tmod n))) (.slice A2 (dd (ab (m.tmod n))).length c2))
          have k1 := cell_at l1
          have k2 := cell_at l2
          have HF := Hd.mk l3
          clear l1 l2 l3 hV1 hV2 QM
          clear q1 q2 q3 q4 hW
          generalize ((((wd.setCell ⟨w.heap.size + 1 + 1, 0, none⟩ (.bool (ng (m.tdiv n)))).setCell ⟨w.heap.size + 1 + 1, 1, none⟩ (.slice A1 (dd (ab (m.tdiv n))).length c1)).setCell ⟨w.heap.size + 1 + 1 + 1, 0, none⟩ (.bool (ng (m.tmod n)))).setCell ⟨w.heap.size + 1 + 1 + 1, 1, none⟩ (.slice A2 (dd (ab (m.tmod n))).length c2)) = wz at *
          go_wp2
          refine bodyPost_ret (by simp [results, Tryz.results143, go_sem, k1, k2]) rfl ⟨_, _, rfl, b1.out, b2.out, HF.out⟩
        | j + 1, hil, HR, hSl =>
          rw [show ((j + 1 : Nat) : Int) - 1 = (j : Int) from by omega]
          have hge : decide ((j : Int) ≥ 0) = true := by simp
          obtain ⟨gA, oA, rfl, fA⟩ := (HA.out.below hQ.2.2.2.2).2 (by rw [HLA.out]; omega)
          obtain ⟨X, hX⟩ : ∃ X, (dd (ab m))[j]? = some X := ⟨_, List.getElem?_eq_getElem (by rw [HLA.out]; omega)⟩
          have g1 := fA j X hX
          have hXd := dd_get _ _ _ hX
          have hXr := dd_range _ X (List.mem_of_getElem? hX)
          have c0 := cell_at hQ.1
          rw [HLA.out] at c0
          obtain ⟨R, hR⟩ : ∃ R, ab m / 65536 ^ (j + 1) % ab n = R := ⟨_, rfl⟩
          have hRn : R < ab n := by rw [← hR]; exact Nat.mod_lt _ (by unfold ab; omega)
          rw [hR] at hSl
          have HRJ : Hd (rest0 (ab m) (ab n) j = X.toNat + 65536 * R) := ⟨by rw [hXd, rest0, hR]; rfl⟩
          obtain ⟨Ar, cr, rfl, r1, r2, r3⟩ := hSl
          have HR2 := Hd.mk r2
          have HQ := Hd.mk hQ
          clear fA hX hXd hR r2 hQ
          go_wp2_with (at_builtin; refine wpList_append_dig rfl (.tmp 87) (.tmp 88) rfl (WQ.heap.size + 1) (.slice (some ⟨wr.heap.size, 0, none⟩) 1 1) 1 [.int .i64 X] rfl ⟨rfl, .inr ⟨wr.heap.size, 1, #[.int .i64 X], rfl, by omega, heap_new _ _, by omega, by unfold maxLen; omega, rfl, rfl⟩⟩ Ar cr (dd R) rfl (HR2.out.below (Below.alloc (Below.refl _ _) (Nat.le_refl _) _)) (by omega) ?l1 ?l2 ?go)
          case l1 => exact Nat.le_trans (dd_mono (Nat.le_of_lt hRn)) (Nat.le_trans HLY.out (by omega))
          case l2 => simp; omega
          case go =>
            intro v' w1 hown' hgrow
            have hB2 : Below WQ.heap.size WQ w1 := (Below.alloc hB (by omega) _).trans (below_grown hgrow (fun k hk => by simp [Value.ownBlock] at hk; omega) (by simp; omega))
            have hrow2 : RowAt w1 WQ.heap.size ds := (hgrow.block _ (by simp; omega) (by simp [Value.ownBlock]; omega)).trans (heap_old hrow _)
            have hown2 : w1.ownsRow (WQ.heap.size + 1) 2 1 v' (1 + (dd R).length) ((X :: dd R).map (Value.int .i64)) := by simpa [longV] using hown'
            obtain ⟨A5, c5, rfl, h51, h52, h53⟩ := dig_of_own2 hown2 (by have := Nat.le_trans (dd_mono (Nat.le_of_lt hRn)) HLY.out; omega)
            have HD5 := Hd.mk h52
            have hDg : Dg (X :: dd R) := fun y hy => by
              rcases List.mem_cons.1 hy with rfl | hy
              · exact hXr
              · exact dd_range R y hy
            have hval : val (X :: dd R) = rest0 (ab m) (ab n) j := by rw [HRJ.out, val, val_of_dd]
            have HDG := Hd.mk hDg
            have HVL := Hd.mk hval
            have HBW := Hd.mk hB2
            clear hown' hgrow hown2 h52 hDg hval hB2 hB hrow hSl r1 r3 c0 g1
            go_wp2_with fail
            refine (cut_any A5 c5 _ h51 _ HD5.out).mono ?_
            rintro e w2 ⟨⟨A6, rfl, hA6⟩, rfl⟩
            have hS6 := sl_cut (base := WQ.heap.size + 1) HD5.out HDG.out HVL.out h51 hA6 h53
            clear hA6 h53 h51 HD5
            obtain ⟨hr1, hr2, hr3⟩ := rest0_step (ab m) (ab n) j (by unfold ab; omega)
            have HR1 := Hd.mk hr1
            have HR3 := Hd.mk hr2
            have h0j := HR.out.2.2.2 j (by omega) (by omega)
            generalize (Value.slice A6 (strip (X :: dd R)).length c5) = v6 at *
            obtain ⟨R0, hR0⟩ : ∃ R0, rest0 (ab m) (ab n) j = R0 := ⟨_, rfl⟩
            have HRN := Hd.mk (q_next HR.out (by omega : j < la) (by unfold ab; omega))
            rw [hR0] at hS6 hr1 HR1 HR3 HRN
            clear hR0 hr2 hr3 HRJ HVL
            go_wp2
            go_loopw [11, 13] (fun rv kv wq => ∃ k : Nat, k ≤ 16 ∧ kv = .int .i64 ((k : Int) - 1) ∧ Below WQ.heap.size WQ wq ∧ RowAt wq WQ.heap.size (ds.set j ((R0 / (ab n * 2 ^ k) * 2 ^ k : Nat) : Int)) ∧ Sl (WQ.heap.size + 1) rv (R0 % (ab n * 2 ^ k)) wq) (fun _ kv _ => (intOf kv + 1).toNat)
            case atStart =>
              have hlt : R0 < ab n * 2 ^ 16 := by rw [Nat.mul_comm]; exact hr1
              refine ⟨16, Nat.le_refl _, rfl, HBW.out, ?_, ?_⟩
              · rw [Nat.div_eq_of_lt hlt, Nat.zero_mul, show ((0 : Nat) : Int) = 0 from rfl, set_same h0j]; exact hrow2
              · rw [Nat.mod_eq_of_lt hlt]; exact hS6
            case round =>
              clear hS6 hrow2 HBW
              obtain ⟨k, hk, rfl, hB, hrow, hSl⟩ := hrel
              have hlq := lt_of_block hrow
              match k, hk, hrow, hSl with
              | 0, hk, hrow, hSl =>
                rw [Nat.pow_zero, Nat.mul_one, Nat.mul_one] at hrow
                rw [Nat.pow_zero, Nat.mul_one, HR3.out] at hSl
                have HRW := Hd.mk hrow
                have HS8 := Hd.mk hSl
                have HB4 := Hd.mk hB
                clear hrow hSl hB
                go_wp2
                exact ⟨⟨j, _, by omega, rfl, HRN, HB4.out, HRW.out, HS8.out⟩, by simp [intOf]⟩
              | k + 1, hk, hrow, hSl =>
                rw [show ((k + 1 : Nat) : Int) - 1 = (k : Int) from by omega]
                have hge : decide ((k : Int) ≥ 0) = true := by simp
                have hki : (k : Int) < 16 := by omega
                obtain ⟨A7, c7, e7, h71, h72⟩ := HDD.out k (by omega)
                have e7 := (hB.cell (World.block_lt_of_cell? _ _ e7)).trans e7
                have H72 := Hd.mk (h72.below hB)
                obtain ⟨A8, c8, rfl, h81, h82, h83⟩ := hSl
                have H82 := Hd.mk h82
                have H83 := Hd.mk h83
                clear h72 h82 h83
                go_wp2_with fail
                refine (rmags_any _ _ A8 A7 c8 c7 h81 h71 _ H82.out H72.out).mono ?_
                rintro e w3 ⟨rfl, hb⟩
                have e8 := (hb.cell (World.block_lt_of_cell? _ _ e7)).trans e7
                have hrow3 : RowAt w3 WQ.heap.size _ := heap_below hb hrow
                have hB3 := below_on hB hb
                have HS8 : Hd (Sl (WQ.heap.size + 1) (.slice A8 (dd (R0 % (ab n * 2 ^ (k + 1)))).length c8) (R0 % (ab n * 2 ^ (k + 1))) w3) := ⟨⟨A8, c8, rfl, h81, H82.out.below hb, H83.out⟩⟩
                have H82 := Hd.mk (H82.out.below hb)
                have H72 := Hd.mk (H72.out.below hb)
                have hsz3 := hB3.size
                clear e7 hrow hB hb H83
                by_cases hle : ab n * 2 ^ k ≤ R0 % (ab n * 2 ^ (k + 1))
                · have hC : decide (cmpN (R0 % (ab n * 2 ^ (k + 1))) (ab n * 2 ^ k) ≥ 0) = true := by unfold cmpN; rw [if_neg (by omega)]; split <;> rfl
                  obtain ⟨hy1, hy2⟩ := dig_yes (R := R0) (k := k) (show 0 < ab n by unfold ab; omega) hle
                  have HY1 := Hd.mk hy1
                  have hq1 := dig_bound (k := k) HR1.out
                  rw [hy2] at hq1
                  have HY2 := Hd.mk hy2
                  have hl8 : (dd (R0 % (ab n * 2 ^ (k + 1)))).length ≤ 1000 := Nat.le_trans (dd_mono (Nat.le_of_lt (Nat.mod_lt _ (Nat.mul_pos (by unfold ab; omega) (Nat.two_pow_pos _))))) (HLJ.out (k + 1) (by omega))
                  have hl7 := HLJ.out k (by omega)
                  have HLE := Hd.mk hle
                  clear hy1 hy2 hle
                  go_wp2_with fail
                  refine (rless_any _ _ HLE.out A8 A7 c8 c7 h81 h71 hl8 hl7 _ H82.out H72.out).mono ?_
                  rintro e w4 ⟨v4, rfl, hS4, hb⟩
                  have hS5 := hS4.low (show WQ.heap.size + 1 ≤ w3.heap.size by have := lt_of_block hrow3; omega)
                  rw [← HY1.out] at hS5
                  have hrow4 : RowAt w4 WQ.heap.size _ := heap_below hb hrow3
                  have hB4 := below_on hB3 hb
                  have q4 := hrow4.cell (j := j) (List.getElem?_set_self (by rw [HR.out.1]; omega))
                  have f4 := frozen_at hrow4
                  have l4 := lt_of_block hrow4
                  have HS5 := Hd.mk hS5
                  have HRW := Hd.mk hrow4
                  have HB4 := Hd.mk hB4
                  obtain ⟨q0, hq0⟩ : ∃ q0, R0 / (ab n * 2 ^ (k + 1)) * 2 ^ (k + 1) = q0 := ⟨_, rfl⟩
                  rw [hq0] at q4 hq1 HRW HY2
                  clear hS4 hS5 hrow4 hB4 hB3 hrow3 e8 hC h81 h71 hq0 hb
                  have hw := add_bit q0 k hq1
                  go_wp2
                  refine ⟨⟨k, by omega, rfl, ?_, ?_, ?_⟩, by simp [intOf]⟩
                  · exact Below.setCell HB4.out (Nat.le_refl _) _
                  · rw [HY2.out]
                    have h9 := HRW.out.set j ((q0 + 2 ^ k : Nat) : Int)
                    rw [List.set_set] at h9
                    rw [show ((q0 + 2 ^ k : Nat) : Int) = (q0 : Int) + 2 ^ k from by rw [Int.natCast_add, Int.natCast_pow]; rfl] at h9 ⊢
                    exact h9
                  · exact HS5.out.set (Nat.lt_succ_self _) _ _
                · have hC : decide (cmpN (R0 % (ab n * 2 ^ (k + 1))) (ab n * 2 ^ k) ≥ 0) = false := by unfold cmpN; rw [if_pos (by omega)]; rfl
                  obtain ⟨hy1, hy2⟩ := dig_no (R := R0) (k := k) (show 0 < ab n by unfold ab; omega) hle
                  have HY1 := Hd.mk hy1
                  have HY2 := Hd.mk hy2
                  have HRW := Hd.mk hrow3
                  have HB4 := Hd.mk hB3
                  clear hy1 hy2 hle hrow3 hB3 e8 h81 h71
                  go_wp2
                  refine ⟨⟨k, by omega, rfl, HB4.out, ?_, ?_⟩, by simp [intOf]⟩
                  · rw [HY2.out]; exact HRW.out
                  · rw [HY1.out]; exact HS8.out
open Go.RowKit Go.BigFrame

set_option maxRecDepth 20000 in
set_option maxHeartbeats 4000000 in
theorem rquo_many2 (m n : Int) (hy0 : n ≠ 0) (u v : Value) (hlx : (dd (ab m)).length ≤ 1000) (hly : (dd (ab n)).length ≤ 200) (h2 : (dd (ab m)).length ≤ 3) (h3 : ¬ (dd (ab n)).length ≤ 3) (w : World) (hu : BigAt w u m) (hv : BigAt w v n) :
    Calls Tryz.prog 143 #[u, v] w fun e w' => ∃ q r, e = .returned (.tuple #[q, r]) ∧ BigAt w' q (m.tdiv n) ∧ BigAt w' r (m.tmod n) ∧ Below w.heap.size w w' := by
  obtain ⟨A, c, rfl, hc, hA⟩ := hu
  obtain ⟨B, d, rfl, hd, hB⟩ := hv
  have HA := Hd.mk hA
  have HB := Hd.mk hB
  have HLX := Hd.mk hlx
  have HLY := Hd.mk hly
  have HLJ := Hd.mk (dbl_len hly)
  have hd1 : decide (((dd (ab m)).length : Int) ≤ 3) = true := by simp; omega
  have hd2 : decide (((dd (ab n)).length : Int) ≤ 3) = false := by simp; omega
  clear hA hB hlx hly h2 h3
  go_enter Tryz.func143, Tryz.ntmps143
  go_upto_region 4 with (fail)
  clear hd1 hd2
  refine abs_wp (QuoW m n A B c d w) ⟨heap_old (heap_old (heap_old (heap_new _ _) _) _) _, heap_old (heap_old (heap_at (by simp) _) _) _, heap_old (heap_at (by simp) _) _, heap_at (by simp) _, by focus (repeat (first | (with_reducible exact Below.refl _ _) | (with_reducible assumption) | ((with_reducible refine Below.setCell ?_ ?_ _); rotate_left; (focus (first | omega | (simp; done) | (simp; omega)))) | ((with_reducible refine Below.alloc ?_ ?_ _); rotate_left; (focus (first | omega | (simp; done) | (simp; omega)))) | (with_reducible refine Below.drew ?_) | (refine below_on ?_ (by assumption))))⟩ fun W QW => ?_
  have c0 := cell_at QW.2.1
  have hsz := lt_of_block QW.2.2.2.1
  go_wp2
  have hdb : Dbl (w.heap.size + 1 + 1 + 1 + 1) (ab n) (.slice (some ⟨W.heap.size, 0, none⟩) 1 1) 1 (W.alloc (.cells #[.slice B (dd (ab n)).length d] 121)) := by
    refine ⟨[.slice B (dd (ab n)).length d], ⟨rfl, .inr ⟨_, 1, _, rfl, by omega, heap_new _ _, by omega, by unfold maxLen; omega, rfl, rfl⟩⟩, ?_⟩
    intro j u hu
    match j, hu with
    | 0, hu =>
      simp only [List.getElem?_cons_zero, Option.some.injEq] at hu
      subst hu
      rw [Nat.pow_zero, Nat.mul_one]
      have hsl : Sl 0 (.slice B (dd (ab n)).length d) (ab n) W := ⟨B, d, rfl, hd, HB.out.below QW.2.2.2.2, fun _ _ _ => Nat.zero_le _⟩
      obtain ⟨b, hb1, _, hb2⟩ := hsl.lt (by unfold ab; omega)
      refine ⟨hsl.below (Below.alloc (Below.refl _ _) (Nat.le_refl _) _), fun e => ?_⟩
      have h4 := hb1.symm.trans e
      simp only [Value.ownBlock, Option.some.injEq] at h4
      omega
    | j + 1, hu => simp at hu
  have hqw := QW.below (Below.alloc (Below.refl _ _) (Nat.le_refl _) (.cells #[.slice B (dd (ab n)).length d] 121))
  go_loopw [8, 9] (fun v kv wr => ∃ k : Nat, 1 ≤ k ∧ k ≤ 16 ∧ kv = .int .i64 k ∧ Dbl (w.heap.size + 1 + 1 + 1 + 1) (ab n) v k wr ∧ QuoW m n A B c d w wr) (fun _ kv _ => 16 - (intOf kv).toNat)
  case atStart => exact ⟨1, by omega, by omega, rfl, hdb, hqw⟩
  case round =>
    clear QW c0 hdb hqw hsz
    obtain ⟨k, hk1, hk, rfl, ⟨vs, hown, hvs⟩, QW⟩ := hrel
    have hsz := lt_of_block QW.2.2.2.1
    by_cases hlt : k < 16
    · have hd1 : decide ((k : Int) < 16) = true := by simp; omega
      obtain ⟨j, rfl⟩ : ∃ j, k = j + 1 := ⟨k - 1, by omega⟩
      have hlen : vs.length = j + 1 := by have := hown.1; simpa using this
      obtain ⟨u, hu⟩ : ∃ u, vs[j]? = some u := ⟨_, List.getElem?_eq_getElem (by omega)⟩
      obtain ⟨⟨A3, c3, rfl, h31, h32, h33⟩, hne⟩ := hvs j u hu
      rcases hown.2 with ⟨_, h0⟩ | ⟨g, cap, cur, rfl, hg, hcur, hcap, hmax, hsize, htake⟩
      · omega
      · have hjk : (((j + 1 : Nat) : Int) - 1) = (j : Int) := by omega
        have e0 : wr.cell? ⟨g, j, none⟩ = some (.slice A3 (dd (ab n * 2 ^ j)).length c3) := by
          rw [cell_at hcur]
          have h5 : (cur.toList.take ((j + 1) * 1))[j]? = vs[j]? := by rw [htake]
          rw [List.getElem?_take, if_pos (by omega), Array.getElem?_toList, hu] at h5
          exact h5
        have l0 := lt_of_block hcur
        have HU := Hd.mk hu
        have HV := Hd.mk hvs
        have HO := Hd.mk hown
        have H32 := Hd.mk h32
        clear hvs hu hown hcur htake
        go_wp2
        refine region_mix 11 (by kernel_rfl) (by kernel_rfl) (fun _ _ _ _ h => h) fun X _ mk hmk hcl => ?_
        have c1 := fun x => ((hmk x).cell l0).trans e0
        simp only [List.take_succ_cons, List.take_zero, List.drop_succ_cons, List.drop_zero]
        repeat (go_big_quiet_step (skip))
        refine wpQuiet_nil ?_
        rintro _ ⟨x, rfl⟩
        have hx1 := hmk x
        clear hcl hmk c1 e0
        generalize mk x = W1 at hx1
        have hp : (dd (ab n * 2 ^ j)).length ≤ 1000 := HLJ.out j (by omega)
        have hn0 : 0 < ab n * 2 ^ j := Nat.mul_pos (by unfold ab; omega) (Nat.two_pow_pos _)
        go_wp2_with fail
        refine (rplus_any (ab n * 2 ^ j) (ab n * 2 ^ j) A3 A3 c3 c3 h31 h31 hp hp _ (H32.out.below hx1) (H32.out.below hx1)).mono ?_
        rintro e W2 ⟨v2, rfl, hS, hb⟩
        rw [show ab n * 2 ^ j + ab n * 2 ^ j = ab n * 2 ^ (j + 1) by rw [Nat.pow_succ, ← Nat.mul_assoc]; omega] at hS
        have hB2 : Below wr.heap.size wr W2 := below_on hx1 hb
        have hown2 := own_below HO.out hB2
        have hs1 := hx1.size
        have hs2 := hb.size
        obtain ⟨bb, hbb, hbb1, hbb2⟩ := hS.lt (Nat.mul_pos (by unfold ab; omega) (Nat.two_pow_pos _))
        obtain ⟨A4, c4, rfl, h41, h42, h43⟩ := hS
        have H42 := Hd.mk h42
        have H43 := Hd.mk h43
        obtain ⟨i1, hi, hz0, hz1, hz2⟩ := info_parts infoSl
        have hu : Tryz.prog.underlying 229 = some (.slice 121) := by kernel_rfl
        clear h42 h43 hb
        go_wp2_with (at_builtin; refine wpList_append_own_at _ rfl (.tmp 56) (.tmp 68) 229 rfl (w.heap.size + 1 + 1 + 1 + 1) 121 i1 (.slice none 0 0) 1 24 hu hi hz0 hz1 hz2 rfl (by decide) _ (j + 1) _ rfl (hown2.alloc _) ⟨W2.heap.size, 0, none⟩ 1 1 [_] rfl rfl (cell_one_new _ _ _) ?c2 ?b1 ?b2 ?b3 ?go)
        case c2 => intro u hu; simp at hu; subst hu; rfl
        case b1 => unfold maxLen; omega
        case b2 => omega
        case b3 => simp; omega
        case go =>
          intro v' w1 hown' hgrow _ hat
          have hat2 : v'.ownBlock = some g ∨ v'.ownBlock = some (W2.heap.size + 1) := by simpa [Value.ownBlock] using hat
          have hA1 : Below W2.heap.size W2 (W2.alloc (.cells #[.slice A4 (dd (ab n * 2 ^ (j + 1))).length c4] 121)) := Below.alloc (Below.refl _ _) (Nat.le_refl _) _
          have hq1 : QuoW m n A B c d w w1 := ((QW.below hB2).below hA1).grown hgrow (fun k hk => by simp [Value.ownBlock] at hk; omega)
          have hd2 : ∀ i u, (vs ++ [.slice A4 (dd (ab n * 2 ^ (j + 1))).length c4])[i]? = some u → Sl 0 u (ab n * 2 ^ i) w1 ∧ u.ownBlock ≠ v'.ownBlock := by
            have hnew : ∀ u z, u.ownBlock ≠ some g → (∃ b, u.ownBlock = some b ∧ b < W2.heap.size) → Sl 0 u z W2 → Sl 0 u z w1 ∧ u.ownBlock ≠ v'.ownBlock := by
              rintro u z h1 ⟨b, hb1, hb2⟩ h3
              refine ⟨(h3.below hA1).grown hgrow h1, fun e => ?_⟩
              rcases hat2 with h4 | h4
              · exact h1 (e.trans h4)
              · rw [hb1, h4] at e
                simp only [Option.some.injEq] at e
                omega
            intro i u hu
            by_cases hi : i < vs.length
            · rw [List.getElem?_append_left hi] at hu
              obtain ⟨h1, h2⟩ := HV.out i u hu
              obtain ⟨b, hb1, _, hb2⟩ := h1.lt (Nat.mul_pos (by unfold ab; omega) (Nat.two_pow_pos _))
              exact hnew u _ h2 ⟨b, hb1, by omega⟩ (h1.below hB2)
            · have hi2 : i = j + 1 := by
                have := (List.getElem?_eq_some_iff.1 hu).1
                simp at this
                omega
              subst hi2
              rw [List.getElem?_append_right (by omega), hlen, Nat.sub_self] at hu
              simp only [List.getElem?_cons_zero, Option.some.injEq] at hu
              subst hu
              refine hnew _ _ ?_ ⟨bb, hbb, hbb2⟩ ⟨A4, c4, rfl, h41, H42.out, fun _ _ _ => Nat.zero_le _⟩
              rw [hbb]
              simp only [ne_eq, Option.some.injEq]
              omega
          have hlt2 : j + 1 < 16 := hlt
          have HDD := Hd.mk hd2
          have HOO := Hd.mk hown'
          clear hd2 hown' hgrow hat hat2 hA1 hown2 HV HO HU hbb hne h31 h32 h33 h41 hi hz0 hz1 hz2 hu hB2 hd1
          go_wp2
          go_roundw
          case rel => exact ⟨j + 1 + 1, by omega, by omega, by go_num, ⟨_, HOO.out, HDD.out⟩, hq1⟩
          case measure => simp [intOf]; omega
    · obtain rfl : k = 16 := by omega
      have hdb : Dbl (w.heap.size + 1 + 1 + 1 + 1) (ab n) u8 16 wr := ⟨vs, hown, hvs⟩
      clear hown hvs
      obtain ⟨gD, cap, rfl, hcap, hdd⟩ := hdb.at
      obtain ⟨i0, hi, hz0, hz1, hz2⟩ := info_parts infoLong
      have hu : Tryz.prog.underlying 121 = some (.slice 2) := by kernel_rfl
      have c0 := cell_at QW.1
      have HDD := Hd.mk hdd
      have HQW := Hd.mk QW
      obtain ⟨la, hla⟩ : ∃ la, (dd (ab m)).length = la := ⟨_, rfl⟩
      have HLA := Hd.mk hla
      have hlx := HLX.out
      rw [hla] at hlx hc HLX c0 ⊢
      clear hdb hdd QW hla
      go_wp2_with (at_make; refine wpList_make_full _ rfl _ _ 121 rfl 0 2 i0 (.int .i64 0) 1 hu hi hz0 hz1 _ _ _ _ la rfl rfl rfl rfl (by rw [hz2]; omega) (by unfold maxLen; omega) (Nat.zero_le _) ?_)
      intro w1 hown hgrow
      have hB1 : Below wr.heap.size wr w1 := below_grown hgrow (fun k hk => by cases hk) (Nat.le_refl _)
      have hrow := row_own hown
      clear hown hgrow hsz hk1 hk hlt hcap
      have HQS := Hd.mk (q_start (m := ab m) (n := ab n) ((dd_len la _).1 (Nat.le_of_eq HLA.out)))
      generalize wr = WQ at *
      have c0 : w1.cell? ⟨w.heap.size, 1, none⟩ = some (.slice A la c) := (hB1.cell (lt_of_block HQW.out.1)).trans (c0 1)
      go_wp2
      clear c0
      go_loopw [11, 12] (fun rv iv wq => ∃ (i : Nat) (ds : List Int), i ≤ la ∧ iv = .int .i64 ((i : Int) - 1) ∧ Hd (QRow (ab m) (ab n) la i ds) ∧ Below WQ.heap.size WQ wq ∧ RowAt wq WQ.heap.size ds ∧ Sl (WQ.heap.size + 1) rv (ab m / 65536 ^ i % ab n) wq) (fun _ iv _ => (intOf iv + 1).toNat)
      case atStart =>
        refine ⟨la, _, Nat.le_refl _, rfl, ⟨HQS.out.1⟩, hB1, hrow, ?_⟩
        rw [HQS.out.2]
        exact ⟨none, 0, by rw [dd_zero]; rfl, by rw [dd_zero]; exact Nat.le_refl _, by rw [dd_zero]; exact ⟨by simp, fun h => by simp at h⟩, fun _ a h => by cases h⟩
      case round =>
        clear hB1 hrow HQS
        obtain ⟨i, ds, hil, rfl, HR, hB, hrow, hSl⟩ := hrel
        have hsz := hB.size
        have hlq := lt_of_block hrow
        have hQ := HQW.out.below hB
        match i, hil, HR, hSl with
        | 0, hil, HR, hSl =>
          rw [Nat.pow_zero, Nat.div_one] at hSl
          obtain ⟨Ar, cr, rfl, r1, r2, _⟩ := hSl
          have hL : ds.length = la := HR.out.1
          have hdig := hrow.dig (by omega)
          have hof := fun W' (hb : Below wr.heap.size wr W') => rof_any (ng m != ng n) (some ⟨WQ.heap.size, 0, none⟩) la ds (Nat.le_of_eq hL) HR.out.2.1 W' (hdig.below hb)
          rw [hL, q_end HR.out, zof_div2] at hof
          have hog := fun W' (hb : Below wr.heap.size wr W') => rof_any (ng m) Ar cr _ r1 (dd_range _) W' (r2.below hb)
          rw [val_of_dd, zof_mod] at hog
          have HOF := Hd.mk hof
          have HOG := Hd.mk hog
          have hbx := hQ.boxes
          unfold Boxes at hbx
          rw [HLA.out] at hbx
          have HS := Hd.mk hbx
          have QM := hQ.drew
          have hsz4 : w.heap.size + 1 + 1 ≤ wr.heap.size := by have := lt_of_block hQ.2.2.1; omega
          have hW : Below wr.heap.size wr wr.drew := Below.drew (Below.refl _ _)
          clear hof hog hbx r1 r2 hdig hrow hB hQ hsz
          go_upto_region 21 with (fail)
          go_region_held3 (fun W' => (W'.cell? ⟨w.heap.size, 0, none⟩ = some (.bool (ng m)) ∧ W'.cell? ⟨w.heap.size, 1, none⟩ = some (.slice A la c)) ∧ W'.cell? ⟨w.heap.size + 1, 0, none⟩ = some (.bool (ng n)) ∧ W'.cell? ⟨w.heap.size + 1, 1, none⟩ = some (.slice B (dd (ab n)).length d)) ((exact HS.out _ (by have := hW.mono hsz4; focus (repeat (first | (with_reducible exact Below.refl _ _) | (with_reducible assumption) | ((with_reducible refine Below.setCell ?_ ?_ _); rotate_left; (focus (first | omega | (simp; done) | (simp; omega)))) | ((with_reducible refine Below.alloc ?_ ?_ _); rotate_left; (focus (first | omega | (simp; done) | (simp; omega)))) | (with_reducible refine Below.drew ?_) | (refine below_on ?_ (by assumption)))))))
            ((first
              | (go_at_call 141; have hq := hV1; clear hq; refine (HOG.out _ hW).mono ?_; rintro e wd ⟨vd, rfl, hV2, hb⟩; obtain ⟨A2, c2, rfl, h1, h2⟩ := hV2; have hV2 : BigAt wd _ (m.tmod n) := ⟨A2, c2, rfl, h1, h2⟩; have hV1 := hV1.below hb; have QM := QM.below hb; have hW := below_on hW hb; have q1 := cell_at QM.2.2.1; have q2 := frozen_at QM.2.2.1; have q3 := cell_at QM.2.2.2.1; have q4 := frozen_at QM.2.2.2.1; have q5 := lt_of_block QM.2.2.2.1; clear hb)
              | (go_at_call 141; refine (HOF.out _ hW).mono ?_; rintro e wb ⟨vb, rfl, hV1, hb⟩; obtain ⟨A1, c1, rfl, h1, h2⟩ := hV1; have hV1 : BigAt wb _ (m.tdiv n) := ⟨A1, c1, rfl, h1, h2⟩; have QM := QM.below hb; have hW := below_on hW hb; clear hb)))
          obtain ⟨l1, l2, l3⟩ := QM.laid (.bool (ng (m.tdiv n))) (.slice A1 (dd (ab (m.tdiv n))).length c1) (.bool (ng (m.tmod n))) (.slice A2 (dd (ab (m.tmod n))).length c2)
          have b1 := Hd.mk (QM.big hV1 (.bool (ng (m.tdiv n))) (.slice A1 (dd (ab (m.tdiv n))).length c1) (.bool (ng (m.tmod n))) (.slice A2 (dd (ab (m.tmod n))).length c2))
          have b2 := Hd.mk (QM.big hV2 (.bool (ng (m.tdiv n))) (.slice A1 (dd (ab (m.tdiv n))).length c1) (.bool (ng (m.tmod n))) (.slice A2 (dd (ab (m.tmod n))).length c2))
          have k1 := cell_at l1
          have k2 := cell_at l2
          have HF := Hd.mk l3
          clear l1 l2 l3 hV1 hV2 QM
          clear q1 q2 q3 q4 hW
          generalize ((((wd.setCell ⟨w.heap.size + 1 + 1, 0, none⟩ (.bool (ng (m.tdiv n)))).setCell ⟨w.heap.size + 1 + 1, 1, none⟩ (.slice A1 (dd (ab (m.tdiv n))).length c1)).setCell ⟨w.heap.size + 1 + 1 + 1, 0, none⟩ (.bool (ng (m.tmod n)))).setCell ⟨w.heap.size + 1 + 1 + 1, 1, none⟩ (.slice A2 (dd (ab (m.tmod n))).length c2)) = wz at *
          go_wp2
          refine bodyPost_ret (by simp [results, Tryz.results143, go_sem, k1, k2]) rfl ⟨_, _, rfl, b1.out, b2.out, HF.out⟩
        | j + 1, hil, HR, hSl =>
          rw [show ((j + 1 : Nat) : Int) - 1 = (j : Int) from by omega]
          have hge : decide ((j : Int) ≥ 0) = true := by simp
          obtain ⟨gA, oA, rfl, fA⟩ := (HA.out.below hQ.2.2.2.2).2 (by rw [HLA.out]; omega)
          obtain ⟨X, hX⟩ : ∃ X, (dd (ab m))[j]? = some X := ⟨_, List.getElem?_eq_getElem (by rw [HLA.out]; omega)⟩
          have g1 := fA j X hX
          have hXd := dd_get _ _ _ hX
          have hXr := dd_range _ X (List.mem_of_getElem? hX)
          have c0 := cell_at hQ.1
          rw [HLA.out] at c0
          obtain ⟨R, hR⟩ : ∃ R, ab m / 65536 ^ (j + 1) % ab n = R := ⟨_, rfl⟩
          have hRn : R < ab n := by rw [← hR]; exact Nat.mod_lt _ (by unfold ab; omega)
          rw [hR] at hSl
          have HRJ : Hd (rest0 (ab m) (ab n) j = X.toNat + 65536 * R) := ⟨by rw [hXd, rest0, hR]; rfl⟩
          obtain ⟨Ar, cr, rfl, r1, r2, r3⟩ := hSl
          have HR2 := Hd.mk r2
          have HQ := Hd.mk hQ
          clear fA hX hXd hR r2 hQ
          go_wp2_with (at_builtin; refine wpList_append_dig rfl (.tmp 87) (.tmp 88) rfl (WQ.heap.size + 1) (.slice (some ⟨wr.heap.size, 0, none⟩) 1 1) 1 [.int .i64 X] rfl ⟨rfl, .inr ⟨wr.heap.size, 1, #[.int .i64 X], rfl, by omega, heap_new _ _, by omega, by unfold maxLen; omega, rfl, rfl⟩⟩ Ar cr (dd R) rfl (HR2.out.below (Below.alloc (Below.refl _ _) (Nat.le_refl _) _)) (by omega) ?l1 ?l2 ?go)
          case l1 => exact Nat.le_trans (dd_mono (Nat.le_of_lt hRn)) (Nat.le_trans HLY.out (by omega))
          case l2 => simp; omega
          case go =>
            intro v' w1 hown' hgrow
            have hB2 : Below WQ.heap.size WQ w1 := (Below.alloc hB (by omega) _).trans (below_grown hgrow (fun k hk => by simp [Value.ownBlock] at hk; omega) (by simp; omega))
            have hrow2 : RowAt w1 WQ.heap.size ds := (hgrow.block _ (by simp; omega) (by simp [Value.ownBlock]; omega)).trans (heap_old hrow _)
            have hown2 : w1.ownsRow (WQ.heap.size + 1) 2 1 v' (1 + (dd R).length) ((X :: dd R).map (Value.int .i64)) := by simpa [longV] using hown'
            obtain ⟨A5, c5, rfl, h51, h52, h53⟩ := dig_of_own2 hown2 (by have := Nat.le_trans (dd_mono (Nat.le_of_lt hRn)) HLY.out; omega)
            have HD5 := Hd.mk h52
            have hDg : Dg (X :: dd R) := fun y hy => by
              rcases List.mem_cons.1 hy with rfl | hy
              · exact hXr
              · exact dd_range R y hy
            have hval : val (X :: dd R) = rest0 (ab m) (ab n) j := by rw [HRJ.out, val, val_of_dd]
            have HDG := Hd.mk hDg
            have HVL := Hd.mk hval
            have HBW := Hd.mk hB2
            clear hown' hgrow hown2 h52 hDg hval hB2 hB hrow hSl r1 r3 c0 g1
            go_wp2_with fail
            refine (cut_any A5 c5 _ h51 _ HD5.out).mono ?_
            rintro e w2 ⟨⟨A6, rfl, hA6⟩, rfl⟩
            have hS6 := sl_cut (base := WQ.heap.size + 1) HD5.out HDG.out HVL.out h51 hA6 h53
            clear hA6 h53 h51 HD5
            obtain ⟨hr1, hr2, hr3⟩ := rest0_step (ab m) (ab n) j (by unfold ab; omega)
            have HR1 := Hd.mk hr1
            have HR3 := Hd.mk hr2
            have h0j := HR.out.2.2.2 j (by omega) (by omega)
            generalize (Value.slice A6 (strip (X :: dd R)).length c5) = v6 at *
            obtain ⟨R0, hR0⟩ : ∃ R0, rest0 (ab m) (ab n) j = R0 := ⟨_, rfl⟩
            have HRN := Hd.mk (q_next HR.out (by omega : j < la) (by unfold ab; omega))
            rw [hR0] at hS6 hr1 HR1 HR3 HRN
            clear hR0 hr2 hr3 HRJ HVL
            go_wp2
            go_loopw [11, 13] (fun rv kv wq => ∃ k : Nat, k ≤ 16 ∧ kv = .int .i64 ((k : Int) - 1) ∧ Below WQ.heap.size WQ wq ∧ RowAt wq WQ.heap.size (ds.set j ((R0 / (ab n * 2 ^ k) * 2 ^ k : Nat) : Int)) ∧ Sl (WQ.heap.size + 1) rv (R0 % (ab n * 2 ^ k)) wq) (fun _ kv _ => (intOf kv + 1).toNat)
            case atStart =>
              have hlt : R0 < ab n * 2 ^ 16 := by rw [Nat.mul_comm]; exact hr1
              refine ⟨16, Nat.le_refl _, rfl, HBW.out, ?_, ?_⟩
              · rw [Nat.div_eq_of_lt hlt, Nat.zero_mul, show ((0 : Nat) : Int) = 0 from rfl, set_same h0j]; exact hrow2
              · rw [Nat.mod_eq_of_lt hlt]; exact hS6
            case round =>
              clear hS6 hrow2 HBW
              obtain ⟨k, hk, rfl, hB, hrow, hSl⟩ := hrel
              have hlq := lt_of_block hrow
              match k, hk, hrow, hSl with
              | 0, hk, hrow, hSl =>
                rw [Nat.pow_zero, Nat.mul_one, Nat.mul_one] at hrow
                rw [Nat.pow_zero, Nat.mul_one, HR3.out] at hSl
                have HRW := Hd.mk hrow
                have HS8 := Hd.mk hSl
                have HB4 := Hd.mk hB
                clear hrow hSl hB
                go_wp2
                exact ⟨⟨j, _, by omega, rfl, HRN, HB4.out, HRW.out, HS8.out⟩, by simp [intOf]⟩
              | k + 1, hk, hrow, hSl =>
                rw [show ((k + 1 : Nat) : Int) - 1 = (k : Int) from by omega]
                have hge : decide ((k : Int) ≥ 0) = true := by simp
                have hki : (k : Int) < 16 := by omega
                obtain ⟨A7, c7, e7, h71, h72⟩ := HDD.out k (by omega)
                have e7 := (hB.cell (World.block_lt_of_cell? _ _ e7)).trans e7
                have H72 := Hd.mk (h72.below hB)
                obtain ⟨A8, c8, rfl, h81, h82, h83⟩ := hSl
                have H82 := Hd.mk h82
                have H83 := Hd.mk h83
                clear h72 h82 h83
                go_wp2_with fail
                refine (rmags_any _ _ A8 A7 c8 c7 h81 h71 _ H82.out H72.out).mono ?_
                rintro e w3 ⟨rfl, hb⟩
                have e8 := (hb.cell (World.block_lt_of_cell? _ _ e7)).trans e7
                have hrow3 : RowAt w3 WQ.heap.size _ := heap_below hb hrow
                have hB3 := below_on hB hb
                have HS8 : Hd (Sl (WQ.heap.size + 1) (.slice A8 (dd (R0 % (ab n * 2 ^ (k + 1)))).length c8) (R0 % (ab n * 2 ^ (k + 1))) w3) := ⟨⟨A8, c8, rfl, h81, H82.out.below hb, H83.out⟩⟩
                have H82 := Hd.mk (H82.out.below hb)
                have H72 := Hd.mk (H72.out.below hb)
                have hsz3 := hB3.size
                clear e7 hrow hB hb H83
                by_cases hle : ab n * 2 ^ k ≤ R0 % (ab n * 2 ^ (k + 1))
                · have hC : decide (cmpN (R0 % (ab n * 2 ^ (k + 1))) (ab n * 2 ^ k) ≥ 0) = true := by unfold cmpN; rw [if_neg (by omega)]; split <;> rfl
                  obtain ⟨hy1, hy2⟩ := dig_yes (R := R0) (k := k) (show 0 < ab n by unfold ab; omega) hle
                  have HY1 := Hd.mk hy1
                  have hq1 := dig_bound (k := k) HR1.out
                  rw [hy2] at hq1
                  have HY2 := Hd.mk hy2
                  have hl8 : (dd (R0 % (ab n * 2 ^ (k + 1)))).length ≤ 1000 := Nat.le_trans (dd_mono (Nat.le_of_lt (Nat.mod_lt _ (Nat.mul_pos (by unfold ab; omega) (Nat.two_pow_pos _))))) (HLJ.out (k + 1) (by omega))
                  have hl7 := HLJ.out k (by omega)
                  have HLE := Hd.mk hle
                  clear hy1 hy2 hle
                  go_wp2_with fail
                  refine (rless_any _ _ HLE.out A8 A7 c8 c7 h81 h71 hl8 hl7 _ H82.out H72.out).mono ?_
                  rintro e w4 ⟨v4, rfl, hS4, hb⟩
                  have hS5 := hS4.low (show WQ.heap.size + 1 ≤ w3.heap.size by have := lt_of_block hrow3; omega)
                  rw [← HY1.out] at hS5
                  have hrow4 : RowAt w4 WQ.heap.size _ := heap_below hb hrow3
                  have hB4 := below_on hB3 hb
                  have q4 := hrow4.cell (j := j) (List.getElem?_set_self (by rw [HR.out.1]; omega))
                  have f4 := frozen_at hrow4
                  have l4 := lt_of_block hrow4
                  have HS5 := Hd.mk hS5
                  have HRW := Hd.mk hrow4
                  have HB4 := Hd.mk hB4
                  obtain ⟨q0, hq0⟩ : ∃ q0, R0 / (ab n * 2 ^ (k + 1)) * 2 ^ (k + 1) = q0 := ⟨_, rfl⟩
                  rw [hq0] at q4 hq1 HRW HY2
                  clear hS4 hS5 hrow4 hB4 hB3 hrow3 e8 hC h81 h71 hq0 hb
                  have hw := add_bit q0 k hq1
                  go_wp2
                  refine ⟨⟨k, by omega, rfl, ?_, ?_, ?_⟩, by simp [intOf]⟩
                  · exact Below.setCell HB4.out (Nat.le_refl _) _
                  · rw [HY2.out]
                    have h9 := HRW.out.set j ((q0 + 2 ^ k : Nat) : Int)
                    rw [List.set_set] at h9
                    rw [show ((q0 + 2 ^ k : Nat) : Int) = (q0 : Int) + 2 ^ k from by rw [Int.natCast_add, Int.natCast_pow]; rfl] at h9 ⊢
                    exact h9
                  · exact HS5.out.set (Nat.lt_succ_self _) _ _
                · have hC : decide (cmpN (R0 % (ab n * 2 ^ (k + 1))) (ab n * 2 ^ k) ≥ 0) = false := by unfold cmpN; rw [if_pos (by omega)]; rfl
                  obtain ⟨hy1, hy2⟩ := dig_no (R := R0) (k := k) (show 0 < ab n by unfold ab; omega) hle
                  have HY1 := Hd.mk hy1
                  have HY2 := Hd.mk hy2
                  have HRW := Hd.mk hrow3
                  have HB4 := Hd.mk hB3
                  clear hy1 hy2 hle hrow3 hB3 e8 h81 h71
                  go_wp2
                  refine ⟨⟨k, by omega, rfl, HB4.out, ?_, ?_⟩, by simp [intOf]⟩
                  · rw [HY2.out]; exact HRW.out
                  · rw [HY1.out]; exact HS8.out
theorem rquo_any (m n : Int) (hy0 : n ≠ 0) (u v : Value) (hlx : (dd (ab m)).length ≤ 1000) (hly : (dd (ab n)).length ≤ 200) (w : World) (hu : BigAt w u m) (hv : BigAt w v n) :
    Calls Tryz.prog 143 #[u, v] w fun e w' => ∃ q r, e = .returned (.tuple #[q, r]) ∧ BigAt w' q (m.tdiv n) ∧ BigAt w' r (m.tmod n) ∧ Below w.heap.size w w' := by
  by_cases h1 : (dd (ab m)).length ≤ 3
  · by_cases h2 : (dd (ab n)).length ≤ 3
    · exact rquo_few m n hy0 u v h1 h2 w hu hv
    · exact rquo_many2 m n hy0 u v hlx hly h1 h2 w hu hv
  · exact rquo_many1 m n hy0 u v hlx hly h1 w hu hv
end Go.Proofs.YtfchmikbebdflaaGreatDoor

namespace Go.Proofs.YtfchmikbebdflaaGreatDoor
open Go.RowKit Go.BigFrame

/-- How far the search for what divides both has come. -/
def GInv (e i A B : Nat) : Prop := (i = 0 ∧ A * B < 2 ^ e) ∨ (1 ≤ i ∧ B ≤ A ∧ A * B * 2 ^ (i - 1) < 2 ^ e)
theorem g_first {k A B : Nat} (hA : A < 2 ^ k) (hB : B < 2 ^ k) : GInv (k + k) 0 A B :=
  .inl ⟨rfl, by rw [Nat.pow_add]; exact Nat.mul_lt_mul'' hA hB⟩
theorem g_start {A B : Nat} (hA : A < 2 ^ 256) (hB : B < 2 ^ 256) : ∃ e, e ≤ 512 ∧ GInv e 0 A B := ⟨256 + 256, by omega, g_first hA hB⟩
theorem g_bound {e i A B : Nat} (h : GInv e i A B) (hB : 0 < B) : i ≤ e := by
  rcases h with ⟨rfl, _⟩ | ⟨h1, h2, h3⟩
  · exact Nat.zero_le _
  · have h4 : 0 < A * B := Nat.mul_pos (by omega) hB
    have h5 : 2 ^ (i - 1) < 2 ^ e := Nat.lt_of_le_of_lt (Nat.le_mul_of_pos_left _ h4) h3
    have := (Nat.pow_lt_pow_iff_right (by decide : 1 < 2)).1 h5
    omega
theorem g_step {e i A B : Nat} (h : GInv e i A B) (hB : 0 < B) : GInv e (i + 1) B (A % B) := by
  refine .inr ⟨by omega, Nat.le_of_lt (Nat.mod_lt _ hB), ?_⟩
  rw [Nat.add_sub_cancel]
  rcases h with ⟨rfl, h2⟩ | ⟨h1, h2, h3⟩
  · rw [Nat.pow_zero, Nat.mul_one]
    exact Nat.lt_of_le_of_lt (by rw [Nat.mul_comm]; exact Nat.mul_le_mul_right _ (Nat.mod_le _ _)) h2
  · obtain ⟨j, rfl⟩ : ∃ j, i = j + 1 := ⟨i - 1, by omega⟩
    rw [Nat.add_sub_cancel] at h3
    refine Nat.lt_of_le_of_lt ?_ h3
    rw [Nat.pow_succ, Nat.mul_comm (2 ^ j) 2, ← Nat.mul_assoc]
    refine Nat.mul_le_mul_right _ ?_
    have h4 := Nat.mod_lt A hB
    have h5 := Nat.div_add_mod A B
    have h6 : 1 ≤ A / B := (Nat.le_div_iff_mul_le hB).2 (by omega)
    have h7 : B * 1 ≤ B * (A / B) := Nat.mul_le_mul_left _ h6
    rw [Nat.mul_assoc, Nat.mul_comm A B]
    exact Nat.mul_le_mul_left _ (by omega)
theorem len_pos {A : Nat} : 0 < (dd A).length ↔ A ≠ 0 := by
  constructor
  · rintro h rfl
    rw [dd_zero] at h
    exact absurd h (by simp)
  · intro h
    rw [dd_pos h]
    simp
theorem rof_abs (A : Nat) (C : Option Addr) (c : Nat) (hc : (dd A).length ≤ c) (w : World) (h : DigAt w C (dd A)) :
    Calls Tryz.prog 141 #[.bool false, .slice C (dd A).length c] w fun e w' => ∃ (D : Option Addr) (d : Nat), e = .returned (.agg #[.bool false, .slice D (dd A).length d]) ∧ (dd A).length ≤ d ∧ DigAt w' D (dd A) ∧ Below w.heap.size w w' := by
  refine (rof_any false C c _ hc (dd_range _) w h).mono ?_
  rintro e w' ⟨v, rfl, ⟨D, d, rfl, h1, h2⟩, hb⟩
  rw [val_of_dd, ng_zof, ab_zof] at *
  exact ⟨D, d, rfl, h1, h2, hb⟩
/-- A Big that is not below nought, in a block of its own. -/
def NatIn (W : World) (b A : Nat) : Prop :=
  ∃ (C : Option Addr) (c : Nat), W.heap[b]? = some (.cells #[.bool false, .slice C (dd A).length c] 123 (0, 0)) ∧ (dd A).length ≤ c ∧ DigAt W C (dd A)
theorem NatIn.below {W W1 : World} {b A : Nat} (h : NatIn W b A) (hb : Below W.heap.size W W1) : NatIn W1 b A := by
  obtain ⟨C, c, h1, h2, h3⟩ := h
  exact ⟨C, c, heap_below hb h1, h2, h3.below hb⟩
theorem nat_big {W : World} {C : Option Addr} {c P : Nat} (h : (dd P).length ≤ c) (hC : DigAt W C (dd P)) : BigAt W (.agg #[.bool false, .slice C (dd P).length c]) (P : Int) :=
  ⟨C, c, by rw [ng_nat, ab_nat], by rw [ab_nat]; exact h, by rw [ab_nat]; exact hC⟩
theorem big_nat {W : World} {v : Value} {P : Nat} (h : BigAt W v (P : Int)) : ∃ (C : Option Addr) (c : Nat), v = .agg #[.bool false, .slice C (dd P).length c] ∧ (dd P).length ≤ c ∧ DigAt W C (dd P) := by
  obtain ⟨C, c, h1, h2, h3⟩ := h
  rw [ng_nat, ab_nat] at h1
  rw [ab_nat] at h2 h3
  exact ⟨C, c, h1, h2, h3⟩
theorem two_laid {W : World} {b n0 m0 n1 m1 : Nat} {s0 s1 : Bool} {B0 B1 : Option Addr} {t : TypeId} (z0 : W.heap[b]? = some (.cells #[.bool s0, .slice B0 n0 m0] t (0, 0))) (z1 : W.heap[b + 1]? = some (.cells #[.bool s1, .slice B1 n1 m1] t (0, 0))) (v0 v1 v2 v3 : Value) :
    ((((W.setCell ⟨b, 0, none⟩ v0).setCell ⟨b, 1, none⟩ v1).setCell ⟨b + 1, 0, none⟩ v2).setCell ⟨b + 1, 1, none⟩ v3).heap[b]? = some (.cells #[v0, v1] t (0, 0)) ∧
    ((((W.setCell ⟨b, 0, none⟩ v0).setCell ⟨b, 1, none⟩ v1).setCell ⟨b + 1, 0, none⟩ v2).setCell ⟨b + 1, 1, none⟩ v3).heap[b + 1]? = some (.cells #[v2, v3] t (0, 0)) ∧
    (∀ A ds, DigAt W A ds → DigAt ((((W.setCell ⟨b, 0, none⟩ v0).setCell ⟨b, 1, none⟩ v1).setCell ⟨b + 1, 0, none⟩ v2).setCell ⟨b + 1, 1, none⟩ v3) A ds) ∧
    (∀ k o, k ≠ b → k ≠ b + 1 → W.heap[k]? = some o → ((((W.setCell ⟨b, 0, none⟩ v0).setCell ⟨b, 1, none⟩ v1).setCell ⟨b + 1, 0, none⟩ v2).setCell ⟨b + 1, 1, none⟩ v3).heap[k]? = some o) ∧
    (∀ n, n ≤ b → Below n W ((((W.setCell ⟨b, 0, none⟩ v0).setCell ⟨b, 1, none⟩ v1).setCell ⟨b + 1, 0, none⟩ v2).setCell ⟨b + 1, 1, none⟩ v3)) := by
  have y1 := heap_set_other (heap_set_other z1 (p := ⟨b, 0, none⟩) (by simp) v0) (p := ⟨b, 1, none⟩) (by simp) v1
  refine ⟨heap_set_other (heap_set_other (laid_both b W v0 v1 z0 rfl) (by simp) _) (by simp) _, laid_both _ _ _ _ y1 rfl, fun A ds h => (h.laid z0 v0 v1).laid y1 v2 v3, fun k o h1 h2 h => ?_, fun n hn => ?_⟩
  · exact heap_set_other (heap_set_other (heap_set_other (heap_set_other h h1 _) h1 _) h2 _) h2 _
  · exact ((((Below.refl _ _).setCell hn _).setCell hn _).setCell (by simp; omega) _).setCell (by simp; omega) _
set_option maxRecDepth 20000 in
set_option maxHeartbeats 4000000 in
theorem rgcd_any (m n : Int) (u v : Value) (hm : ab m < 2 ^ 256) (hn : ab n < 2 ^ 256) (w : World) (hu : BigAt w u m) (hv : BigAt w v n) :
    Calls Tryz.prog 117 #[u, v] w fun e w' => ∃ g, e = .returned g ∧ BigAt w' g ((Nat.gcd (ab m) (ab n) : Nat) : Int) ∧ Below w.heap.size w w' := by
  obtain ⟨A, c, rfl, hc, hA⟩ := hu
  obtain ⟨B, d, rfl, hd, hB⟩ := hv
  have HA := Hd.mk hA
  have HB := Hd.mk hB
  have HM := Hd.mk hm
  have HN := Hd.mk hn
  clear hA hB hm hn
  go_enter Tryz.func117, Tryz.ntmps117
  go_upto_region 1 with (fail)
  refine abs_wp (fun W => W.heap[w.heap.size]? = some (.cells #[.bool (ng m), .slice A (dd (ab m)).length c] 123 (0, 0)) ∧ W.heap[w.heap.size + 1]? = some (.cells #[.bool (ng n), .slice B (dd (ab n)).length d] 123 (0, 0)) ∧
    W.heap[w.heap.size + 1 + 1]? = some (.cells #[.bool false, .slice none 0 0] 123 (0, 0)) ∧ Below w.heap.size w W) ⟨heap_old (heap_old (heap_new _ _) _) _, heap_old (heap_at (by simp) _) _, heap_at (by simp) _, by focus (repeat (first | (with_reducible exact Below.refl _ _) | (with_reducible assumption) | ((with_reducible refine Below.setCell ?_ ?_ _); rotate_left; (focus (first | omega | (simp; done) | (simp; omega)))) | ((with_reducible refine Below.alloc ?_ ?_ _); rotate_left; (focus (first | omega | (simp; done) | (simp; omega)))) | (with_reducible refine Below.drew ?_) | (refine below_on ?_ (by assumption))))⟩ fun W ⟨y0, y1, y2, hB⟩ => ?_
  have hB0 : Below w.heap.size w W.drew := Below.drew hB
  have x0 : W.drew.heap[w.heap.size]? = some (.cells #[.bool (ng m), .slice A (dd (ab m)).length c] 123 (0, 0)) := y0
  have x1 : W.drew.heap[w.heap.size + 1]? = some (.cells #[.bool (ng n), .slice B (dd (ab n)).length d] 123 (0, 0)) := y1
  have x2 : W.drew.heap[w.heap.size + 1 + 1]? = some (.cells #[.bool false, .slice none 0 0] 123 (0, 0)) := y2
  have q0 := cell_at x0
  have q1 := cell_at x1
  clear y0 y1 y2 hB
  go_region_with
    ((first
      | (go_at_call 141; have hq := hV1; clear hq; refine (rof_abs (ab n) B d hd _ (HB.out.below hB1)).mono ?_; rintro e wb ⟨A2, c2, rfl, hV2, hD2, hb⟩; have z0 := heap_below hb z0; have z1 := heap_below hb z1; have z2 := heap_below hb z2; have hB2 := below_on hB1 hb; have p0 := cell_at z0; have p1 := cell_at z1; have f0 := frozen_at z0; have f1 := frozen_at z1; have hD1 := hD1.below hb; clear hb)
      | (go_at_call 141; refine (rof_abs (ab m) A c hc _ (HA.out.below hB0)).mono ?_; rintro e wa ⟨A1, c1, rfl, hV1, hD1, hb⟩; have z0 := heap_below hb x0; have z1 := heap_below hb x1; have z2 := heap_below hb x2; have hB1 := below_on hB0 hb; have p0 := cell_at z0; have p1 := cell_at z1; clear hb)))
  all_goals
    obtain ⟨l0, l1, l2, l3, l4⟩ := two_laid z0 z1 (.bool false) (.slice A1 (dd (ab m)).length c1) (.bool false) (.slice A2 (dd (ab n)).length c2)
    have HA1 : Hd (NatIn _ w.heap.size (ab m)) := ⟨⟨A1, c1, l0, hV1, l2 _ _ hD1⟩⟩
    have HA2 : Hd (NatIn _ (w.heap.size + 1) (ab n)) := ⟨⟨A2, c2, l1, hV2, l2 _ _ hD2⟩⟩
    have HRB := Hd.mk (l3 _ _ (by omega) (by omega) z2)
    have HB3 := Hd.mk (hB2.trans (l4 _ (Nat.le_refl _)))
    clear l0 l1 l2 l3 l4 z0 z1 z2 hB2 hB1 hB0 hD1 hD2 x0 x1 x2 q0 q1 p0 p1 f0 f1
    generalize (((wb.setCell ⟨w.heap.size, 0, none⟩ (.bool false)).setCell ⟨w.heap.size, 1, none⟩ (.slice A1 (dd (ab m)).length c1)).setCell ⟨w.heap.size + 1, 0, none⟩ (.bool false)).setCell ⟨w.heap.size + 1, 1, none⟩ (.slice A2 (dd (ab n)).length c2) = wz at *
    obtain ⟨e, he, hg⟩ := g_start HM.out HN.out
    have HG := Hd.mk hg
    clear hg
    go_wp2
    go_loopw [5] (fun iv wr => ∃ (i P Q : Nat), iv = .int .i64 i ∧ Hd (GInv e i P Q) ∧ Hd (Nat.gcd P Q = Nat.gcd (ab m) (ab n)) ∧ Hd (P < 2 ^ 256 ∧ Q < 2 ^ 256) ∧ i ≤ e + 1 ∧ NatIn wr w.heap.size P ∧ NatIn wr (w.heap.size + 1) Q ∧ wr.heap[w.heap.size + 1 + 1]? = some (.cells #[.bool false, .slice none 0 0] 123 (0, 0)) ∧ Below w.heap.size w wr) (fun iv _ => e + 1 - (intOf iv).toNat)
    case atStart => exact ⟨0, ab m, ab n, rfl, HG, ⟨rfl⟩, ⟨⟨HM.out, HN.out⟩⟩, by omega, HA1.out, HA2.out, HRB.out, HB3.out⟩
    case round =>
      clear HA1 HA2 HRB HB3 HG
      obtain ⟨i, P, Q, rfl, HG, HGG, HPQ, hie, ⟨C, c3, y0, h3, hC⟩, ⟨D, c4, y1, h4, hD⟩, y2, hB⟩ := hrel
      have q0 := cell_at y0
      have q1 := cell_at y1
      have hi2 : decide ((i : Int) < 2000) = true := by simp; omega
      have HC := Hd.mk hC
      have HD := Hd.mk hD
      have hsz := lt_of_block y2
      clear hC hD
      by_cases hQ : Q = 0
      · have hl0 : (dd Q).length = 0 := by rw [hQ, dd_zero]; rfl
        rw [hl0] at y1 q1
        have q2 := cell_at y2
        have f2 := frozen_at y2
        have HP : Hd (P = Nat.gcd (ab m) (ab n)) := ⟨by rw [← HGG.out, hQ, Nat.gcd_zero_right]⟩
        clear hQ hl0 hie h4
        go_wp2
        have z3 := laid_both (w.heap.size + 1 + 1) wr (.bool false) (.slice C (dd P).length c3) y2 rfl
        have hCC := HC.out.laid y2 (.bool false) (.slice C (dd P).length c3)
        have hBB : Below w.heap.size w ((wr.setCell ⟨w.heap.size + 1 + 1, 0, none⟩ (.bool false)).setCell ⟨w.heap.size + 1 + 1, 1, none⟩ (.slice C (dd P).length c3)) := by focus (repeat (first | (with_reducible exact Below.refl _ _) | (with_reducible assumption) | ((with_reducible refine Below.setCell ?_ ?_ _); rotate_left; (focus (first | omega | (simp; done) | (simp; omega)))) | ((with_reducible refine Below.alloc ?_ ?_ _); rotate_left; (focus (first | omega | (simp; done) | (simp; omega)))) | (with_reducible refine Below.drew ?_) | (refine below_on ?_ (by assumption))))
        have k3 := cell_at z3
        refine bodyPost_ret (by simp [results, Tryz.results117, go_sem, k3]; rfl) rfl ⟨_, rfl, ?_, hBB⟩
        rw [← HP.out]
        exact nat_big h3 hCC
      · have hle := g_bound HG.out (Nat.pos_of_ne_zero hQ)
        have hlen := len_pos.2 hQ
        have HG2 := Hd.mk (g_step HG.out (Nat.pos_of_ne_zero hQ))
        have hQi : (Q : Int) ≠ 0 := by omega
        have HQi := Hd.mk hQi
        have hlP : (dd P).length ≤ 16 := (dd_len16 _).2 HPQ.out.1
        have hlQ : (dd Q).length ≤ 16 := (dd_len16 _).2 HPQ.out.2
        clear hQ hQi
        go_wp2_with fail
        refine (rquo_any (P : Int) (Q : Int) HQi.out _ _ (by rw [ab_nat]; omega) (by rw [ab_nat]; omega) _ (nat_big h3 HC.out) (nat_big h4 HD.out)).mono ?_
        rintro e w2 ⟨qv, rv, rfl, ⟨Cq, cq, rfl, _, _⟩, hr, hb⟩
        rw [show Int.tmod (P : Int) (Q : Int) = ((P % Q : Nat) : Int) by rw [Int.tmod_eq_emod_of_nonneg (by omega), Int.natCast_emod]] at hr
        obtain ⟨Cr, cr, rfl, hr1, hr2⟩ := big_nat hr
        have z0 := heap_below hb y0
        have z1 := heap_below hb y1
        have z2 := heap_below hb y2
        have hB2 := below_on hB hb
        have hD2 := HD.out.below hb
        have HR2 := Hd.mk hr2
        have HD2 := Hd.mk hD2
        have hsz2 := lt_of_block z2
        clear hr hr2 hD2 hb y0 y1 y2 hB q0 q1 hsz
        go_upto_region 6 with (fail)
        refine abs_wp (fun W => W.heap[w.heap.size]? = some (.cells #[.bool false, .slice C (dd P).length c3] 123 (0, 0)) ∧ W.heap[w.heap.size + 1]? = some (.cells #[.bool false, .slice D (dd Q).length c4] 123 (0, 0)) ∧
          W.heap[w.heap.size + 1 + 1]? = some (.cells #[.bool false, .slice none 0 0] 123 (0, 0)) ∧ W.heap[w2.heap.size + 1]? = some (.cells #[.bool false, .slice Cr (dd (P % Q)).length cr] 123 (0, 0)) ∧ DigAt W D (dd Q) ∧ DigAt W Cr (dd (P % Q)) ∧ Below w.heap.size w W) ?_ fun W ⟨y0, y1, y2, y7, hD, hr2, hB⟩ => ?_
        · exact ⟨heap_old (heap_old z0 _) _, heap_old (heap_old z1 _) _, heap_old (heap_old z2 _) _, heap_at (by simp) _, HD2.out.below (by focus (repeat (first | (with_reducible exact Below.refl _ _) | (with_reducible assumption) | ((with_reducible refine Below.setCell ?_ ?_ _); rotate_left; (focus (first | omega | (simp; done) | (simp; omega)))) | ((with_reducible refine Below.alloc ?_ ?_ _); rotate_left; (focus (first | omega | (simp; done) | (simp; omega)))) | (with_reducible refine Below.drew ?_) | (refine below_on ?_ (by assumption))))), HR2.out.below (by focus (repeat (first | (with_reducible exact Below.refl _ _) | (with_reducible assumption) | ((with_reducible refine Below.setCell ?_ ?_ _); rotate_left; (focus (first | omega | (simp; done) | (simp; omega)))) | ((with_reducible refine Below.alloc ?_ ?_ _); rotate_left; (focus (first | omega | (simp; done) | (simp; omega)))) | (with_reducible refine Below.drew ?_) | (refine below_on ?_ (by assumption))))), by focus (repeat (first | (with_reducible exact Below.refl _ _) | (with_reducible assumption) | ((with_reducible refine Below.setCell ?_ ?_ _); rotate_left; (focus (first | omega | (simp; done) | (simp; omega)))) | ((with_reducible refine Below.alloc ?_ ?_ _); rotate_left; (focus (first | omega | (simp; done) | (simp; omega)))) | (with_reducible refine Below.drew ?_) | (refine below_on ?_ (by assumption))))⟩
        have t0 := cell_at y0
        have t1 := cell_at y1
        have t7 := cell_at y7
        have g0 := frozen_at y0
        have g1 := frozen_at y1
        have ln := lt_of_block y7
        have n0 : w.heap.size ≠ w2.heap.size + 1 := by omega
        have n1 : w.heap.size + 1 ≠ w2.heap.size + 1 := by omega
        have n2 : ¬ w2.heap.size + 1 = w.heap.size := by omega
        have n3 : ¬ w2.heap.size = w.heap.size := by omega
        have x0 : W.drew.heap[w.heap.size]? = some (.cells #[.bool false, .slice C (dd P).length c3] 123 (0, 0)) := y0
        have x1 : W.drew.heap[w.heap.size + 1]? = some (.cells #[.bool false, .slice D (dd Q).length c4] 123 (0, 0)) := y1
        have x2 : W.drew.heap[w.heap.size + 1 + 1]? = some (.cells #[.bool false, .slice none 0 0] 123 (0, 0)) := y2
        have x7 : W.drew.heap[w2.heap.size + 1]? = some (.cells #[.bool false, .slice Cr (dd (P % Q)).length cr] 123 (0, 0)) := y7
        have q0 := cell_at x0
        have q1 := cell_at x1
        have q7 := cell_at x7
        have f0 := frozen_at x0
        have f1 := frozen_at x1
        have HDB : Hd (DigAt W.drew D (dd Q)) := ⟨hD⟩
        have HRB : Hd (DigAt W.drew Cr (dd (P % Q))) := ⟨hr2⟩
        have hBd : Below w.heap.size w W.drew := Below.drew hB
        clear y0 y1 y2 y7 hD hr2 hB z0 z1 z2
        go_region_with (fail)
        all_goals
          obtain ⟨l0, l1, l2, l3, l4⟩ := two_laid x0 x1 (.bool false) (.slice D (dd Q).length c4) (.bool false) (.slice Cr (dd (P % Q)).length cr)
          have HN1 : Hd (NatIn _ w.heap.size Q) := ⟨⟨D, c4, l0, h4, l2 _ _ HDB.out⟩⟩
          have HN2 : Hd (NatIn _ (w.heap.size + 1) (P % Q)) := ⟨⟨Cr, cr, l1, hr1, l2 _ _ HRB.out⟩⟩
          have HR3 := Hd.mk (l3 _ _ (by omega) (by omega) x2)
          have HB4 := Hd.mk (hBd.trans (l4 _ (Nat.le_refl _)))
          clear l0 l1 l2 l3 l4 x0 x1 x2 x7 q0 q1 q7 f0 f1 t0 t1 t7 g0 g1 hBd HDB HRB
          go_wp2
          go_roundw
          case rel =>
            refine ⟨i + 1, Q, P % Q, by go_num, HG2, ⟨?_⟩, ⟨⟨HPQ.out.2, Nat.lt_of_le_of_lt (Nat.mod_le _ _) HPQ.out.1⟩⟩, by omega, HN1.out, HN2.out, HR3.out, HB4.out⟩
            rw [← HGG.out, Nat.gcd_comm, ← Nat.gcd_rec, Nat.gcd_comm]
          case measure => simp [intOf]; omega
end Go.Proofs.YtfchmikbebdflaaGreatDoor

namespace Go.Proofs.YtfchmikbebdflaaGreatDoor
open Go.RowKit Go.BigFrame

theorem lay_two {W : World} {N M : Nat} (zN : W.heap[N]? = some (.cells #[.bool false, .slice none 0 0] 123 (0, 0))) (zM : W.heap[M]? = some (.cells #[.bool false, .slice none 0 0] 123 (0, 0))) (hne : N ≠ M) {x y : Int} {A B : Option Addr} {c d : Nat}
    (h11 : (dd (ab x)).length ≤ c) (h12 : DigAt W A (dd (ab x))) (h21 : (dd (ab y)).length ≤ d) (h22 : DigAt W B (dd (ab y))) :
    BigIn ((((W.setCell ⟨N, 0, none⟩ (.bool (ng x))).setCell ⟨N, 1, none⟩ (.slice A (dd (ab x)).length c)).setCell ⟨M, 0, none⟩ (.bool (ng y))).setCell ⟨M, 1, none⟩ (.slice B (dd (ab y)).length d)) N x ∧
    BigIn ((((W.setCell ⟨N, 0, none⟩ (.bool (ng x))).setCell ⟨N, 1, none⟩ (.slice A (dd (ab x)).length c)).setCell ⟨M, 0, none⟩ (.bool (ng y))).setCell ⟨M, 1, none⟩ (.slice B (dd (ab y)).length d)) M y ∧
    ∀ n, n ≤ N → n ≤ M → Below n W ((((W.setCell ⟨N, 0, none⟩ (.bool (ng x))).setCell ⟨N, 1, none⟩ (.slice A (dd (ab x)).length c)).setCell ⟨M, 0, none⟩ (.bool (ng y))).setCell ⟨M, 1, none⟩ (.slice B (dd (ab y)).length d)) := by
  have y1 := heap_set_other (heap_set_other zM (p := ⟨N, 0, none⟩) (Ne.symm hne) (.bool (ng x))) (p := ⟨N, 1, none⟩) (Ne.symm hne) (.slice A (dd (ab x)).length c)
  exact ⟨⟨A, c, heap_set_other (heap_set_other (laid_both N W _ _ zN rfl) hne _) hne _, h11, (h12.laid zN _ _).laid y1 _ _⟩, ⟨B, d, laid_both _ _ _ _ y1 rfl, h21, (h22.laid zN _ _).laid y1 _ _⟩,
    fun n h1 h2 => ((((Below.refl _ _).setCell h1 _).setCell h1 _).setCell h2 _).setCell h2 _⟩
theorem lay_set_alloc {W : World} {N : Nat} (zN : W.heap[N]? = some (.cells #[.bool false, .slice none 0 0] 123 (0, 0))) {x y : Int} {A B : Option Addr} {c d : Nat}
    (h11 : (dd (ab x)).length ≤ c) (h12 : DigAt W A (dd (ab x))) (h21 : (dd (ab y)).length ≤ d) (h22 : DigAt W B (dd (ab y))) :
    BigIn (((W.setCell ⟨N, 0, none⟩ (.bool (ng x))).setCell ⟨N, 1, none⟩ (.slice A (dd (ab x)).length c)).alloc (.cells #[.bool (ng y), .slice B (dd (ab y)).length d] 123)) N x ∧
    BigIn (((W.setCell ⟨N, 0, none⟩ (.bool (ng x))).setCell ⟨N, 1, none⟩ (.slice A (dd (ab x)).length c)).alloc (.cells #[.bool (ng y), .slice B (dd (ab y)).length d] 123)) W.heap.size y ∧
    ∀ n, n ≤ N → Below n W (((W.setCell ⟨N, 0, none⟩ (.bool (ng x))).setCell ⟨N, 1, none⟩ (.slice A (dd (ab x)).length c)).alloc (.cells #[.bool (ng y), .slice B (dd (ab y)).length d] 123)) := by
  have hl := lt_of_block zN
  have hb : ∀ W' : World, ∀ o, Below W'.heap.size W' (W'.alloc o) := fun W' o => Below.alloc (Below.refl _ _) (Nat.le_refl _) o
  exact ⟨⟨A, c, heap_old (laid_both N W _ _ zN rfl) _, h11, (h12.laid zN _ _).below (hb _ _)⟩, ⟨B, d, heap_at (by simp) _, h21, (h22.laid zN _ _).below (hb _ _)⟩,
    fun n h1 => (((Below.refl _ _).setCell h1 _).setCell h1 _).alloc (by simp; omega) _⟩
theorem lay_alloc2 {W : World} {x y : Int} {A B : Option Addr} {c d : Nat}
    (h11 : (dd (ab x)).length ≤ c) (h12 : DigAt W A (dd (ab x))) (h21 : (dd (ab y)).length ≤ d) (h22 : DigAt W B (dd (ab y))) :
    BigIn ((W.alloc (.cells #[.bool (ng x), .slice A (dd (ab x)).length c] 123)).alloc (.cells #[.bool (ng y), .slice B (dd (ab y)).length d] 123)) W.heap.size x ∧
    BigIn ((W.alloc (.cells #[.bool (ng x), .slice A (dd (ab x)).length c] 123)).alloc (.cells #[.bool (ng y), .slice B (dd (ab y)).length d] 123)) (W.heap.size + 1) y ∧
    ∀ n, n ≤ W.heap.size → Below n W ((W.alloc (.cells #[.bool (ng x), .slice A (dd (ab x)).length c] 123)).alloc (.cells #[.bool (ng y), .slice B (dd (ab y)).length d] 123)) := by
  have hb : ∀ W' : World, ∀ o, Below W'.heap.size W' (W'.alloc o) := fun W' o => Below.alloc (Below.refl _ _) (Nat.le_refl _) o
  exact ⟨⟨A, c, heap_old (heap_new _ _) _, h11, (h12.below (hb _ _)).below (hb _ _)⟩, ⟨B, d, heap_at (by simp) _, h21, (h22.below (hb _ _)).below (hb _ _)⟩,
    fun n h1 => ((Below.refl _ _).alloc h1 _).alloc (by simp; omega) _⟩
theorem heap_two (W : World) (o o' : Obj) : ((W.alloc o).alloc o').heap[W.heap.size + 1]? = some o' := heap_at (by simp) _
/-- A region's post that forgets how it came about. -/
theorem region_abs {P : Program} {id : Nat} {ops : Array Oper} {dr : Bool} {Q : Exit → Act → World → Prop} {a : Act} {w : World} (Qr : Act → Act → World → Prop)
    (h1 : (Code.region id ops dr).wp P (fun ex a' w' => ex = .normal ∧ Qr a a' w') a w) (h2 : ∀ a' w', Qr a a' w' → Q .normal a' w') : (Code.region id ops dr).wp P Q a w :=
  Code.wp_mono (fun ex a' w' h => by obtain ⟨rfl, h⟩ := h; exact h2 a' w' h) h1
end Go.Proofs.YtfchmikbebdflaaGreatDoor
