/-
  Walks of the references: Gcd. Conditions stand in each theorem.
-/
import Derived.Test.YtbhfnfokihdjjaaGreatDoorRf17
import Derived.Test.YtbhfnfokihdjjaaGreatDoorSu1
namespace Go.Proofs.YtbhfnfokihdjjaaGreatDoor
open Go.RowKit Go.BigFrame

/-- How far the search for what divides both has come. -/
def GInv (e i A B : Nat) : Prop := (i = 0 ∧ A * B < 2 ^ e) ∨ (1 ≤ i ∧ B ≤ A ∧ A * B * 2 ^ (i - 1) < 2 ^ e)
theorem g_first {k A B : Nat} (hA : A < 2 ^ k) (hB : B < 2 ^ k) : GInv (k + k) 0 A B :=
  .inl ⟨rfl, by rw [Nat.pow_add]; exact Nat.mul_lt_mul'' hA hB⟩
theorem g_start {A B : Nat} (hA : A < 2 ^ 256) (hB : B < 2 ^ 256) : ∃ e, e ≤ 512 ∧ GInv e 0 A B := ⟨256 + 256, by omega, g_first hA hB⟩
theorem g_bound {e i A B : Nat} (h : GInv e i A B) (hB : 0 < B) : i ≤ e := by
  rcases h with ⟨rfl, _⟩ | ⟨h1, h2, h3⟩
  · exact Nat.zero_le _
  · have h4 : 0 < A * B := Nat.mul_pos (by omega) hB
    have h5 : 2 ^ (i - 1) < 2 ^ e := Nat.lt_of_le_of_lt (Nat.le_mul_of_pos_left _ h4) h3
    have := (Nat.pow_lt_pow_iff_right (by decide : 1 < 2)).1 h5
    omega
theorem g_step {e i A B : Nat} (h : GInv e i A B) (hB : 0 < B) : GInv e (i + 1) B (A % B) := by
  refine .inr ⟨by omega, Nat.le_of_lt (Nat.mod_lt _ hB), ?_⟩
  rw [Nat.add_sub_cancel]
  rcases h with ⟨rfl, h2⟩ | ⟨h1, h2, h3⟩
  · rw [Nat.pow_zero, Nat.mul_one]
    exact Nat.lt_of_le_of_lt (by rw [Nat.mul_comm]; exact Nat.mul_le_mul_right _ (Nat.mod_le _ _)) h2
  · obtain ⟨j, rfl⟩ : ∃ j, i = j + 1 := ⟨i - 1, by omega⟩
    rw [Nat.add_sub_cancel] at h3
    refine Nat.lt_of_le_of_lt ?_ h3
    rw [Nat.pow_succ, Nat.mul_comm (2 ^ j) 2, ← Nat.mul_assoc]
    refine Nat.mul_le_mul_right _ ?_
    have h4 := Nat.mod_lt A hB
    have h5 := Nat.div_add_mod A B
    have h6 : 1 ≤ A / B := (Nat.le_div_iff_mul_le hB).2 (by omega)
    have h7 : B * 1 ≤ B * (A / B) := Nat.mul_le_mul_left _ h6
    rw [Nat.mul_assoc, Nat.mul_comm A B]
    exact Nat.mul_le_mul_left _ (by omega)
theorem len_pos {A : Nat} : 0 < (dd A).length ↔ A ≠ 0 := by
  constructor
  · rintro h rfl
    rw [dd_zero] at h
    exact absurd h (by simp)
  · intro h
    rw [dd_pos h]
    simp
theorem rof_abs (A : Nat) (C : Option Addr) (c : Nat) (hc : (dd A).length ≤ c) (w : World) (h : DigAt w C (dd A)) :
    Calls Tryz.prog 100 #[.bool false, .slice C (dd A).length c] w fun e w' => ∃ (D : Option Addr) (d : Nat), e = .returned (.agg #[.bool false, .slice D (dd A).length d]) ∧ (dd A).length ≤ d ∧ DigAt w' D (dd A) ∧ Below w.heap.size w w' := by
  refine (rof_any false C c _ hc (dd_range _) w h).mono ?_
  rintro e w' ⟨v, rfl, ⟨D, d, rfl, h1, h2⟩, hb⟩
  rw [val_of_dd, ng_zof, ab_zof] at *
  exact ⟨D, d, rfl, h1, h2, hb⟩
/-- A Big that is not below nought, in a block of its own. -/
def NatIn (W : World) (b A : Nat) : Prop :=
  ∃ (C : Option Addr) (c : Nat), W.heap[b]? = some (.cells #[.bool false, .slice C (dd A).length c] 53 (0, 0)) ∧ (dd A).length ≤ c ∧ DigAt W C (dd A)
theorem NatIn.below {W W1 : World} {b A : Nat} (h : NatIn W b A) (hb : Below W.heap.size W W1) : NatIn W1 b A := by
  obtain ⟨C, c, h1, h2, h3⟩ := h
  exact ⟨C, c, heap_below hb h1, h2, h3.below hb⟩
theorem nat_big {W : World} {C : Option Addr} {c P : Nat} (h : (dd P).length ≤ c) (hC : DigAt W C (dd P)) : BigAt W (.agg #[.bool false, .slice C (dd P).length c]) (P : Int) :=
  ⟨C, c, by rw [ng_nat, ab_nat], by rw [ab_nat]; exact h, by rw [ab_nat]; exact hC⟩
theorem big_nat {W : World} {v : Value} {P : Nat} (h : BigAt W v (P : Int)) : ∃ (C : Option Addr) (c : Nat), v = .agg #[.bool false, .slice C (dd P).length c] ∧ (dd P).length ≤ c ∧ DigAt W C (dd P) := by
  obtain ⟨C, c, h1, h2, h3⟩ := h
  rw [ng_nat, ab_nat] at h1
  rw [ab_nat] at h2 h3
  exact ⟨C, c, h1, h2, h3⟩
theorem two_laid {W : World} {b n0 m0 n1 m1 : Nat} {s0 s1 : Bool} {B0 B1 : Option Addr} {t : TypeId} (z0 : W.heap[b]? = some (.cells #[.bool s0, .slice B0 n0 m0] t (0, 0))) (z1 : W.heap[b + 1]? = some (.cells #[.bool s1, .slice B1 n1 m1] t (0, 0))) (v0 v1 v2 v3 : Value) :
    ((((W.setCell ⟨b, 0, none⟩ v0).setCell ⟨b, 1, none⟩ v1).setCell ⟨b + 1, 0, none⟩ v2).setCell ⟨b + 1, 1, none⟩ v3).heap[b]? = some (.cells #[v0, v1] t (0, 0)) ∧
    ((((W.setCell ⟨b, 0, none⟩ v0).setCell ⟨b, 1, none⟩ v1).setCell ⟨b + 1, 0, none⟩ v2).setCell ⟨b + 1, 1, none⟩ v3).heap[b + 1]? = some (.cells #[v2, v3] t (0, 0)) ∧
    (∀ A ds, DigAt W A ds → DigAt ((((W.setCell ⟨b, 0, none⟩ v0).setCell ⟨b, 1, none⟩ v1).setCell ⟨b + 1, 0, none⟩ v2).setCell ⟨b + 1, 1, none⟩ v3) A ds) ∧
    (∀ k o, k ≠ b → k ≠ b + 1 → W.heap[k]? = some o → ((((W.setCell ⟨b, 0, none⟩ v0).setCell ⟨b, 1, none⟩ v1).setCell ⟨b + 1, 0, none⟩ v2).setCell ⟨b + 1, 1, none⟩ v3).heap[k]? = some o) ∧
    (∀ n, n ≤ b → Below n W ((((W.setCell ⟨b, 0, none⟩ v0).setCell ⟨b, 1, none⟩ v1).setCell ⟨b + 1, 0, none⟩ v2).setCell ⟨b + 1, 1, none⟩ v3)) := by
  have y1 := heap_set_other (heap_set_other z1 (p := ⟨b, 0, none⟩) (by simp) v0) (p := ⟨b, 1, none⟩) (by simp) v1
  refine ⟨heap_set_other (heap_set_other (laid_both b W v0 v1 z0 rfl) (by simp) _) (by simp) _, laid_both _ _ _ _ y1 rfl, fun A ds h => (h.laid z0 v0 v1).laid y1 v2 v3, fun k o h1 h2 h => ?_, fun n hn => ?_⟩
  · exact heap_set_other (heap_set_other (heap_set_other (heap_set_other h h1 _) h1 _) h2 _) h2 _
  · exact ((((Below.refl _ _).setCell hn _).setCell hn _).setCell (by simp; omega) _).setCell (by simp; omega) _
set_option maxRecDepth 20000 in
set_option maxHeartbeats 4000000 in
theorem rgcd_any (m n : Int) (u v : Value) (hm : ab m < 2 ^ 256) (hn : ab n < 2 ^ 256) (w : World) (hu : BigAt w u m) (hv : BigAt w v n) :
    Calls Tryz.prog 78 #[u, v] w fun e w' => ∃ g, e = .returned g ∧ BigAt w' g ((Nat.gcd (ab m) (ab n) : Nat) : Int) ∧ Below w.heap.size w w' := by
  obtain ⟨A, c, rfl, hc, hA⟩ := hu
  obtain ⟨B, d, rfl, hd, hB⟩ := hv
  have HA := Hd.mk hA
  have HB := Hd.mk hB
  have HM := Hd.mk hm
  have HN := Hd.mk hn
  clear hA hB hm hn
  go_enter Tryz.func78, Tryz.ntmps78
  go_upto_region 1 with (fail)
  refine abs_wp (fun W => W.heap[w.heap.size]? = some (.cells #[.bool (ng m), .slice A (dd (ab m)).length c] 53 (0, 0)) ∧ W.heap[w.heap.size + 1]? = some (.cells #[.bool (ng n), .slice B (dd (ab n)).length d] 53 (0, 0)) ∧
    W.heap[w.heap.size + 1 + 1]? = some (.cells #[.bool false, .slice none 0 0] 53 (0, 0)) ∧ Below w.heap.size w W) ⟨heap_old (heap_old (heap_new _ _) _) _, heap_old (heap_at (by simp) _) _, heap_at (by simp) _, by focus (repeat (first | (with_reducible exact Below.refl _ _) | (with_reducible assumption) | ((with_reducible refine Below.setCell ?_ ?_ _); rotate_left; (focus (first | omega | (simp; done) | (simp; omega)))) | ((with_reducible refine Below.alloc ?_ ?_ _); rotate_left; (focus (first | omega | (simp; done) | (simp; omega)))) | (with_reducible refine Below.drew ?_) | (refine below_on ?_ (by assumption))))⟩ fun W ⟨y0, y1, y2, hB⟩ => ?_
  have hB0 : Below w.heap.size w W.drew := Below.drew hB
  have x0 : W.drew.heap[w.heap.size]? = some (.cells #[.bool (ng m), .slice A (dd (ab m)).length c] 53 (0, 0)) := y0
  have x1 : W.drew.heap[w.heap.size + 1]? = some (.cells #[.bool (ng n), .slice B (dd (ab n)).length d] 53 (0, 0)) := y1
  have x2 : W.drew.heap[w.heap.size + 1 + 1]? = some (.cells #[.bool false, .slice none 0 0] 53 (0, 0)) := y2
  have q0 := cell_at x0
  have q1 := cell_at x1
  clear y0 y1 y2 hB
  go_region_with
    ((first
      | (go_at_call 100; have hq := hV1; clear hq; refine (rof_abs (ab n) B d hd _ (HB.out.below hB1)).mono ?_; rintro e wb ⟨A2, c2, rfl, hV2, hD2, hb⟩; have z0 := heap_below hb z0; have z1 := heap_below hb z1; have z2 := heap_below hb z2; have hB2 := below_on hB1 hb; have p0 := cell_at z0; have p1 := cell_at z1; have f0 := frozen_at z0; have f1 := frozen_at z1; have hD1 := hD1.below hb; clear hb)
      | (go_at_call 100; refine (rof_abs (ab m) A c hc _ (HA.out.below hB0)).mono ?_; rintro e wa ⟨A1, c1, rfl, hV1, hD1, hb⟩; have z0 := heap_below hb x0; have z1 := heap_below hb x1; have z2 := heap_below hb x2; have hB1 := below_on hB0 hb; have p0 := cell_at z0; have p1 := cell_at z1; clear hb)))
  all_goals
    obtain ⟨l0, l1, l2, l3, l4⟩ := two_laid z0 z1 (.bool false) (.slice A1 (dd (ab m)).length c1) (.bool false) (.slice A2 (dd (ab n)).length c2)
    have HA1 : Hd (NatIn _ w.heap.size (ab m)) := ⟨⟨A1, c1, l0, hV1, l2 _ _ hD1⟩⟩
    have HA2 : Hd (NatIn _ (w.heap.size + 1) (ab n)) := ⟨⟨A2, c2, l1, hV2, l2 _ _ hD2⟩⟩
    have HRB := Hd.mk (l3 _ _ (by omega) (by omega) z2)
    have HB3 := Hd.mk (hB2.trans (l4 _ (Nat.le_refl _)))
    clear l0 l1 l2 l3 l4 z0 z1 z2 hB2 hB1 hB0 hD1 hD2 x0 x1 x2 q0 q1 p0 p1 f0 f1
    generalize (((wb.setCell ⟨w.heap.size, 0, none⟩ (.bool false)).setCell ⟨w.heap.size, 1, none⟩ (.slice A1 (dd (ab m)).length c1)).setCell ⟨w.heap.size + 1, 0, none⟩ (.bool false)).setCell ⟨w.heap.size + 1, 1, none⟩ (.slice A2 (dd (ab n)).length c2) = wz at *
    obtain ⟨e, he, hg⟩ := g_start HM.out HN.out
    have HG := Hd.mk hg
    clear hg
    go_wp2
    go_loopw [5] (fun iv wr => ∃ (i P Q : Nat), iv = .int .i64 i ∧ Hd (GInv e i P Q) ∧ Hd (Nat.gcd P Q = Nat.gcd (ab m) (ab n)) ∧ Hd (P < 2 ^ 256 ∧ Q < 2 ^ 256) ∧ i ≤ e + 1 ∧ NatIn wr w.heap.size P ∧ NatIn wr (w.heap.size + 1) Q ∧ wr.heap[w.heap.size + 1 + 1]? = some (.cells #[.bool false, .slice none 0 0] 53 (0, 0)) ∧ Below w.heap.size w wr) (fun iv _ => e + 1 - (intOf iv).toNat)
    case atStart => exact ⟨0, ab m, ab n, rfl, HG, ⟨rfl⟩, ⟨⟨HM.out, HN.out⟩⟩, by omega, HA1.out, HA2.out, HRB.out, HB3.out⟩
    case round =>
      clear HA1 HA2 HRB HB3 HG
      obtain ⟨i, P, Q, rfl, HG, HGG, HPQ, hie, ⟨C, c3, y0, h3, hC⟩, ⟨D, c4, y1, h4, hD⟩, y2, hB⟩ := hrel
      have q0 := cell_at y0
      have q1 := cell_at y1
      have hi2 : decide ((i : Int) < 2000) = true := by simp; omega
      have HC := Hd.mk hC
      have HD := Hd.mk hD
      have hsz := lt_of_block y2
      clear hC hD
      by_cases hQ : Q = 0
      · have hl0 : (dd Q).length = 0 := by rw [hQ, dd_zero]; rfl
        rw [hl0] at y1 q1
        have q2 := cell_at y2
        have f2 := frozen_at y2
        have HP : Hd (P = Nat.gcd (ab m) (ab n)) := ⟨by rw [← HGG.out, hQ, Nat.gcd_zero_right]⟩
        clear hQ hl0 hie h4
        go_wp2
        have z3 := laid_both (w.heap.size + 1 + 1) wr (.bool false) (.slice C (dd P).length c3) y2 rfl
        have hCC := HC.out.laid y2 (.bool false) (.slice C (dd P).length c3)
        have hBB : Below w.heap.size w ((wr.setCell ⟨w.heap.size + 1 + 1, 0, none⟩ (.bool false)).setCell ⟨w.heap.size + 1 + 1, 1, none⟩ (.slice C (dd P).length c3)) := by focus (repeat (first | (with_reducible exact Below.refl _ _) | (with_reducible assumption) | ((with_reducible refine Below.setCell ?_ ?_ _); rotate_left; (focus (first | omega | (simp; done) | (simp; omega)))) | ((with_reducible refine Below.alloc ?_ ?_ _); rotate_left; (focus (first | omega | (simp; done) | (simp; omega)))) | (with_reducible refine Below.drew ?_) | (refine below_on ?_ (by assumption))))
        have k3 := cell_at z3
        refine bodyPost_ret (by simp [results, Tryz.results78, go_sem, k3]; rfl) rfl ⟨_, rfl, ?_, hBB⟩
        rw [← HP.out]
        exact nat_big h3 hCC
      · have hle := g_bound HG.out (Nat.pos_of_ne_zero hQ)
        have hlen := len_pos.2 hQ
        have HG2 := Hd.mk (g_step HG.out (Nat.pos_of_ne_zero hQ))
        have hQi : (Q : Int) ≠ 0 := by omega
        have HQi := Hd.mk hQi
        have hlP : (dd P).length ≤ 16 := (dd_len16 _).2 HPQ.out.1
        have hlQ : (dd Q).length ≤ 16 := (dd_len16 _).2 HPQ.out.2
        clear hQ hQi
        go_wp2_with fail
        refine (rquo_any (P : Int) (Q : Int) HQi.out _ _ (by rw [ab_nat]; omega) (by rw [ab_nat]; omega) _ (nat_big h3 HC.out) (nat_big h4 HD.out)).mono ?_
        rintro e w2 ⟨qv, rv, rfl, ⟨Cq, cq, rfl, _, _⟩, hr, hb⟩
        rw [show Int.tmod (P : Int) (Q : Int) = ((P % Q : Nat) : Int) by rw [Int.tmod_eq_emod_of_nonneg (by omega), Int.natCast_emod]] at hr
        obtain ⟨Cr, cr, rfl, hr1, hr2⟩ := big_nat hr
        have z0 := heap_below hb y0
        have z1 := heap_below hb y1
        have z2 := heap_below hb y2
        have hB2 := below_on hB hb
        have hD2 := HD.out.below hb
        have HR2 := Hd.mk hr2
        have HD2 := Hd.mk hD2
        have hsz2 := lt_of_block z2
        clear hr hr2 hD2 hb y0 y1 y2 hB q0 q1 hsz
        go_upto_region 6 with (fail)
        refine abs_wp (fun W => W.heap[w.heap.size]? = some (.cells #[.bool false, .slice C (dd P).length c3] 53 (0, 0)) ∧ W.heap[w.heap.size + 1]? = some (.cells #[.bool false, .slice D (dd Q).length c4] 53 (0, 0)) ∧
          W.heap[w.heap.size + 1 + 1]? = some (.cells #[.bool false, .slice none 0 0] 53 (0, 0)) ∧ W.heap[w2.heap.size + 1]? = some (.cells #[.bool false, .slice Cr (dd (P % Q)).length cr] 53 (0, 0)) ∧ DigAt W D (dd Q) ∧ DigAt W Cr (dd (P % Q)) ∧ Below w.heap.size w W) ?_ fun W ⟨y0, y1, y2, y7, hD, hr2, hB⟩ => ?_
        · exact ⟨heap_old (heap_old z0 _) _, heap_old (heap_old z1 _) _, heap_old (heap_old z2 _) _, heap_at (by simp) _, HD2.out.below (by focus (repeat (first | (with_reducible exact Below.refl _ _) | (with_reducible assumption) | ((with_reducible refine Below.setCell ?_ ?_ _); rotate_left; (focus (first | omega | (simp; done) | (simp; omega)))) | ((with_reducible refine Below.alloc ?_ ?_ _); rotate_left; (focus (first | omega | (simp; done) | (simp; omega)))) | (with_reducible refine Below.drew ?_) | (refine below_on ?_ (by assumption))))), HR2.out.below (by focus (repeat (first | (with_reducible exact Below.refl _ _) | (with_reducible assumption) | ((with_reducible refine Below.setCell ?_ ?_ _); rotate_left; (focus (first | omega | (simp; done) | (simp; omega)))) | ((with_reducible refine Below.alloc ?_ ?_ _); rotate_left; (focus (first | omega | (simp; done) | (simp; omega)))) | (with_reducible refine Below.drew ?_) | (refine below_on ?_ (by assumption))))), by focus (repeat (first | (with_reducible exact Below.refl _ _) | (with_reducible assumption) | ((with_reducible refine Below.setCell ?_ ?_ _); rotate_left; (focus (first | omega | (simp; done) | (simp; omega)))) | ((with_reducible refine Below.alloc ?_ ?_ _); rotate_left; (focus (first | omega | (simp; done) | (simp; omega)))) | (with_reducible refine Below.drew ?_) | (refine below_on ?_ (by assumption))))⟩
        have t0 := cell_at y0
        have t1 := cell_at y1
        have t7 := cell_at y7
        have g0 := frozen_at y0
        have g1 := frozen_at y1
        have ln := lt_of_block y7
        have n0 : w.heap.size ≠ w2.heap.size + 1 := by omega
        have n1 : w.heap.size + 1 ≠ w2.heap.size + 1 := by omega
        have n2 : ¬ w2.heap.size + 1 = w.heap.size := by omega
        have n3 : ¬ w2.heap.size = w.heap.size := by omega
        have x0 : W.drew.heap[w.heap.size]? = some (.cells #[.bool false, .slice C (dd P).length c3] 53 (0, 0)) := y0
        have x1 : W.drew.heap[w.heap.size + 1]? = some (.cells #[.bool false, .slice D (dd Q).length c4] 53 (0, 0)) := y1
        have x2 : W.drew.heap[w.heap.size + 1 + 1]? = some (.cells #[.bool false, .slice none 0 0] 53 (0, 0)) := y2
        have x7 : W.drew.heap[w2.heap.size + 1]? = some (.cells #[.bool false, .slice Cr (dd (P % Q)).length cr] 53 (0, 0)) := y7
        have q0 := cell_at x0
        have q1 := cell_at x1
        have q7 := cell_at x7
        have f0 := frozen_at x0
        have f1 := frozen_at x1
        have HDB : Hd (DigAt W.drew D (dd Q)) := ⟨hD⟩
        have HRB : Hd (DigAt W.drew Cr (dd (P % Q))) := ⟨hr2⟩
        have hBd : Below w.heap.size w W.drew := Below.drew hB
        clear y0 y1 y2 y7 hD hr2 hB z0 z1 z2
        go_region_with (fail)
        all_goals
          obtain ⟨l0, l1, l2, l3, l4⟩ := two_laid x0 x1 (.bool false) (.slice D (dd Q).length c4) (.bool false) (.slice Cr (dd (P % Q)).length cr)
          have HN1 : Hd (NatIn _ w.heap.size Q) := ⟨⟨D, c4, l0, h4, l2 _ _ HDB.out⟩⟩
          have HN2 : Hd (NatIn _ (w.heap.size + 1) (P % Q)) := ⟨⟨Cr, cr, l1, hr1, l2 _ _ HRB.out⟩⟩
          have HR3 := Hd.mk (l3 _ _ (by omega) (by omega) x2)
          have HB4 := Hd.mk (hBd.trans (l4 _ (Nat.le_refl _)))
          clear l0 l1 l2 l3 l4 x0 x1 x2 x7 q0 q1 q7 f0 f1 t0 t1 t7 g0 g1 hBd HDB HRB
          go_wp2
          go_roundw
          case rel =>
            refine ⟨i + 1, Q, P % Q, by go_num, HG2, ⟨?_⟩, ⟨⟨HPQ.out.2, Nat.lt_of_le_of_lt (Nat.mod_le _ _) HPQ.out.1⟩⟩, by omega, HN1.out, HN2.out, HR3.out, HB4.out⟩
            rw [← HGG.out, Nat.gcd_comm, ← Nat.gcd_rec, Nat.gcd_comm]
          case measure => simp [intOf]; omega
end Go.Proofs.YtbhfnfokihdjjaaGreatDoor
