/-
  Walks of the references: Quo. Conditions stand in each theorem.
-/
import Derived.Test.YteibcklcegkbcaaRf15
namespace Go.Proofs.Yteibcklcegkbcaa
open Go.RowKit Go.BigFrame

theorem Sl.below {base : Nat} {v : Value} {n : Nat} {W W1 : World} (h : Sl base v n W) (hb : Below W.heap.size W W1) : Sl base v n W1 := by
  obtain ⟨A, c, h1, h2, h3, h4⟩ := h
  exact ⟨A, c, h1, h2, h3.below hb, h4⟩
theorem Sl.low {base b : Nat} {v : Value} {n : Nat} {W : World} (h : Sl base v n W) (hb : b ≤ base) : Sl b v n W := by
  obtain ⟨A, c, h1, h2, h3, h4⟩ := h
  exact ⟨A, c, h1, h2, h3, fun h0 a ha => Nat.le_trans hb (h4 h0 a ha)⟩
theorem cell_grown {W W1 : World} {row : Option Nat} (hg : W.grownBy W1 row) {b o : Nat} (hb : b < W.heap.size) (hne : some b ≠ row) : W1.cell? ⟨b, o, none⟩ = W.cell? ⟨b, o, none⟩ := by
  have h := hg.block b hb hne
  unfold World.cell?
  simp only [h]
theorem Sl.grown {base : Nat} {v : Value} {n : Nat} {W W1 : World} {row : Option Nat} (h : Sl base v n W) (hg : W.grownBy W1 row) (hne : v.ownBlock ≠ row) : Sl base v n W1 := by
  obtain ⟨A, c, rfl, h2, h3, h4⟩ := h
  refine ⟨A, c, rfl, h2, ⟨h3.1, fun h0 => ?_⟩, h4⟩
  obtain ⟨b, off, rfl, hc⟩ := h3.2 h0
  refine ⟨b, off, rfl, fun k x hk => ?_⟩
  have h5 := hc k x hk
  rw [cell_grown hg (World.block_lt_of_cell? _ _ h5) hne]
  exact h5
theorem Sl.lt {base : Nat} {v : Value} {n : Nat} {W : World} (h : Sl base v n W) (hn : 0 < n) : ∃ b, v.ownBlock = some b ∧ base ≤ b ∧ b < W.heap.size := by
  obtain ⟨A, c, rfl, h2, h3, h4⟩ := h
  have h0 : 0 < (dd n).length := by
    rcases Nat.eq_zero_or_pos (dd n).length with h | h
    · have := (dd_len 0 n).1 (by omega)
      simp at this
      omega
    · exact h
  obtain ⟨b, off, rfl, hc⟩ := h3.2 h0
  exact ⟨b, rfl, h4 h0 _ rfl, World.block_lt_of_cell? _ _ (hc 0 _ (List.getElem?_eq_getElem h0))⟩
theorem QuoW.grown {x y : Int} {A B : Option Addr} {c d : Nat} {w W W1 : World} {row : Option Nat} (h : QuoW x y A B c d w W) (hg : W.grownBy W1 row) (hr : ∀ k, row = some k → w.heap.size + 1 + 1 + 1 + 1 ≤ k) : QuoW x y A B c d w W1 := by
  have hs := lt_of_block h.2.2.2.1
  have hne : ∀ k, k < w.heap.size + 1 + 1 + 1 + 1 → some k ≠ row := fun k hk e => by have := hr k e.symm; omega
  exact ⟨(hg.block _ (by omega) (hne _ (by omega))).trans h.1, (hg.block _ (by omega) (hne _ (by omega))).trans h.2.1, (hg.block _ (by omega) (hne _ (by omega))).trans h.2.2.1, (hg.block _ hs (hne _ (by omega))).trans h.2.2.2.1,
    h.2.2.2.2.trans (below_grown hg (fun k hk => by have := hr k hk; omega) (by omega))⟩
/-- The doubles of n, k of them, in a row of slices. -/
def Dbl (base n : Nat) (v : Value) (k : Nat) (W : World) : Prop :=
  ∃ vs : List Value, W.ownsRow base 36 1 v k vs ∧ ∀ j u, vs[j]? = some u → Sl 0 u (n * 2 ^ j) W ∧ u.ownBlock ≠ v.ownBlock
/-- The sixteen doubles of n, read. -/
def DblAt (n g : Nat) (W : World) : Prop :=
  ∀ j, j < 16 → ∃ (A : Option Addr) (c : Nat), W.cell? ⟨g, j, none⟩ = some (.slice A (dd (n * 2 ^ j)).length c) ∧ (dd (n * 2 ^ j)).length ≤ c ∧ DigAt W A (dd (n * 2 ^ j))
theorem DblAt.below {n g : Nat} {W W1 : World} (h : DblAt n g W) (hb : Below W.heap.size W W1) : DblAt n g W1 := fun j hj => by
  obtain ⟨A, c, h1, h2, h3⟩ := h j hj
  exact ⟨A, c, (hb.cell (World.block_lt_of_cell? _ _ h1)).trans h1, h2, h3.below hb⟩
theorem Dbl.at {base n : Nat} {v : Value} {W : World} (h : Dbl base n v 16 W) : ∃ g cap, v = .slice (some ⟨g, 0, none⟩) 16 cap ∧ 16 ≤ cap ∧ DblAt n g W := by
  obtain ⟨vs, hown, hvs⟩ := h
  have hlen : vs.length = 16 := by have := hown.1; simpa using this
  rcases hown.2 with ⟨_, h0⟩ | ⟨g, cap, cur, rfl, hg, hcur, hcap, hmax, hsize, htake⟩
  · omega
  · refine ⟨g, cap, rfl, hcap, fun j hj => ?_⟩
    obtain ⟨u, hu⟩ : ∃ u, vs[j]? = some u := ⟨_, List.getElem?_eq_getElem (by omega)⟩
    obtain ⟨⟨A3, c3, rfl, h31, h32, h33⟩, hne⟩ := hvs j u hu
    refine ⟨A3, c3, ?_, h31, h32⟩
    rw [cell_at hcur]
    have h5 : (cur.toList.take (16 * 1))[j]? = vs[j]? := by rw [htake]
    rw [List.getElem?_take, if_pos (by omega), Array.getElem?_toList, hu] at h5
    exact h5
theorem Sl.set {base : Nat} {v : Value} {n : Nat} {W : World} (h : Sl base v n W) {g : Nat} (hg : g < base) (o : Nat) (u : Value) : Sl base v n (W.setCell ⟨g, o, none⟩ u) := by
  obtain ⟨A, c, rfl, h2, h3, h4⟩ := h
  refine ⟨A, c, rfl, h2, ⟨h3.1, fun h0 => ?_⟩, h4⟩
  obtain ⟨b, off, rfl, hc⟩ := h3.2 h0
  refine ⟨b, off, rfl, fun k x hk => ?_⟩
  have h5 := h4 h0 _ rfl
  rw [cell_set_other _ _ _ (by simp at h5 ⊢; omega)]
  exact hc k x hk
theorem set_same {ds : List Int} {j : Nat} {x : Int} (h : ds[j]? = some x) : ds.set j x = ds := by
  apply List.ext_getElem?
  intro i
  by_cases hi : j = i
  · subst hi
    rw [List.getElem?_set_self (List.getElem?_eq_some_iff.1 h).1, h]
  · rw [List.getElem?_set_ne hi]
theorem dd_mono {a b : Nat} (h : a ≤ b) : (dd a).length ≤ (dd b).length := (dd_len _ _).2 (Nat.lt_of_le_of_lt h ((dd_len _ _).1 (Nat.le_refl _)))
theorem add_bit (q k : Nat) (h : q + 2 ^ k < 65536) : wrap64 ((q : Int) + wrap64 (2 ^ k)) = ((q + 2 ^ k : Nat) : Int) := by
  have e : (2 : Int) ^ k = ((2 ^ k : Nat) : Int) := (Int.natCast_pow 2 k).symm
  rw [e]
  generalize 2 ^ k = p at *
  rw [IntWalk.wrap64_in (p : Int) (by omega), IntWalk.wrap64_in _ (by omega)]
  omega
theorem dbl_len {n : Nat} (h : (dd n).length ≤ 200) (j : Nat) (hj : j ≤ 16) : (dd (n * 2 ^ j)).length ≤ 1000 := by
  have h1 := (dd_len 200 n).1 h
  refine Nat.le_trans ((dd_len 201 _).2 ?_) (by omega)
  rw [Nat.pow_succ]
  have h2 : 2 ^ j ≤ 65536 := Nat.le_trans (Nat.pow_le_pow_right (by decide) hj) (by decide)
  exact Nat.lt_of_le_of_lt (Nat.mul_le_mul_left n h2) (Nat.mul_lt_mul_of_pos_right h1 (by decide))
set_option maxRecDepth 20000 in
set_option maxHeartbeats 4000000 in
theorem rquo_many1 (m n : Int) (hy0 : n ≠ 0) (u v : Value) (hlx : (dd (ab m)).length ≤ 1000) (hly : (dd (ab n)).length ≤ 200) (h3 : ¬ (dd (ab m)).length ≤ 3) (w : World) (hu : BigAt w u m) (hv : BigAt w v n) :
    Calls Try.prog 19 #[u, v] w fun e w' => ∃ q r, e = .returned (.tuple #[q, r]) ∧ BigAt w' q (m.tdiv n) ∧ BigAt w' r (m.tmod n) ∧ Below w.heap.size w w' := by
  obtain ⟨A, c, rfl, hc, hA⟩ := hu
  obtain ⟨B, d, rfl, hd, hB⟩ := hv
  have HA := Hd.mk hA
  have HB := Hd.mk hB
  have HLX := Hd.mk hlx
  have HLY := Hd.mk hly
  have HLJ := Hd.mk (dbl_len hly)
  have hd1 : decide (((dd (ab m)).length : Int) ≤ 3) = false := by simp; omega
  clear hA hB hlx hly h3
  go_enter Try.func19, Try.ntmps19
  go_upto_region 4 with (fail)
  clear hd1
  refine abs_wp (QuoW m n A B c d w) ⟨heap_old (heap_old (heap_old (heap_new _ _) _) _) _, heap_old (heap_old (heap_at (by simp) _) _) _, heap_old (heap_at (by simp) _) _, heap_at (by simp) _, by focus (repeat (first | (with_reducible exact Below.refl _ _) | (with_reducible assumption) | ((with_reducible refine Below.setCell ?_ ?_ _); rotate_left; (focus (first | omega | (simp; done) | (simp; omega)))) | ((with_reducible refine Below.alloc ?_ ?_ _); rotate_left; (focus (first | omega | (simp; done) | (simp; omega)))) | (with_reducible refine Below.drew ?_) | (refine below_on ?_ (by assumption))))⟩ fun W QW => ?_
  have c0 := cell_at QW.2.1
  have hsz := lt_of_block QW.2.2.2.1
  go_wp2
  have hdb : Dbl (w.heap.size + 1 + 1 + 1 + 1) (ab n) (.slice (some ⟨W.heap.size, 0, none⟩) 1 1) 1 (W.alloc (.cells #[.slice B (dd (ab n)).length d] 36)) := by
    refine ⟨[.slice B (dd (ab n)).length d], ⟨rfl, .inr ⟨_, 1, _, rfl, by omega, heap_new _ _, by omega, by unfold maxLen; omega, rfl, rfl⟩⟩, ?_⟩
    intro j u hu
    match j, hu with
    | 0, hu =>
      simp only [List.getElem?_cons_zero, Option.some.injEq] at hu
      subst hu
      rw [Nat.pow_zero, Nat.mul_one]
      have hsl : Sl 0 (.slice B (dd (ab n)).length d) (ab n) W := ⟨B, d, rfl, hd, HB.out.below QW.2.2.2.2, fun _ _ _ => Nat.zero_le _⟩
      obtain ⟨b, hb1, _, hb2⟩ := hsl.lt (by unfold ab; omega)
      refine ⟨hsl.below (Below.alloc (Below.refl _ _) (Nat.le_refl _) _), fun e => ?_⟩
      have h4 := hb1.symm.trans e
      simp only [Value.ownBlock, Option.some.injEq] at h4
      omega
    | j + 1, hu => simp at hu
  have hqw := QW.below (Below.alloc (Below.refl _ _) (Nat.le_refl _) (.cells #[.slice B (dd (ab n)).length d] 36))
  go_loopw [8, 9] (fun v kv wr => ∃ k : Nat, 1 ≤ k ∧ k ≤ 16 ∧ kv = .int .i64 k ∧ Dbl (w.heap.size + 1 + 1 + 1 + 1) (ab n) v k wr ∧ QuoW m n A B c d w wr) (fun _ kv _ => 16 - (intOf kv).toNat)
  case atStart => exact ⟨1, by omega, by omega, rfl, hdb, hqw⟩
  case round =>
    clear QW c0 hdb hqw hsz
    obtain ⟨k, hk1, hk, rfl, ⟨vs, hown, hvs⟩, QW⟩ := hrel
    have hsz := lt_of_block QW.2.2.2.1
    by_cases hlt : k < 16
    · have hd1 : decide ((k : Int) < 16) = true := by simp; omega
      obtain ⟨j, rfl⟩ : ∃ j, k = j + 1 := ⟨k - 1, by omega⟩
      have hlen : vs.length = j + 1 := by have := hown.1; simpa using this
      obtain ⟨u, hu⟩ : ∃ u, vs[j]? = some u := ⟨_, List.getElem?_eq_getElem (by omega)⟩
      obtain ⟨⟨A3, c3, rfl, h31, h32, h33⟩, hne⟩ := hvs j u hu
      rcases hown.2 with ⟨_, h0⟩ | ⟨g, cap, cur, rfl, hg, hcur, hcap, hmax, hsize, htake⟩
      · omega
      · have hjk : (((j + 1 : Nat) : Int) - 1) = (j : Int) := by omega
        have e0 : wr.cell? ⟨g, j, none⟩ = some (.slice A3 (dd (ab n * 2 ^ j)).length c3) := by
          rw [cell_at hcur]
          have h5 : (cur.toList.take ((j + 1) * 1))[j]? = vs[j]? := by rw [htake]
          rw [List.getElem?_take, if_pos (by omega), Array.getElem?_toList, hu] at h5
          exact h5
        have l0 := lt_of_block hcur
        have HU := Hd.mk hu
        have HV := Hd.mk hvs
        have HO := Hd.mk hown
        have H32 := Hd.mk h32
        clear hvs hu hown hcur htake
        go_wp2
        refine region_mix 11 (by kernel_rfl) (by kernel_rfl) (fun _ _ _ _ h => h) fun X _ mk hmk hcl => ?_
        have c1 := fun x => ((hmk x).cell l0).trans e0
        simp only [List.take_succ_cons, List.take_zero, List.drop_succ_cons, List.drop_zero]
        repeat (go_big_quiet_step (skip))
        refine wpQuiet_nil ?_
        rintro _ ⟨x, rfl⟩
        have hx1 := hmk x
        clear hcl hmk c1 e0
        generalize mk x = W1 at hx1
        have hp : (dd (ab n * 2 ^ j)).length ≤ 1000 := HLJ.out j (by omega)
        have hn0 : 0 < ab n * 2 ^ j := Nat.mul_pos (by unfold ab; omega) (Nat.two_pow_pos _)
        go_wp2_with fail
        refine (rplus_any (ab n * 2 ^ j) (ab n * 2 ^ j) A3 A3 c3 c3 h31 h31 hp hp _ (H32.out.below hx1) (H32.out.below hx1)).mono ?_
        rintro e W2 ⟨v2, rfl, hS, hb⟩
        rw [show ab n * 2 ^ j + ab n * 2 ^ j = ab n * 2 ^ (j + 1) by rw [Nat.pow_succ, ← Nat.mul_assoc]; omega] at hS
        have hB2 : Below wr.heap.size wr W2 := below_on hx1 hb
        have hown2 := own_below HO.out hB2
        have hs1 := hx1.size
        have hs2 := hb.size
        obtain ⟨bb, hbb, hbb1, hbb2⟩ := hS.lt (Nat.mul_pos (by unfold ab; omega) (Nat.two_pow_pos _))
        obtain ⟨A4, c4, rfl, h41, h42, h43⟩ := hS
        have H42 := Hd.mk h42
        have H43 := Hd.mk h43
        obtain ⟨i1, hi, hz0, hz1, hz2⟩ := info_parts infoSl
        have hu : Try.prog.underlying 88 = some (.slice 36) := by kernel_rfl
        clear h42 h43 hb
        go_wp2_with (at_builtin; refine wpList_append_own_at _ rfl (.tmp 56) (.tmp 68) 88 rfl (w.heap.size + 1 + 1 + 1 + 1) 36 i1 (.slice none 0 0) 1 24 hu hi hz0 hz1 hz2 rfl (by decide) _ (j + 1) _ rfl (hown2.alloc _) ⟨W2.heap.size, 0, none⟩ 1 1 [_] rfl rfl (cell_one_new _ _ _) ?c2 ?b1 ?b2 ?b3 ?go)
        case c2 => intro u hu; simp at hu; subst hu; rfl
        case b1 => unfold maxLen; omega
        case b2 => omega
        case b3 => simp; omega
        case go =>
          intro v' w1 hown' hgrow _ hat
          have hat2 : v'.ownBlock = some g ∨ v'.ownBlock = some (W2.heap.size + 1) := by simpa [Value.ownBlock] using hat
          have hA1 : Below W2.heap.size W2 (W2.alloc (.cells #[.slice A4 (dd (ab n * 2 ^ (j + 1))).length c4] 36)) := Below.alloc (Below.refl _ _) (Nat.le_refl _) _
          have hq1 : QuoW m n A B c d w w1 := ((QW.below hB2).below hA1).grown hgrow (fun k hk => by simp [Value.ownBlock] at hk; omega)
          have hd2 : ∀ i u, (vs ++ [.slice A4 (dd (ab n * 2 ^ (j + 1))).length c4])[i]? = some u → Sl 0 u (ab n * 2 ^ i) w1 ∧ u.ownBlock ≠ v'.ownBlock := by
            have hnew : ∀ u z, u.ownBlock ≠ some g → (∃ b, u.ownBlock = some b ∧ b < W2.heap.size) → Sl 0 u z W2 → Sl 0 u z w1 ∧ u.ownBlock ≠ v'.ownBlock := by
              rintro u z h1 ⟨b, hb1, hb2⟩ h3
              refine ⟨(h3.below hA1).grown hgrow h1, fun e => ?_⟩
              rcases hat2 with h4 | h4
              · exact h1 (e.trans h4)
              · rw [hb1, h4] at e
                simp only [Option.some.injEq] at e
                omega
            intro i u hu
            by_cases hi : i < vs.length
            · rw [List.getElem?_append_left hi] at hu
              obtain ⟨h1, h2⟩ := HV.out i u hu
              obtain ⟨b, hb1, _, hb2⟩ := h1.lt (Nat.mul_pos (by unfold ab; omega) (Nat.two_pow_pos _))
              exact hnew u _ h2 ⟨b, hb1, by omega⟩ (h1.below hB2)
            · have hi2 : i = j + 1 := by
                have := (List.getElem?_eq_some_iff.1 hu).1
                simp at this
                omega
              subst hi2
              rw [List.getElem?_append_right (by omega), hlen, Nat.sub_self] at hu
              simp only [List.getElem?_cons_zero, Option.some.injEq] at hu
              subst hu
              refine hnew _ _ ?_ ⟨bb, hbb, hbb2⟩ ⟨A4, c4, rfl, h41, H42.out, fun _ _ _ => Nat.zero_le _⟩
              rw [hbb]
              simp only [ne_eq, Option.some.injEq]
              omega
          have hlt2 : j + 1 < 16 := hlt
          have HDD := Hd.mk hd2
          have HOO := Hd.mk hown'
          clear hd2 hown' hgrow hat hat2 hA1 hown2 HV HO HU hbb hne h31 h32 h33 h41 hi hz0 hz1 hz2 hu hB2 hd1
          go_wp2
          go_roundw
          case rel => exact ⟨j + 1 + 1, by omega, by omega, by go_num, ⟨_, HOO.out, HDD.out⟩, hq1⟩
          case measure => simp [intOf]; omega
    · obtain rfl : k = 16 := by omega
      have hdb : Dbl (w.heap.size + 1 + 1 + 1 + 1) (ab n) u8 16 wr := ⟨vs, hown, hvs⟩
      clear hown hvs
      obtain ⟨gD, cap, rfl, hcap, hdd⟩ := hdb.at
      obtain ⟨i0, hi, hz0, hz1, hz2⟩ := info_parts infoLong
      have hu : Try.prog.underlying 36 = some (.slice 2) := by kernel_rfl
      have c0 := cell_at QW.1
      have HDD := Hd.mk hdd
      have HQW := Hd.mk QW
      obtain ⟨la, hla⟩ : ∃ la, (dd (ab m)).length = la := ⟨_, rfl⟩
      have HLA := Hd.mk hla
      have hlx := HLX.out
      rw [hla] at hlx hc HLX c0 ⊢
      clear hdb hdd QW hla
      go_wp2_with (at_make; refine wpList_make_full _ rfl _ _ 36 rfl 0 2 i0 (.int .i64 0) 1 hu hi hz0 hz1 _ _ _ _ la rfl rfl rfl rfl (by rw [hz2]; omega) (by unfold maxLen; omega) (Nat.zero_le _) ?_)
      intro w1 hown hgrow
      have hB1 : Below wr.heap.size wr w1 := below_grown hgrow (fun k hk => by cases hk) (Nat.le_refl _)
      have hrow := row_own hown
      clear hown hgrow hsz hk1 hk hlt hcap
      have HQS := Hd.mk (q_start (m := ab m) (n := ab n) ((dd_len la _).1 (Nat.le_of_eq HLA.out)))
      generalize wr = WQ at *
      have c0 : w1.cell? ⟨w.heap.size, 1, none⟩ = some (.slice A la c) := (hB1.cell (lt_of_block HQW.out.1)).trans (c0 1)
      go_wp2
      clear c0
      go_loopw [11, 12] (fun rv iv wq => ∃ (i : Nat) (ds : List Int), i ≤ la ∧ iv = .int .i64 ((i : Int) - 1) ∧ Hd (QRow (ab m) (ab n) la i ds) ∧ Below WQ.heap.size WQ wq ∧ RowAt wq WQ.heap.size ds ∧ Sl (WQ.heap.size + 1) rv (ab m / 65536 ^ i % ab n) wq) (fun _ iv _ => (intOf iv + 1).toNat)
      case atStart =>
        refine ⟨la, _, Nat.le_refl _, rfl, ⟨HQS.out.1⟩, hB1, hrow, ?_⟩
        rw [HQS.out.2]
        exact ⟨none, 0, by rw [dd_zero]; rfl, by rw [dd_zero]; exact Nat.le_refl _, by rw [dd_zero]; exact ⟨by simp, fun h => by simp at h⟩, fun _ a h => by cases h⟩
      case round =>
        clear hB1 hrow HQS
        obtain ⟨i, ds, hil, rfl, HR, hB, hrow, hSl⟩ := hrel
        have hsz := hB.size
        have hlq := lt_of_block hrow
        have hQ := HQW.out.below hB
        match i, hil, HR, hSl with
        | 0, hil, HR, hSl =>
          rw [Nat.pow_zero, Nat.div_one] at hSl
          obtain ⟨Ar, cr, rfl, r1, r2, _⟩ := hSl
          have hL : ds.length = la := HR.out.1
          have hdig := hrow.dig (by omega)
          have hof := fun W' (hb : Below wr.heap.size wr W') => rof_any (ng m != ng n) (some ⟨WQ.heap.size, 0, none⟩) la ds (Nat.le_of_eq hL) HR.out.2.1 W' (hdig.below hb)
          rw [hL, q_end HR.out, zof_div2] at hof
          have hog := fun W' (hb : Below wr.heap.size wr W') => rof_any (ng m) Ar cr _ r1 (dd_range _) W' (r2.below hb)
          rw [val_of_dd, zof_mod] at hog
          have HOF := Hd.mk hof
          have HOG := Hd.mk hog
          have hbx := hQ.boxes
          unfold Boxes at hbx
          rw [HLA.out] at hbx
          have HS := Hd.mk hbx
          have QM := hQ.drew
          have hsz4 : w.heap.size + 1 + 1 ≤ wr.heap.size := by have := lt_of_block hQ.2.2.1; omega
          have hW : Below wr.heap.size wr wr.drew := Below.drew (Below.refl _ _)
          clear hof hog hbx r1 r2 hdig hrow hB hQ hsz
          go_upto_region 21 with (fail)
          go_region_held3 (fun W' => (W'.cell? ⟨w.heap.size, 0, none⟩ = some (.bool (ng m)) ∧ W'.cell? ⟨w.heap.size, 1, none⟩ = some (.slice A la c)) ∧ W'.cell? ⟨w.heap.size + 1, 0, none⟩ = some (.bool (ng n)) ∧ W'.cell? ⟨w.heap.size + 1, 1, none⟩ = some (.slice B (dd (ab n)).length d)) ((exact HS.out _ (by have := hW.mono hsz4; focus (repeat (first | (with_reducible exact Below.refl _ _) | (with_reducible assumption) | ((with_reducible refine Below.setCell ?_ ?_ _); rotate_left; (focus (first | omega | (simp; done) | (simp; omega)))) | ((with_reducible refine Below.alloc ?_ ?_ _); rotate_left; (focus (first | omega | (simp; done) | (simp; omega)))) | (with_reducible refine Below.drew ?_) | (refine below_on ?_ (by assumption)))))))
            ((first
              | (go_at_call 50; have hq := hV1; clear hq; refine (HOG.out _ hW).mono ?_; rintro e wd ⟨vd, rfl, hV2, hb⟩; obtain ⟨A2, c2, rfl, h1, h2⟩ := hV2; have hV2 : BigAt wd _ (m.tmod n) := ⟨A2, c2, rfl, h1, h2⟩; have hV1 := hV1.below hb; have QM := QM.below hb; have hW := below_on hW hb; have q1 := cell_at QM.2.2.1; have q2 := frozen_at QM.2.2.1; have q3 := cell_at QM.2.2.2.1; have q4 := frozen_at QM.2.2.2.1; have q5 := lt_of_block QM.2.2.2.1; clear hb)
              | (go_at_call 50; refine (HOF.out _ hW).mono ?_; rintro e wb ⟨vb, rfl, hV1, hb⟩; obtain ⟨A1, c1, rfl, h1, h2⟩ := hV1; have hV1 : BigAt wb _ (m.tdiv n) := ⟨A1, c1, rfl, h1, h2⟩; have QM := QM.below hb; have hW := below_on hW hb; clear hb)))
          obtain ⟨l1, l2, l3⟩ := QM.laid (.bool (ng (m.tdiv n))) (.slice A1 (dd (ab (m.tdiv n))).length c1) (.bool (ng (m.tmod n))) (.slice A2 (dd (ab (m.tmod n))).length c2)
          have b1 := Hd.mk (QM.big hV1 (.bool (ng (m.tdiv n))) (.slice A1 (dd (ab (m.tdiv n))).length c1) (.bool (ng (m.tmod n))) (.slice A2 (dd (ab (m.tmod n))).length c2))
          have b2 := Hd.mk (QM.big hV2 (.bool (ng (m.tdiv n))) (.slice A1 (dd (ab (m.tdiv n))).length c1) (.bool (ng (m.tmod n))) (.slice A2 (dd (ab (m.tmod n))).length c2))
          have k1 := cell_at l1
          have k2 := cell_at l2
          have HF := Hd.mk l3
          clear l1 l2 l3 hV1 hV2 QM
          clear q1 q2 q3 q4 hW
          generalize ((((wd.setCell ⟨w.heap.size + 1 + 1, 0, none⟩ (.bool (ng (m.tdiv n)))).setCell ⟨w.heap.size + 1 + 1, 1, none⟩ (.slice A1 (dd (ab (m.tdiv n))).length c1)).setCell ⟨w.heap.size + 1 + 1 + 1, 0, none⟩ (.bool (ng (m.tmod n)))).setCell ⟨w.heap.size + 1 + 1 + 1, 1, none⟩ (.slice A2 (dd (ab (m.tmod n))).length c2)) = wz at *
          go_wp2
          refine bodyPost_ret (by simp [results, Try.results19, go_sem, k1, k2]) rfl ⟨_, _, rfl, b1.out, b2.out, HF.out⟩
        | j + 1, hil, HR, hSl =>
          rw [show ((j + 1 : Nat) : Int) - 1 = (j : Int) from by omega]
          have hge : decide ((j : Int) ≥ 0) = true := by simp
          obtain ⟨gA, oA, rfl, fA⟩ := (HA.out.below hQ.2.2.2.2).2 (by rw [HLA.out]; omega)
          obtain ⟨X, hX⟩ : ∃ X, (dd (ab m))[j]? = some X := ⟨_, List.getElem?_eq_getElem (by rw [HLA.out]; omega)⟩
          have g1 := fA j X hX
          have hXd := dd_get _ _ _ hX
          have hXr := dd_range _ X (List.mem_of_getElem? hX)
          have c0 := cell_at hQ.1
          rw [HLA.out] at c0
          obtain ⟨R, hR⟩ : ∃ R, ab m / 65536 ^ (j + 1) % ab n = R := ⟨_, rfl⟩
          have hRn : R < ab n := by rw [← hR]; exact Nat.mod_lt _ (by unfold ab; omega)
          rw [hR] at hSl
          have HRJ : Hd (rest0 (ab m) (ab n) j = X.toNat + 65536 * R) := ⟨by rw [hXd, rest0, hR]; rfl⟩
          obtain ⟨Ar, cr, rfl, r1, r2, r3⟩ := hSl
          have HR2 := Hd.mk r2
          have HQ := Hd.mk hQ
          clear fA hX hXd hR r2 hQ
          go_wp2_with (at_builtin; refine wpList_append_dig rfl (.tmp 87) (.tmp 88) rfl (WQ.heap.size + 1) (.slice (some ⟨wr.heap.size, 0, none⟩) 1 1) 1 [.int .i64 X] rfl ⟨rfl, .inr ⟨wr.heap.size, 1, #[.int .i64 X], rfl, by omega, heap_new _ _, by omega, by unfold maxLen; omega, rfl, rfl⟩⟩ Ar cr (dd R) rfl (HR2.out.below (Below.alloc (Below.refl _ _) (Nat.le_refl _) _)) (by omega) ?l1 ?l2 ?go)
          case l1 => exact Nat.le_trans (dd_mono (Nat.le_of_lt hRn)) (Nat.le_trans HLY.out (by omega))
          case l2 => simp; omega
          case go =>
            intro v' w1 hown' hgrow
            have hB2 : Below WQ.heap.size WQ w1 := (Below.alloc hB (by omega) _).trans (below_grown hgrow (fun k hk => by simp [Value.ownBlock] at hk; omega) (by simp; omega))
            have hrow2 : RowAt w1 WQ.heap.size ds := (hgrow.block _ (by simp; omega) (by simp [Value.ownBlock]; omega)).trans (heap_old hrow _)
            have hown2 : w1.ownsRow (WQ.heap.size + 1) 2 1 v' (1 + (dd R).length) ((X :: dd R).map (Value.int .i64)) := by simpa [longV] using hown'
            obtain ⟨A5, c5, rfl, h51, h52, h53⟩ := dig_of_own2 hown2 (by have := Nat.le_trans (dd_mono (Nat.le_of_lt hRn)) HLY.out; omega)
            have HD5 := Hd.mk h52
            have hDg : Dg (X :: dd R) := fun y hy => by
              rcases List.mem_cons.1 hy with rfl | hy
              · exact hXr
              · exact dd_range R y hy
            have hval : val (X :: dd R) = rest0 (ab m) (ab n) j := by rw [HRJ.out, val, val_of_dd]
            have HDG := Hd.mk hDg
            have HVL := Hd.mk hval
            have HBW := Hd.mk hB2
            clear hown' hgrow hown2 h52 hDg hval hB2 hB hrow hSl r1 r3 c0 g1
            go_wp2_with fail
            refine (cut_any A5 c5 _ h51 _ HD5.out).mono ?_
            rintro e w2 ⟨⟨A6, rfl, hA6⟩, rfl⟩
            have hS6 := sl_cut (base := WQ.heap.size + 1) HD5.out HDG.out HVL.out h51 hA6 h53
            clear hA6 h53 h51 HD5
            obtain ⟨hr1, hr2, hr3⟩ := rest0_step (ab m) (ab n) j (by unfold ab; omega)
            have HR1 := Hd.mk hr1
            have HR3 := Hd.mk hr2
            have h0j := HR.out.2.2.2 j (by omega) (by omega)
            generalize (Value.slice A6 (strip (X :: dd R)).length c5) = v6 at *
            obtain ⟨R0, hR0⟩ : ∃ R0, rest0 (ab m) (ab n) j = R0 := ⟨_, rfl⟩
            have HRN := Hd.mk (q_next HR.out (by omega : j < la) (by unfold ab; omega))
            rw [hR0] at hS6 hr1 HR1 HR3 HRN
            clear hR0 hr2 hr3 HRJ HVL
            go_wp2
            go_loopw [11, 13] (fun rv kv wq => ∃ k : Nat, k ≤ 16 ∧ kv = .int .i64 ((k : Int) - 1) ∧ Below WQ.heap.size WQ wq ∧ RowAt wq WQ.heap.size (ds.set j ((R0 / (ab n * 2 ^ k) * 2 ^ k : Nat) : Int)) ∧ Sl (WQ.heap.size + 1) rv (R0 % (ab n * 2 ^ k)) wq) (fun _ kv _ => (intOf kv + 1).toNat)
            case atStart =>
              have hlt : R0 < ab n * 2 ^ 16 := by rw [Nat.mul_comm]; exact hr1
              refine ⟨16, Nat.le_refl _, rfl, HBW.out, ?_, ?_⟩
              · rw [Nat.div_eq_of_lt hlt, Nat.zero_mul, show ((0 : Nat) : Int) = 0 from rfl, set_same h0j]; exact hrow2
              · rw [Nat.mod_eq_of_lt hlt]; exact hS6
            case round =>
              clear hS6 hrow2 HBW
              obtain ⟨k, hk, rfl, hB, hrow, hSl⟩ := hrel
              have hlq := lt_of_block hrow
              match k, hk, hrow, hSl with
              | 0, hk, hrow, hSl =>
                rw [Nat.pow_zero, Nat.mul_one, Nat.mul_one] at hrow
                rw [Nat.pow_zero, Nat.mul_one, HR3.out] at hSl
                have HRW := Hd.mk hrow
                have HS8 := Hd.mk hSl
                have HB4 := Hd.mk hB
                clear hrow hSl hB
                go_wp2
                exact ⟨⟨j, _, by omega, rfl, HRN, HB4.out, HRW.out, HS8.out⟩, by simp [intOf]⟩
              | k + 1, hk, hrow, hSl =>
                rw [show ((k + 1 : Nat) : Int) - 1 = (k : Int) from by omega]
                have hge : decide ((k : Int) ≥ 0) = true := by simp
                have hki : (k : Int) < 16 := by omega
                obtain ⟨A7, c7, e7, h71, h72⟩ := HDD.out k (by omega)
                have e7 := (hB.cell (World.block_lt_of_cell? _ _ e7)).trans e7
                have H72 := Hd.mk (h72.below hB)
                obtain ⟨A8, c8, rfl, h81, h82, h83⟩ := hSl
                have H82 := Hd.mk h82
                have H83 := Hd.mk h83
                clear h72 h82 h83
                go_wp2_with fail
                refine (rmags_any _ _ A8 A7 c8 c7 h81 h71 _ H82.out H72.out).mono ?_
                rintro e w3 ⟨rfl, hb⟩
                have e8 := (hb.cell (World.block_lt_of_cell? _ _ e7)).trans e7
                have hrow3 : RowAt w3 WQ.heap.size _ := heap_below hb hrow
                have hB3 := below_on hB hb
                have HS8 : Hd (Sl (WQ.heap.size + 1) (.slice A8 (dd (R0 % (ab n * 2 ^ (k + 1)))).length c8) (R0 % (ab n * 2 ^ (k + 1))) w3) := ⟨⟨A8, c8, rfl, h81, H82.out.below hb, H83.out⟩⟩
                have H82 := Hd.mk (H82.out.below hb)
                have H72 := Hd.mk (H72.out.below hb)
                have hsz3 := hB3.size
                clear e7 hrow hB hb H83
                by_cases hle : ab n * 2 ^ k ≤ R0 % (ab n * 2 ^ (k + 1))
                · have hC : decide (cmpN (R0 % (ab n * 2 ^ (k + 1))) (ab n * 2 ^ k) ≥ 0) = true := by unfold cmpN; rw [if_neg (by omega)]; split <;> rfl
                  obtain ⟨hy1, hy2⟩ := dig_yes (R := R0) (k := k) (show 0 < ab n by unfold ab; omega) hle
                  have HY1 := Hd.mk hy1
                  have hq1 := dig_bound (k := k) HR1.out
                  rw [hy2] at hq1
                  have HY2 := Hd.mk hy2
                  have hl8 : (dd (R0 % (ab n * 2 ^ (k + 1)))).length ≤ 1000 := Nat.le_trans (dd_mono (Nat.le_of_lt (Nat.mod_lt _ (Nat.mul_pos (by unfold ab; omega) (Nat.two_pow_pos _))))) (HLJ.out (k + 1) (by omega))
                  have hl7 := HLJ.out k (by omega)
                  have HLE := Hd.mk hle
                  clear hy1 hy2 hle
                  go_wp2_with fail
                  refine (rless_any _ _ HLE.out A8 A7 c8 c7 h81 h71 hl8 hl7 _ H82.out H72.out).mono ?_
                  rintro e w4 ⟨v4, rfl, hS4, hb⟩
                  have hS5 := hS4.low (show WQ.heap.size + 1 ≤ w3.heap.size by have := lt_of_block hrow3; omega)
                  rw [← HY1.out] at hS5
                  have hrow4 : RowAt w4 WQ.heap.size _ := heap_below hb hrow3
                  have hB4 := below_on hB3 hb
                  have q4 := hrow4.cell (j := j) (List.getElem?_set_self (by rw [HR.out.1]; omega))
                  have f4 := frozen_at hrow4
                  have l4 := lt_of_block hrow4
                  have HS5 := Hd.mk hS5
                  have HRW := Hd.mk hrow4
                  have HB4 := Hd.mk hB4
                  obtain ⟨q0, hq0⟩ : ∃ q0, R0 / (ab n * 2 ^ (k + 1)) * 2 ^ (k + 1) = q0 := ⟨_, rfl⟩
                  rw [hq0] at q4 hq1 HRW HY2
                  clear hS4 hS5 hrow4 hB4 hB3 hrow3 e8 hC h81 h71 hq0 hb
                  have hw := add_bit q0 k hq1
                  go_wp2
                  refine ⟨⟨k, by omega, rfl, ?_, ?_, ?_⟩, by simp [intOf]⟩
                  · exact Below.setCell HB4.out (Nat.le_refl _) _
                  · rw [HY2.out]
                    have h9 := HRW.out.set j ((q0 + 2 ^ k : Nat) : Int)
                    rw [List.set_set] at h9
                    rw [show ((q0 + 2 ^ k : Nat) : Int) = (q0 : Int) + 2 ^ k from by rw [Int.natCast_add, Int.natCast_pow]; rfl] at h9 ⊢
                    exact h9
                  · exact HS5.out.set (Nat.lt_succ_self _) _ _
                · have hC : decide (cmpN (R0 % (ab n * 2 ^ (k + 1))) (ab n * 2 ^ k) ≥ 0) = false := by unfold cmpN; rw [if_pos (by omega)]; rfl
                  obtain ⟨hy1, hy2⟩ := dig_no (R := R0) (k := k) (show 0 < ab n by unfold ab; omega) hle
                  have HY1 := Hd.mk hy1
                  have HY2 := Hd.mk hy2
                  have HRW := Hd.mk hrow3
                  have HB4 := Hd.mk hB3
                  clear hy1 hy2 hle hrow3 hB3 e8 h81 h71
                  go_wp2
                  refine ⟨⟨k, by omega, rfl, HB4.out, ?_, ?_⟩, by simp [intOf]⟩
                  · rw [HY2.out]; exact HRW.out
                  · rw [HY1.out]; exact HS8.out
open Go.RowKit Go.BigFrame

set_option maxRecDepth 20000 in
set_option maxHeartbeats 4000000 in
theorem rquo_many2 (m n : Int) (hy0 : n ≠ 0) (u v : Value) (hlx : (dd (ab m)).length ≤ 1000) (hly : (dd (ab n)).length ≤ 200) (h2 : (dd (ab m)).length ≤ 3) (h3 : ¬ (dd (ab n)).length ≤ 3) (w : World) (hu : BigAt w u m) (hv : BigAt w v n) :
    Calls Try.prog 19 #[u, v] w fun e w' => ∃ q r, e = .returned (.tuple #[q, r]) ∧ BigAt w' q (m.tdiv n) ∧ BigAt w' r (m.tmod n) ∧ Below w.heap.size w w' := by
  obtain ⟨A, c, rfl, hc, hA⟩ := hu
  obtain ⟨B, d, rfl, hd, hB⟩ := hv
  have HA := Hd.mk hA
  have HB := Hd.mk hB
  have HLX := Hd.mk hlx
  have HLY := Hd.mk hly
  have HLJ := Hd.mk (dbl_len hly)
  have hd1 : decide (((dd (ab m)).length : Int) ≤ 3) = true := by simp; omega
  have hd2 : decide (((dd (ab n)).length : Int) ≤ 3) = false := by simp; omega
  clear hA hB hlx hly h2 h3
  go_enter Try.func19, Try.ntmps19
  go_upto_region 4 with (fail)
  clear hd1 hd2
  refine abs_wp (QuoW m n A B c d w) ⟨heap_old (heap_old (heap_old (heap_new _ _) _) _) _, heap_old (heap_old (heap_at (by simp) _) _) _, heap_old (heap_at (by simp) _) _, heap_at (by simp) _, by focus (repeat (first | (with_reducible exact Below.refl _ _) | (with_reducible assumption) | ((with_reducible refine Below.setCell ?_ ?_ _); rotate_left; (focus (first | omega | (simp; done) | (simp; omega)))) | ((with_reducible refine Below.alloc ?_ ?_ _); rotate_left; (focus (first | omega | (simp; done) | (simp; omega)))) | (with_reducible refine Below.drew ?_) | (refine below_on ?_ (by assumption))))⟩ fun W QW => ?_
  have c0 := cell_at QW.2.1
  have hsz := lt_of_block QW.2.2.2.1
  go_wp2
  have hdb : Dbl (w.heap.size + 1 + 1 + 1 + 1) (ab n) (.slice (some ⟨W.heap.size, 0, none⟩) 1 1) 1 (W.alloc (.cells #[.slice B (dd (ab n)).length d] 36)) := by
    refine ⟨[.slice B (dd (ab n)).length d], ⟨rfl, .inr ⟨_, 1, _, rfl, by omega, heap_new _ _, by omega, by unfold maxLen; omega, rfl, rfl⟩⟩, ?_⟩
    intro j u hu
    match j, hu with
    | 0, hu =>
      simp only [List.getElem?_cons_zero, Option.some.injEq] at hu
      subst hu
      rw [Nat.pow_zero, Nat.mul_one]
      have hsl : Sl 0 (.slice B (dd (ab n)).length d) (ab n) W := ⟨B, d, rfl, hd, HB.out.below QW.2.2.2.2, fun _ _ _ => Nat.zero_le _⟩
      obtain ⟨b, hb1, _, hb2⟩ := hsl.lt (by unfold ab; omega)
      refine ⟨hsl.below (Below.alloc (Below.refl _ _) (Nat.le_refl _) _), fun e => ?_⟩
      have h4 := hb1.symm.trans e
      simp only [Value.ownBlock, Option.some.injEq] at h4
      omega
    | j + 1, hu => simp at hu
  have hqw := QW.below (Below.alloc (Below.refl _ _) (Nat.le_refl _) (.cells #[.slice B (dd (ab n)).length d] 36))
  go_loopw [8, 9] (fun v kv wr => ∃ k : Nat, 1 ≤ k ∧ k ≤ 16 ∧ kv = .int .i64 k ∧ Dbl (w.heap.size + 1 + 1 + 1 + 1) (ab n) v k wr ∧ QuoW m n A B c d w wr) (fun _ kv _ => 16 - (intOf kv).toNat)
  case atStart => exact ⟨1, by omega, by omega, rfl, hdb, hqw⟩
  case round =>
    clear QW c0 hdb hqw hsz
    obtain ⟨k, hk1, hk, rfl, ⟨vs, hown, hvs⟩, QW⟩ := hrel
    have hsz := lt_of_block QW.2.2.2.1
    by_cases hlt : k < 16
    · have hd1 : decide ((k : Int) < 16) = true := by simp; omega
      obtain ⟨j, rfl⟩ : ∃ j, k = j + 1 := ⟨k - 1, by omega⟩
      have hlen : vs.length = j + 1 := by have := hown.1; simpa using this
      obtain ⟨u, hu⟩ : ∃ u, vs[j]? = some u := ⟨_, List.getElem?_eq_getElem (by omega)⟩
      obtain ⟨⟨A3, c3, rfl, h31, h32, h33⟩, hne⟩ := hvs j u hu
      rcases hown.2 with ⟨_, h0⟩ | ⟨g, cap, cur, rfl, hg, hcur, hcap, hmax, hsize, htake⟩
      · omega
      · have hjk : (((j + 1 : Nat) : Int) - 1) = (j : Int) := by omega
        have e0 : wr.cell? ⟨g, j, none⟩ = some (.slice A3 (dd (ab n * 2 ^ j)).length c3) := by
          rw [cell_at hcur]
          have h5 : (cur.toList.take ((j + 1) * 1))[j]? = vs[j]? := by rw [htake]
          rw [List.getElem?_take, if_pos (by omega), Array.getElem?_toList, hu] at h5
          exact h5
        have l0 := lt_of_block hcur
        have HU := Hd.mk hu
        have HV := Hd.mk hvs
        have HO := Hd.mk hown
        have H32 := Hd.mk h32
        clear hvs hu hown hcur htake
        go_wp2
        refine region_mix 11 (by kernel_rfl) (by kernel_rfl) (fun _ _ _ _ h => h) fun X _ mk hmk hcl => ?_
        have c1 := fun x => ((hmk x).cell l0).trans e0
        simp only [List.take_succ_cons, List.take_zero, List.drop_succ_cons, List.drop_zero]
        repeat (go_big_quiet_step (skip))
        refine wpQuiet_nil ?_
        rintro _ ⟨x, rfl⟩
        have hx1 := hmk x
        clear hcl hmk c1 e0
        generalize mk x = W1 at hx1
        have hp : (dd (ab n * 2 ^ j)).length ≤ 1000 := HLJ.out j (by omega)
        have hn0 : 0 < ab n * 2 ^ j := Nat.mul_pos (by unfold ab; omega) (Nat.two_pow_pos _)
        go_wp2_with fail
        refine (rplus_any (ab n * 2 ^ j) (ab n * 2 ^ j) A3 A3 c3 c3 h31 h31 hp hp _ (H32.out.below hx1) (H32.out.below hx1)).mono ?_
        rintro e W2 ⟨v2, rfl, hS, hb⟩
        rw [show ab n * 2 ^ j + ab n * 2 ^ j = ab n * 2 ^ (j + 1) by rw [Nat.pow_succ, ← Nat.mul_assoc]; omega] at hS
        have hB2 : Below wr.heap.size wr W2 := below_on hx1 hb
        have hown2 := own_below HO.out hB2
        have hs1 := hx1.size
        have hs2 := hb.size
        obtain ⟨bb, hbb, hbb1, hbb2⟩ := hS.lt (Nat.mul_pos (by unfold ab; omega) (Nat.two_pow_pos _))
        obtain ⟨A4, c4, rfl, h41, h42, h43⟩ := hS
        have H42 := Hd.mk h42
        have H43 := Hd.mk h43
        obtain ⟨i1, hi, hz0, hz1, hz2⟩ := info_parts infoSl
        have hu : Try.prog.underlying 88 = some (.slice 36) := by kernel_rfl
        clear h42 h43 hb
        go_wp2_with (at_builtin; refine wpList_append_own_at _ rfl (.tmp 56) (.tmp 68) 88 rfl (w.heap.size + 1 + 1 + 1 + 1) 36 i1 (.slice none 0 0) 1 24 hu hi hz0 hz1 hz2 rfl (by decide) _ (j + 1) _ rfl (hown2.alloc _) ⟨W2.heap.size, 0, none⟩ 1 1 [_] rfl rfl (cell_one_new _ _ _) ?c2 ?b1 ?b2 ?b3 ?go)
        case c2 => intro u hu; simp at hu; subst hu; rfl
        case b1 => unfold maxLen; omega
        case b2 => omega
        case b3 => simp; omega
        case go =>
          intro v' w1 hown' hgrow _ hat
          have hat2 : v'.ownBlock = some g ∨ v'.ownBlock = some (W2.heap.size + 1) := by simpa [Value.ownBlock] using hat
          have hA1 : Below W2.heap.size W2 (W2.alloc (.cells #[.slice A4 (dd (ab n * 2 ^ (j + 1))).length c4] 36)) := Below.alloc (Below.refl _ _) (Nat.le_refl _) _
          have hq1 : QuoW m n A B c d w w1 := ((QW.below hB2).below hA1).grown hgrow (fun k hk => by simp [Value.ownBlock] at hk; omega)
          have hd2 : ∀ i u, (vs ++ [.slice A4 (dd (ab n * 2 ^ (j + 1))).length c4])[i]? = some u → Sl 0 u (ab n * 2 ^ i) w1 ∧ u.ownBlock ≠ v'.ownBlock := by
            have hnew : ∀ u z, u.ownBlock ≠ some g → (∃ b, u.ownBlock = some b ∧ b < W2.heap.size) → Sl 0 u z W2 → Sl 0 u z w1 ∧ u.ownBlock ≠ v'.ownBlock := by
              rintro u z h1 ⟨b, hb1, hb2⟩ h3
              refine ⟨(h3.below hA1).grown hgrow h1, fun e => ?_⟩
              rcases hat2 with h4 | h4
              · exact h1 (e.trans h4)
              · rw [hb1, h4] at e
                simp only [Option.some.injEq] at e
                omega
            intro i u hu
            by_cases hi : i < vs.length
            · rw [List.getElem?_append_left hi] at hu
              obtain ⟨h1, h2⟩ := HV.out i u hu
              obtain ⟨b, hb1, _, hb2⟩ := h1.lt (Nat.mul_pos (by unfold ab; omega) (Nat.two_pow_pos _))
              exact hnew u _ h2 ⟨b, hb1, by omega⟩ (h1.below hB2)
            · have hi2 : i = j + 1 := by
                have := (List.getElem?_eq_some_iff.1 hu).1
                simp at this
                omega
              subst hi2
              rw [List.getElem?_append_right (by omega), hlen, Nat.sub_self] at hu
              simp only [List.getElem?_cons_zero, Option.some.injEq] at hu
              subst hu
              refine hnew _ _ ?_ ⟨bb, hbb, hbb2⟩ ⟨A4, c4, rfl, h41, H42.out, fun _ _ _ => Nat.zero_le _⟩
              rw [hbb]
              simp only [ne_eq, Option.some.injEq]
              omega
          have hlt2 : j + 1 < 16 := hlt
          have HDD := Hd.mk hd2
          have HOO := Hd.mk hown'
          clear hd2 hown' hgrow hat hat2 hA1 hown2 HV HO HU hbb hne h31 h32 h33 h41 hi hz0 hz1 hz2 hu hB2 hd1
          go_wp2
          go_roundw
          case rel => exact ⟨j + 1 + 1, by omega, by omega, by go_num, ⟨_, HOO.out, HDD.out⟩, hq1⟩
          case measure => simp [intOf]; omega
    · obtain rfl : k = 16 := by omega
      have hdb : Dbl (w.heap.size + 1 + 1 + 1 + 1) (ab n) u8 16 wr := ⟨vs, hown, hvs⟩
      clear hown hvs
      obtain ⟨gD, cap, rfl, hcap, hdd⟩ := hdb.at
      obtain ⟨i0, hi, hz0, hz1, hz2⟩ := info_parts infoLong
      have hu : Try.prog.underlying 36 = some (.slice 2) := by kernel_rfl
      have c0 := cell_at QW.1
      have HDD := Hd.mk hdd
      have HQW := Hd.mk QW
      obtain ⟨la, hla⟩ : ∃ la, (dd (ab m)).length = la := ⟨_, rfl⟩
      have HLA := Hd.mk hla
      have hlx := HLX.out
      rw [hla] at hlx hc HLX c0 ⊢
      clear hdb hdd QW hla
      go_wp2_with (at_make; refine wpList_make_full _ rfl _ _ 36 rfl 0 2 i0 (.int .i64 0) 1 hu hi hz0 hz1 _ _ _ _ la rfl rfl rfl rfl (by rw [hz2]; omega) (by unfold maxLen; omega) (Nat.zero_le _) ?_)
      intro w1 hown hgrow
      have hB1 : Below wr.heap.size wr w1 := below_grown hgrow (fun k hk => by cases hk) (Nat.le_refl _)
      have hrow := row_own hown
      clear hown hgrow hsz hk1 hk hlt hcap
      have HQS := Hd.mk (q_start (m := ab m) (n := ab n) ((dd_len la _).1 (Nat.le_of_eq HLA.out)))
      generalize wr = WQ at *
      have c0 : w1.cell? ⟨w.heap.size, 1, none⟩ = some (.slice A la c) := (hB1.cell (lt_of_block HQW.out.1)).trans (c0 1)
      go_wp2
      clear c0
      go_loopw [11, 12] (fun rv iv wq => ∃ (i : Nat) (ds : List Int), i ≤ la ∧ iv = .int .i64 ((i : Int) - 1) ∧ Hd (QRow (ab m) (ab n) la i ds) ∧ Below WQ.heap.size WQ wq ∧ RowAt wq WQ.heap.size ds ∧ Sl (WQ.heap.size + 1) rv (ab m / 65536 ^ i % ab n) wq) (fun _ iv _ => (intOf iv + 1).toNat)
      case atStart =>
        refine ⟨la, _, Nat.le_refl _, rfl, ⟨HQS.out.1⟩, hB1, hrow, ?_⟩
        rw [HQS.out.2]
        exact ⟨none, 0, by rw [dd_zero]; rfl, by rw [dd_zero]; exact Nat.le_refl _, by rw [dd_zero]; exact ⟨by simp, fun h => by simp at h⟩, fun _ a h => by cases h⟩
      case round =>
        clear hB1 hrow HQS
        obtain ⟨i, ds, hil, rfl, HR, hB, hrow, hSl⟩ := hrel
        have hsz := hB.size
        have hlq := lt_of_block hrow
        have hQ := HQW.out.below hB
        match i, hil, HR, hSl with
        | 0, hil, HR, hSl =>
          rw [Nat.pow_zero, Nat.div_one] at hSl
          obtain ⟨Ar, cr, rfl, r1, r2, _⟩ := hSl
          have hL : ds.length = la := HR.out.1
          have hdig := hrow.dig (by omega)
          have hof := fun W' (hb : Below wr.heap.size wr W') => rof_any (ng m != ng n) (some ⟨WQ.heap.size, 0, none⟩) la ds (Nat.le_of_eq hL) HR.out.2.1 W' (hdig.below hb)
          rw [hL, q_end HR.out, zof_div2] at hof
          have hog := fun W' (hb : Below wr.heap.size wr W') => rof_any (ng m) Ar cr _ r1 (dd_range _) W' (r2.below hb)
          rw [val_of_dd, zof_mod] at hog
          have HOF := Hd.mk hof
          have HOG := Hd.mk hog
          have hbx := hQ.boxes
          unfold Boxes at hbx
          rw [HLA.out] at hbx
          have HS := Hd.mk hbx
          have QM := hQ.drew
          have hsz4 : w.heap.size + 1 + 1 ≤ wr.heap.size := by have := lt_of_block hQ.2.2.1; omega
          have hW : Below wr.heap.size wr wr.drew := Below.drew (Below.refl _ _)
          clear hof hog hbx r1 r2 hdig hrow hB hQ hsz
          go_upto_region 21 with (fail)
          go_region_held3 (fun W' => (W'.cell? ⟨w.heap.size, 0, none⟩ = some (.bool (ng m)) ∧ W'.cell? ⟨w.heap.size, 1, none⟩ = some (.slice A la c)) ∧ W'.cell? ⟨w.heap.size + 1, 0, none⟩ = some (.bool (ng n)) ∧ W'.cell? ⟨w.heap.size + 1, 1, none⟩ = some (.slice B (dd (ab n)).length d)) ((exact HS.out _ (by have := hW.mono hsz4; focus (repeat (first | (with_reducible exact Below.refl _ _) | (with_reducible assumption) | ((with_reducible refine Below.setCell ?_ ?_ _); rotate_left; (focus (first | omega | (simp; done) | (simp; omega)))) | ((with_reducible refine Below.alloc ?_ ?_ _); rotate_left; (focus (first | omega | (simp; done) | (simp; omega)))) | (with_reducible refine Below.drew ?_) | (refine below_on ?_ (by assumption)))))))
            ((first
              | (go_at_call 50; have hq := hV1; clear hq; refine (HOG.out _ hW).mono ?_; rintro e wd ⟨vd, rfl, hV2, hb⟩; obtain ⟨A2, c2, rfl, h1, h2⟩ := hV2; have hV2 : BigAt wd _ (m.tmod n) := ⟨A2, c2, rfl, h1, h2⟩; have hV1 := hV1.below hb; have QM := QM.below hb; have hW := below_on hW hb; have q1 := cell_at QM.2.2.1; have q2 := frozen_at QM.2.2.1; have q3 := cell_at QM.2.2.2.1; have q4 := frozen_at QM.2.2.2.1; have q5 := lt_of_block QM.2.2.2.1; clear hb)
              | (go_at_call 50; refine (HOF.out _ hW).mono ?_; rintro e wb ⟨vb, rfl, hV1, hb⟩; obtain ⟨A1, c1, rfl, h1, h2⟩ := hV1; have hV1 : BigAt wb _ (m.tdiv n) := ⟨A1, c1, rfl, h1, h2⟩; have QM := QM.below hb; have hW := below_on hW hb; clear hb)))
          obtain ⟨l1, l2, l3⟩ := QM.laid (.bool (ng (m.tdiv n))) (.slice A1 (dd (ab (m.tdiv n))).length c1) (.bool (ng (m.tmod n))) (.slice A2 (dd (ab (m.tmod n))).length c2)
          have b1 := Hd.mk (QM.big hV1 (.bool (ng (m.tdiv n))) (.slice A1 (dd (ab (m.tdiv n))).length c1) (.bool (ng (m.tmod n))) (.slice A2 (dd (ab (m.tmod n))).length c2))
          have b2 := Hd.mk (QM.big hV2 (.bool (ng (m.tdiv n))) (.slice A1 (dd (ab (m.tdiv n))).length c1) (.bool (ng (m.tmod n))) (.slice A2 (dd (ab (m.tmod n))).length c2))
          have k1 := cell_at l1
          have k2 := cell_at l2
          have HF := Hd.mk l3
          clear l1 l2 l3 hV1 hV2 QM
          clear q1 q2 q3 q4 hW
          generalize ((((wd.setCell ⟨w.heap.size + 1 + 1, 0, none⟩ (.bool (ng (m.tdiv n)))).setCell ⟨w.heap.size + 1 + 1, 1, none⟩ (.slice A1 (dd (ab (m.tdiv n))).length c1)).setCell ⟨w.heap.size + 1 + 1 + 1, 0, none⟩ (.bool (ng (m.tmod n)))).setCell ⟨w.heap.size + 1 + 1 + 1, 1, none⟩ (.slice A2 (dd (ab (m.tmod n))).length c2)) = wz at *
          go_wp2
          refine bodyPost_ret (by simp [results, Try.results19, go_sem, k1, k2]) rfl ⟨_, _, rfl, b1.out, b2.out, HF.out⟩
        | j + 1, hil, HR, hSl =>
          rw [show ((j + 1 : Nat) : Int) - 1 = (j : Int) from by omega]
          have hge : decide ((j : Int) ≥ 0) = true := by simp
          obtain ⟨gA, oA, rfl, fA⟩ := (HA.out.below hQ.2.2.2.2).2 (by rw [HLA.out]; omega)
          obtain ⟨X, hX⟩ : ∃ X, (dd (ab m))[j]? = some X := ⟨_, List.getElem?_eq_getElem (by rw [HLA.out]; omega)⟩
          have g1 := fA j X hX
          have hXd := dd_get _ _ _ hX
          have hXr := dd_range _ X (List.mem_of_getElem? hX)
          have c0 := cell_at hQ.1
          rw [HLA.out] at c0
          obtain ⟨R, hR⟩ : ∃ R, ab m / 65536 ^ (j + 1) % ab n = R := ⟨_, rfl⟩
          have hRn : R < ab n := by rw [← hR]; exact Nat.mod_lt _ (by unfold ab; omega)
          rw [hR] at hSl
          have HRJ : Hd (rest0 (ab m) (ab n) j = X.toNat + 65536 * R) := ⟨by rw [hXd, rest0, hR]; rfl⟩
          obtain ⟨Ar, cr, rfl, r1, r2, r3⟩ := hSl
          have HR2 := Hd.mk r2
          have HQ := Hd.mk hQ
          clear fA hX hXd hR r2 hQ
          go_wp2_with (at_builtin; refine wpList_append_dig rfl (.tmp 87) (.tmp 88) rfl (WQ.heap.size + 1) (.slice (some ⟨wr.heap.size, 0, none⟩) 1 1) 1 [.int .i64 X] rfl ⟨rfl, .inr ⟨wr.heap.size, 1, #[.int .i64 X], rfl, by omega, heap_new _ _, by omega, by unfold maxLen; omega, rfl, rfl⟩⟩ Ar cr (dd R) rfl (HR2.out.below (Below.alloc (Below.refl _ _) (Nat.le_refl _) _)) (by omega) ?l1 ?l2 ?go)
          case l1 => exact Nat.le_trans (dd_mono (Nat.le_of_lt hRn)) (Nat.le_trans HLY.out (by omega))
          case l2 => simp; omega
          case go =>
            intro v' w1 hown' hgrow
            have hB2 : Below WQ.heap.size WQ w1 := (Below.alloc hB (by omega) _).trans (below_grown hgrow (fun k hk => by simp [Value.ownBlock] at hk; omega) (by simp; omega))
            have hrow2 : RowAt w1 WQ.heap.size ds := (hgrow.block _ (by simp; omega) (by simp [Value.ownBlock]; omega)).trans (heap_old hrow _)
            have hown2 : w1.ownsRow (WQ.heap.size + 1) 2 1 v' (1 + (dd R).length) ((X :: dd R).map (Value.int .i64)) := by simpa [longV] using hown'
            obtain ⟨A5, c5, rfl, h51, h52, h53⟩ := dig_of_own2 hown2 (by have := Nat.le_trans (dd_mono (Nat.le_of_lt hRn)) HLY.out; omega)
            have HD5 := Hd.mk h52
            have hDg : Dg (X :: dd R) := fun y hy => by
              rcases List.mem_cons.1 hy with rfl | hy
              · exact hXr
              · exact dd_range R y hy
            have hval : val (X :: dd R) = rest0 (ab m) (ab n) j := by rw [HRJ.out, val, val_of_dd]
            have HDG := Hd.mk hDg
            have HVL := Hd.mk hval
            have HBW := Hd.mk hB2
            clear hown' hgrow hown2 h52 hDg hval hB2 hB hrow hSl r1 r3 c0 g1
            go_wp2_with fail
            refine (cut_any A5 c5 _ h51 _ HD5.out).mono ?_
            rintro e w2 ⟨⟨A6, rfl, hA6⟩, rfl⟩
            have hS6 := sl_cut (base := WQ.heap.size + 1) HD5.out HDG.out HVL.out h51 hA6 h53
            clear hA6 h53 h51 HD5
            obtain ⟨hr1, hr2, hr3⟩ := rest0_step (ab m) (ab n) j (by unfold ab; omega)
            have HR1 := Hd.mk hr1
            have HR3 := Hd.mk hr2
            have h0j := HR.out.2.2.2 j (by omega) (by omega)
            generalize (Value.slice A6 (strip (X :: dd R)).length c5) = v6 at *
            obtain ⟨R0, hR0⟩ : ∃ R0, rest0 (ab m) (ab n) j = R0 := ⟨_, rfl⟩
            have HRN := Hd.mk (q_next HR.out (by omega : j < la) (by unfold ab; omega))
            rw [hR0] at hS6 hr1 HR1 HR3 HRN
            clear hR0 hr2 hr3 HRJ HVL
            go_wp2
            go_loopw [11, 13] (fun rv kv wq => ∃ k : Nat, k ≤ 16 ∧ kv = .int .i64 ((k : Int) - 1) ∧ Below WQ.heap.size WQ wq ∧ RowAt wq WQ.heap.size (ds.set j ((R0 / (ab n * 2 ^ k) * 2 ^ k : Nat) : Int)) ∧ Sl (WQ.heap.size + 1) rv (R0 % (ab n * 2 ^ k)) wq) (fun _ kv _ => (intOf kv + 1).toNat)
            case atStart =>
              have hlt : R0 < ab n * 2 ^ 16 := by rw [Nat.mul_comm]; exact hr1
              refine ⟨16, Nat.le_refl _, rfl, HBW.out, ?_, ?_⟩
              · rw [Nat.div_eq_of_lt hlt, Nat.zero_mul, show ((0 : Nat) : Int) = 0 from rfl, set_same h0j]; exact hrow2
              · rw [Nat.mod_eq_of_lt hlt]; exact hS6
            case round =>
              clear hS6 hrow2 HBW
              obtain ⟨k, hk, rfl, hB, hrow, hSl⟩ := hrel
              have hlq := lt_of_block hrow
              match k, hk, hrow, hSl with
              | 0, hk, hrow, hSl =>
                rw [Nat.pow_zero, Nat.mul_one, Nat.mul_one] at hrow
                rw [Nat.pow_zero, Nat.mul_one, HR3.out] at hSl
                have HRW := Hd.mk hrow
                have HS8 := Hd.mk hSl
                have HB4 := Hd.mk hB
                clear hrow hSl hB
                go_wp2
                exact ⟨⟨j, _, by omega, rfl, HRN, HB4.out, HRW.out, HS8.out⟩, by simp [intOf]⟩
              | k + 1, hk, hrow, hSl =>
                rw [show ((k + 1 : Nat) : Int) - 1 = (k : Int) from by omega]
                have hge : decide ((k : Int) ≥ 0) = true := by simp
                have hki : (k : Int) < 16 := by omega
                obtain ⟨A7, c7, e7, h71, h72⟩ := HDD.out k (by omega)
                have e7 := (hB.cell (World.block_lt_of_cell? _ _ e7)).trans e7
                have H72 := Hd.mk (h72.below hB)
                obtain ⟨A8, c8, rfl, h81, h82, h83⟩ := hSl
                have H82 := Hd.mk h82
                have H83 := Hd.mk h83
                clear h72 h82 h83
                go_wp2_with fail
                refine (rmags_any _ _ A8 A7 c8 c7 h81 h71 _ H82.out H72.out).mono ?_
                rintro e w3 ⟨rfl, hb⟩
                have e8 := (hb.cell (World.block_lt_of_cell? _ _ e7)).trans e7
                have hrow3 : RowAt w3 WQ.heap.size _ := heap_below hb hrow
                have hB3 := below_on hB hb
                have HS8 : Hd (Sl (WQ.heap.size + 1) (.slice A8 (dd (R0 % (ab n * 2 ^ (k + 1)))).length c8) (R0 % (ab n * 2 ^ (k + 1))) w3) := ⟨⟨A8, c8, rfl, h81, H82.out.below hb, H83.out⟩⟩
                have H82 := Hd.mk (H82.out.below hb)
                have H72 := Hd.mk (H72.out.below hb)
                have hsz3 := hB3.size
                clear e7 hrow hB hb H83
                by_cases hle : ab n * 2 ^ k ≤ R0 % (ab n * 2 ^ (k + 1))
                · have hC : decide (cmpN (R0 % (ab n * 2 ^ (k + 1))) (ab n * 2 ^ k) ≥ 0) = true := by unfold cmpN; rw [if_neg (by omega)]; split <;> rfl
                  obtain ⟨hy1, hy2⟩ := dig_yes (R := R0) (k := k) (show 0 < ab n by unfold ab; omega) hle
                  have HY1 := Hd.mk hy1
                  have hq1 := dig_bound (k := k) HR1.out
                  rw [hy2] at hq1
                  have HY2 := Hd.mk hy2
                  have hl8 : (dd (R0 % (ab n * 2 ^ (k + 1)))).length ≤ 1000 := Nat.le_trans (dd_mono (Nat.le_of_lt (Nat.mod_lt _ (Nat.mul_pos (by unfold ab; omega) (Nat.two_pow_pos _))))) (HLJ.out (k + 1) (by omega))
                  have hl7 := HLJ.out k (by omega)
                  have HLE := Hd.mk hle
                  clear hy1 hy2 hle
                  go_wp2_with fail
                  refine (rless_any _ _ HLE.out A8 A7 c8 c7 h81 h71 hl8 hl7 _ H82.out H72.out).mono ?_
                  rintro e w4 ⟨v4, rfl, hS4, hb⟩
                  have hS5 := hS4.low (show WQ.heap.size + 1 ≤ w3.heap.size by have := lt_of_block hrow3; omega)
                  rw [← HY1.out] at hS5
                  have hrow4 : RowAt w4 WQ.heap.size _ := heap_below hb hrow3
                  have hB4 := below_on hB3 hb
                  have q4 := hrow4.cell (j := j) (List.getElem?_set_self (by rw [HR.out.1]; omega))
                  have f4 := frozen_at hrow4
                  have l4 := lt_of_block hrow4
                  have HS5 := Hd.mk hS5
                  have HRW := Hd.mk hrow4
                  have HB4 := Hd.mk hB4
                  obtain ⟨q0, hq0⟩ : ∃ q0, R0 / (ab n * 2 ^ (k + 1)) * 2 ^ (k + 1) = q0 := ⟨_, rfl⟩
                  rw [hq0] at q4 hq1 HRW HY2
                  clear hS4 hS5 hrow4 hB4 hB3 hrow3 e8 hC h81 h71 hq0 hb
                  have hw := add_bit q0 k hq1
                  go_wp2
                  refine ⟨⟨k, by omega, rfl, ?_, ?_, ?_⟩, by simp [intOf]⟩
                  · exact Below.setCell HB4.out (Nat.le_refl _) _
                  · rw [HY2.out]
                    have h9 := HRW.out.set j ((q0 + 2 ^ k : Nat) : Int)
                    rw [List.set_set] at h9
                    rw [show ((q0 + 2 ^ k : Nat) : Int) = (q0 : Int) + 2 ^ k from by rw [Int.natCast_add, Int.natCast_pow]; rfl] at h9 ⊢
                    exact h9
                  · exact HS5.out.set (Nat.lt_succ_self _) _ _
                · have hC : decide (cmpN (R0 % (ab n * 2 ^ (k + 1))) (ab n * 2 ^ k) ≥ 0) = false := by unfold cmpN; rw [if_pos (by omega)]; rfl
                  obtain ⟨hy1, hy2⟩ := dig_no (R := R0) (k := k) (show 0 < ab n by unfold ab; omega) hle
                  have HY1 := Hd.mk hy1
                  have HY2 := Hd.mk hy2
                  have HRW := Hd.mk hrow3
                  have HB4 := Hd.mk hB3
                  clear hy1 hy2 hle hrow3 hB3 e8 h81 h71
                  go_wp2
                  refine ⟨⟨k, by omega, rfl, HB4.out, ?_, ?_⟩, by simp [intOf]⟩
                  · rw [HY2.out]; exact HRW.out
                  · rw [HY1.out]; exact HS8.out
theorem rquo_any (m n : Int) (hy0 : n ≠ 0) (u v : Value) (hlx : (dd (ab m)).length ≤ 1000) (hly : (dd (ab n)).length ≤ 200) (w : World) (hu : BigAt w u m) (hv : BigAt w v n) :
    Calls Try.prog 19 #[u, v] w fun e w' => ∃ q r, e = .returned (.tuple #[q, r]) ∧ BigAt w' q (m.tdiv n) ∧ BigAt w' r (m.tmod n) ∧ Below w.heap.size w w' := by
  by_cases h1 : (dd (ab m)).length ≤ 3
  · by_cases h2 : (dd (ab n)).length ≤ 3
    · exact rquo_few m n hy0 u v h1 h2 w hu hv
    · exact rquo_many2 m n hy0 u v hlx hly h1 h2 w hu hv
  · exact rquo_many1 m n hy0 u v hlx hly h1 w hu hv
end Go.Proofs.Yteibcklcegkbcaa
