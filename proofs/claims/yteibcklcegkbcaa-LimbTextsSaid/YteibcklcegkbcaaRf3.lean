/-
  Walks of the references: of. Conditions stand in each theorem.
-/
import Derived.Test.YteibcklcegkbcaaLm29
namespace Go.Proofs.Yteibcklcegkbcaa
open Go.RowKit Go.BigFrame

/-- A slice of digits that is read. -/
def DigAt (W : World) (A : Option Addr) (ds : List Int) : Prop :=
  ds.length ≤ 1000000 ∧ (0 < ds.length → ∃ b off, A = some ⟨b, off, none⟩ ∧ ∀ k x, ds[k]? = some x → W.cell? ⟨b, off + k, none⟩ = some (.int .i64 x))
theorem DigAt.below {W W1 : World} {A : Option Addr} {ds : List Int} (h : DigAt W A ds) (hb : Below W.heap.size W W1) : DigAt W1 A ds :=
  ⟨h.1, fun h0 => by
    obtain ⟨b, off, e, hc⟩ := h.2 h0
    exact ⟨b, off, e, fun k x hk => (hb.cell (World.block_lt_of_cell? W _ (hc k x hk))).trans (hc k x hk)⟩⟩
theorem DigAt.take {W : World} {A : Option Addr} {ds : List Int} (h : DigAt W A ds) (n : Nat) : DigAt W A (ds.take n) :=
  ⟨by have := h.1; rw [List.length_take]; omega, fun h0 => by
    have h1 : 0 < ds.length := by rw [List.length_take] at h0; omega
    obtain ⟨b, off, e, hc⟩ := h.2 h1
    refine ⟨b, off, e, fun k x hk => hc k x ?_⟩
    rw [List.getElem?_take] at hk
    split at hk
    · exact hk
    · cases hk⟩
/-- Digits without noughts behind: how many are left. -/
def keepN (ds : List Int) : Nat → Nat
  | 0 => 0
  | n + 1 => if ds[n]? = some 0 then keepN ds n else n + 1
theorem keepN_le (ds : List Int) : ∀ n, keepN ds n ≤ n
  | 0 => Nat.le_refl _
  | n + 1 => by
    unfold keepN
    split
    · have := keepN_le ds n; omega
    · exact Nat.le_refl _
def strip (ds : List Int) : List Int := ds.take (keepN ds ds.length)
theorem strip_length (ds : List Int) : (strip ds).length = keepN ds ds.length := by
  unfold strip
  rw [List.length_take]
  have := keepN_le ds ds.length
  omega
theorem DigAt.strip {W : World} {A A' : Option Addr} {ds : List Int} (h : DigAt W A ds) (hA : 0 < (strip ds).length → A' = A) : DigAt W A' (strip ds) := by
  refine ⟨(h.take _).1, fun h0 => ?_⟩
  rw [hA h0]
  exact (h.take _).2 h0
set_option maxHeartbeats 1000000 in
theorem cut_any (A : Option Addr) (c : Nat) (ds : List Int) (hc : ds.length ≤ c) (w : World) (h : DigAt w A ds) :
    Calls Try.prog 53 #[.slice A ds.length c] w fun e w' => (∃ A' : Option Addr, e = .returned (.slice A' (strip ds).length c) ∧ (0 < (strip ds).length → A' = A)) ∧ w' = w := by
  have hl := h.1
  have HH := Hd.mk h
  clear h
  go_enter Try.func53, Try.ntmps53
  go_wp2
  go_loopw [0] (fun v wr => ∃ (n : Nat) (A' : Option Addr), n ≤ ds.length ∧ v = .slice A' n c ∧ keepN ds n = keepN ds ds.length ∧ (0 < n → A' = A) ∧ wr = w) (fun v _ => match v with | .slice _ n _ => n | _ => 0)
  case atStart => exact ⟨ds.length, A, Nat.le_refl _, rfl, rfl, fun _ => rfl, rfl⟩
  case round =>
    obtain ⟨n, A', hn, rfl, hk, hA, rfl⟩ := hrel
    match n, hn, hk, hA with
    | 0, hn, hk, hA =>
      have HK := Hd.mk hk
      clear hk hA
      go_wp2
      go_ret
      refine ⟨⟨A', ?_, ?_⟩, rfl⟩
      · rw [strip_length, ← HK.out]; rfl
      · intro h0; rw [strip_length, ← HK.out] at h0; exact absurd h0 (by simp [keepN])
    | m + 1, hn, hk, hA =>
      obtain rfl : A' = A := hA (by omega)
      obtain ⟨b, off, rfl, hcell⟩ := HH.out.2 (by omega)
      obtain ⟨x, hx⟩ : ∃ x, ds[m]? = some x := ⟨_, List.getElem?_eq_getElem (by omega)⟩
      have e0 := hcell m x hx
      have hmc : m + 1 ≤ c := by omega
      have hmi : (m : Int) ≤ 1000000 := by omega
      by_cases h0 : x = 0
      · have hk2 : keepN ds m = keepN ds ds.length := by rw [← hk, keepN, if_pos (by rw [hx, h0])]
        have HK := Hd.mk hk2
        subst h0
        clear hk hA hcell hk2 hx
        go_wp2
        exact ⟨⟨m, _, by omega, rfl, HK.out, fun _ => rfl, trivial⟩, Nat.lt_succ_self m⟩
      · have hk2 : m + 1 = keepN ds ds.length := by rw [← hk, keepN, if_neg (by rw [hx]; simpa using h0)]
        have HK := Hd.mk hk2
        have hx0 : (x == 0) = false := by simpa using h0
        clear hk hA hcell hk2 hx h0
        go_wp2
        go_ret
        refine ⟨⟨some ⟨b, off, none⟩, ?_, fun _ => rfl⟩, rfl⟩
        rw [strip_length, ← HK.out]
        rfl
open Go.RowKit Go.BigFrame

/-- The digits of n to the base 65536, without noughts behind. -/
def dd (n : Nat) : List Int := if h : n = 0 then [] else ((n % 65536 : Nat) : Int) :: dd (n / 65536)
termination_by n
decreasing_by omega
theorem dd_zero : dd 0 = [] := by unfold dd; rw [dif_pos rfl]
theorem dd_pos {n : Nat} (h : n ≠ 0) : dd n = ((n % 65536 : Nat) : Int) :: dd (n / 65536) := by rw [dd]; rw [dif_neg h]
def val : List Int → Nat
  | [] => 0
  | x :: xs => x.toNat + 65536 * val xs
def Dg (ds : List Int) : Prop := ∀ x ∈ ds, 0 ≤ x ∧ x < 65536
theorem dd_dg : ∀ (k n : Nat), n < 65536 ^ k → Dg (dd n)
  | 0, n, h => by
    obtain rfl : n = 0 := by simpa using h
    rw [dd_zero]; intro x hx; cases hx
  | k + 1, n, h => by
    by_cases h0 : n = 0
    · rw [h0, dd_zero]; intro x hx; cases hx
    · rw [dd_pos h0]
      intro x hx
      rcases List.mem_cons.1 hx with rfl | hx
      · omega
      · exact dd_dg k (n / 65536) (Nat.div_lt_of_lt_mul (by rw [Nat.mul_comm]; simpa [Nat.pow_succ] using h)) x hx
theorem dd_range (n : Nat) : Dg (dd n) := dd_dg n n (Nat.lt_pow_self (by decide))
theorem val_dd : ∀ (k n : Nat), n < 65536 ^ k → val (dd n) = n
  | 0, n, h => by
    obtain rfl : n = 0 := by simpa using h
    rw [dd_zero]; rfl
  | k + 1, n, h => by
    by_cases h0 : n = 0
    · rw [h0, dd_zero]; rfl
    · rw [dd_pos h0, val, val_dd k (n / 65536) (Nat.div_lt_of_lt_mul (by rw [Nat.mul_comm]; simpa [Nat.pow_succ] using h))]
      omega
theorem val_of_dd (n : Nat) : val (dd n) = n := val_dd n n (Nat.lt_pow_self (by decide))
theorem val_append : ∀ (l m : List Int), val (l ++ m) = val l + 65536 ^ l.length * val m
  | [], m => by simp [val]
  | x :: l, m => by
    simp only [List.cons_append, val, val_append l m, List.length_cons, Nat.pow_succ]
    rw [Nat.mul_add, ← Nat.mul_assoc, Nat.mul_comm 65536 (65536 ^ l.length), Nat.add_assoc]
theorem val_keep (ds : List Int) : ∀ n, n ≤ ds.length → val (ds.take (keepN ds n)) = val (ds.take n)
  | 0, _ => rfl
  | n + 1, h => by
    unfold keepN
    split
    · rename_i h0
      rw [val_keep ds n (by omega), List.take_add_one, h0, val_append]
      simp [val]
    · rfl
theorem val_strip (ds : List Int) : val (strip ds) = val ds := by
  unfold strip
  rw [val_keep ds ds.length (Nat.le_refl _), List.take_length]
theorem keep_last (ds : List Int) : ∀ n m, keepN ds n = m + 1 → ds[m]? ≠ some 0
  | 0, m, h => by cases h
  | n + 1, m, h => by
    unfold keepN at h
    split at h
    · exact keep_last ds n m h
    · rename_i h0
      obtain rfl : n = m := by omega
      exact h0
theorem dd_val : ∀ (l : List Int), Dg l → (∀ m, l.length = m + 1 → l[m]? ≠ some 0) → dd (val l) = l
  | [], _, _ => dd_zero
  | x :: l, hd, hl => by
    have hx := hd x (by simp)
    have ih := dd_val l (fun y hy => hd y (by simp [hy])) (fun m hm => by
      have := hl (m + 1) (by simp [hm])
      simpa using this)
    have hne : val (x :: l) ≠ 0 := by
      unfold val
      cases l with
      | nil =>
        have := hl 0 rfl
        simp at this
        omega
      | cons y l =>
        have h1 : val (y :: l) ≠ 0 := by
          intro h0
          rw [h0, dd_zero] at ih
          cases ih
        omega
    rw [dd_pos hne]
    have e0 : val (x :: l) = x.toNat + 65536 * val l := rfl
    have e1 : val (x :: l) % 65536 = x.toNat := by omega
    have e2 : val (x :: l) / 65536 = val l := by omega
    rw [e1, e2, ih]
    congr 1
    omega
theorem strip_dd (ds : List Int) (h : Dg ds) : strip ds = dd (val ds) := by
  rw [← val_strip]
  refine (dd_val (strip ds) (fun x hx => h x (List.mem_of_mem_take hx)) (fun m hm => ?_)).symm
  rw [strip_length] at hm
  unfold strip
  rw [List.getElem?_take, if_pos (by omega)]
  exact keep_last ds _ m hm
/-- A Big of value z. -/
def BigAt (W : World) (v : Value) (z : Int) : Prop :=
  ∃ (A : Option Addr) (c : Nat), v = .agg #[.bool (ng z), .slice A (dd (ab z)).length c] ∧ (dd (ab z)).length ≤ c ∧ DigAt W A (dd (ab z))
theorem BigAt.below {W W1 : World} {v : Value} {z : Int} (h : BigAt W v z) (hb : Below W.heap.size W W1) : BigAt W1 v z := by
  obtain ⟨A, c, h1, h2, h3⟩ := h
  exact ⟨A, c, h1, h2, h3.below hb⟩
open Go.RowKit Go.BigFrame

theorem laid_both (b : Nat) (W : World) (v0 v1 : Value) {c : Array Value} {t : TypeId} (h : W.heap[b]? = some (.cells c t (0, 0))) (hs : c.size = 2) :
    ((W.setCell ⟨b, 0, none⟩ v0).setCell ⟨b, 1, none⟩ v1).heap[b]? = some (.cells #[v0, v1] t (0, 0)) := by
  obtain ⟨l⟩ := c
  match l, hs with
  | [a, e], _ =>
    have := heap_set (heap_set h 0 v0) 1 v1
    simpa using this
set_option maxHeartbeats 1000000 in
theorem rof_any (s : Bool) (A : Option Addr) (c : Nat) (ds : List Int) (hc : ds.length ≤ c) (hg : Dg ds) (w : World) (h : DigAt w A ds) :
    Calls Try.prog 50 #[.bool s, .slice A ds.length c] w fun e w' => ∃ v, e = .returned v ∧ BigAt w' v (zof s (val ds)) ∧ Below w.heap.size w w' := by
  have HH := Hd.mk h
  have hl := h.1
  have hsl : (strip ds).length ≤ ds.length := by unfold strip; rw [List.length_take]; omega
  clear h
  have hs : strip ds = dd (val ds) := strip_dd ds hg
  have HS := Hd.mk hs
  by_cases hn : 0 < (strip ds).length
  · have hv : val ds ≠ 0 := fun h0 => by rw [hs, h0, dd_zero] at hn; exact absurd hn (by simp)
    cases s
    · have HN : Hd (ng (zof false (val ds)) = false) := ⟨by rw [ng_zof]; rfl⟩
      clear hs hv
      go_enter Try.func50, Try.ntmps50
      go_wp2_with fail
      refine (cut_any A c ds hc _ (HH.out.below (by focus (repeat (first | (with_reducible exact Below.refl _ _) | (with_reducible assumption) | ((with_reducible refine Below.setCell ?_ ?_ _); rotate_left; (focus (first | omega | (simp; done) | (simp; omega)))) | ((with_reducible refine Below.alloc ?_ ?_ _); rotate_left; (focus (first | omega | (simp; done) | (simp; omega)))) | (with_reducible refine Below.drew ?_) | (refine below_on ?_ (by assumption))))))).mono ?_
      rintro e w1 ⟨⟨A', rfl, hd⟩, rfl⟩
      have HD := Hd.mk hd
      clear hd
      go_wp2
      refine abs_post (fun W => W.heap[w.heap.size]? = some (.cells #[.bool (ng (zof false (val ds))), .slice A' (strip ds).length c] 38 (0, 0)) ∧ DigAt W A' (strip ds) ∧ Below w.heap.size w W) ?_ fun W ⟨y0, hD, hB⟩ => ?_
      · rw [HN.out]
        refine ⟨?_, (HH.out.below (by focus (repeat (first | (with_reducible exact Below.refl _ _) | (with_reducible assumption) | ((with_reducible refine Below.setCell ?_ ?_ _); rotate_left; (focus (first | omega | (simp; done) | (simp; omega)))) | ((with_reducible refine Below.alloc ?_ ?_ _); rotate_left; (focus (first | omega | (simp; done) | (simp; omega)))) | (with_reducible refine Below.drew ?_) | (refine below_on ?_ (by assumption)))))).strip HD.out, by focus (repeat (first | (with_reducible exact Below.refl _ _) | (with_reducible assumption) | ((with_reducible refine Below.setCell ?_ ?_ _); rotate_left; (focus (first | omega | (simp; done) | (simp; omega)))) | ((with_reducible refine Below.alloc ?_ ?_ _); rotate_left; (focus (first | omega | (simp; done) | (simp; omega)))) | (with_reducible refine Below.drew ?_) | (refine below_on ?_ (by assumption))))⟩
        first | exact heap_new _ _ | (rw [hn0]; exact heap_new _ _)
      · have c1 := cell_at y0
        refine bodyPost_ret (by simp [results, Try.results50, go_sem, c1]; rfl) rfl ⟨_, rfl, ⟨A', c, ?_, ?_, ?_⟩, hB⟩
        · rw [ab_zof, HS.out]
        · rw [ab_zof, ← HS.out]; omega
        · rw [ab_zof, ← HS.out]; exact hD
    · have HN : Hd (ng (zof true (val ds)) = true) := ⟨by rw [ng_zof]; simp [hv]⟩
      clear hs hv
      go_enter Try.func50, Try.ntmps50
      go_wp2_with fail
      refine (cut_any A c ds hc _ (HH.out.below (by focus (repeat (first | (with_reducible exact Below.refl _ _) | (with_reducible assumption) | ((with_reducible refine Below.setCell ?_ ?_ _); rotate_left; (focus (first | omega | (simp; done) | (simp; omega)))) | ((with_reducible refine Below.alloc ?_ ?_ _); rotate_left; (focus (first | omega | (simp; done) | (simp; omega)))) | (with_reducible refine Below.drew ?_) | (refine below_on ?_ (by assumption))))))).mono ?_
      rintro e w1 ⟨⟨A', rfl, hd⟩, rfl⟩
      have HD := Hd.mk hd
      clear hd
      go_wp2
      refine abs_post (fun W => W.heap[w.heap.size]? = some (.cells #[.bool (ng (zof true (val ds))), .slice A' (strip ds).length c] 38 (0, 0)) ∧ DigAt W A' (strip ds) ∧ Below w.heap.size w W) ?_ fun W ⟨y0, hD, hB⟩ => ?_
      · rw [HN.out]
        refine ⟨?_, (HH.out.below (by focus (repeat (first | (with_reducible exact Below.refl _ _) | (with_reducible assumption) | ((with_reducible refine Below.setCell ?_ ?_ _); rotate_left; (focus (first | omega | (simp; done) | (simp; omega)))) | ((with_reducible refine Below.alloc ?_ ?_ _); rotate_left; (focus (first | omega | (simp; done) | (simp; omega)))) | (with_reducible refine Below.drew ?_) | (refine below_on ?_ (by assumption)))))).strip HD.out, by focus (repeat (first | (with_reducible exact Below.refl _ _) | (with_reducible assumption) | ((with_reducible refine Below.setCell ?_ ?_ _); rotate_left; (focus (first | omega | (simp; done) | (simp; omega)))) | ((with_reducible refine Below.alloc ?_ ?_ _); rotate_left; (focus (first | omega | (simp; done) | (simp; omega)))) | (with_reducible refine Below.drew ?_) | (refine below_on ?_ (by assumption))))⟩
        first | exact heap_new _ _ | (rw [hn0]; exact heap_new _ _)
      · have c1 := cell_at y0
        refine bodyPost_ret (by simp [results, Try.results50, go_sem, c1]; rfl) rfl ⟨_, rfl, ⟨A', c, ?_, ?_, ?_⟩, hB⟩
        · rw [ab_zof, HS.out]
        · rw [ab_zof, ← HS.out]; omega
        · rw [ab_zof, ← HS.out]; exact hD
  · have hn0 : (strip ds).length = 0 := by omega
    have hv : val ds = 0 := by
      rw [← val_of_dd (val ds), ← hs, List.eq_nil_of_length_eq_zero hn0]; rfl
    cases s
    · have HN : Hd (ng (zof false (val ds)) = false) := ⟨by rw [ng_zof]; rfl⟩
      clear hs hv hn
      go_enter Try.func50, Try.ntmps50
      go_wp2_with fail
      refine (cut_any A c ds hc _ (HH.out.below (by focus (repeat (first | (with_reducible exact Below.refl _ _) | (with_reducible assumption) | ((with_reducible refine Below.setCell ?_ ?_ _); rotate_left; (focus (first | omega | (simp; done) | (simp; omega)))) | ((with_reducible refine Below.alloc ?_ ?_ _); rotate_left; (focus (first | omega | (simp; done) | (simp; omega)))) | (with_reducible refine Below.drew ?_) | (refine below_on ?_ (by assumption))))))).mono ?_
      rintro e w1 ⟨⟨A', rfl, hd⟩, rfl⟩
      have HD := Hd.mk hd
      clear hd
      go_wp2
      refine abs_post (fun W => W.heap[w.heap.size]? = some (.cells #[.bool (ng (zof false (val ds))), .slice A' (strip ds).length c] 38 (0, 0)) ∧ DigAt W A' (strip ds) ∧ Below w.heap.size w W) ?_ fun W ⟨y0, hD, hB⟩ => ?_
      · rw [HN.out]
        refine ⟨?_, (HH.out.below (by focus (repeat (first | (with_reducible exact Below.refl _ _) | (with_reducible assumption) | ((with_reducible refine Below.setCell ?_ ?_ _); rotate_left; (focus (first | omega | (simp; done) | (simp; omega)))) | ((with_reducible refine Below.alloc ?_ ?_ _); rotate_left; (focus (first | omega | (simp; done) | (simp; omega)))) | (with_reducible refine Below.drew ?_) | (refine below_on ?_ (by assumption)))))).strip HD.out, by focus (repeat (first | (with_reducible exact Below.refl _ _) | (with_reducible assumption) | ((with_reducible refine Below.setCell ?_ ?_ _); rotate_left; (focus (first | omega | (simp; done) | (simp; omega)))) | ((with_reducible refine Below.alloc ?_ ?_ _); rotate_left; (focus (first | omega | (simp; done) | (simp; omega)))) | (with_reducible refine Below.drew ?_) | (refine below_on ?_ (by assumption))))⟩
        first | exact heap_new _ _ | (rw [hn0]; exact heap_new _ _)
      · have c1 := cell_at y0
        refine bodyPost_ret (by simp [results, Try.results50, go_sem, c1]; rfl) rfl ⟨_, rfl, ⟨A', c, ?_, ?_, ?_⟩, hB⟩
        · rw [ab_zof, HS.out]
        · rw [ab_zof, ← HS.out]; omega
        · rw [ab_zof, ← HS.out]; exact hD
    · have HN : Hd (ng (zof true (val ds)) = false) := ⟨by rw [ng_zof, hv]; rfl⟩
      clear hs hv hn
      go_enter Try.func50, Try.ntmps50
      go_wp2_with fail
      refine (cut_any A c ds hc _ (HH.out.below (by focus (repeat (first | (with_reducible exact Below.refl _ _) | (with_reducible assumption) | ((with_reducible refine Below.setCell ?_ ?_ _); rotate_left; (focus (first | omega | (simp; done) | (simp; omega)))) | ((with_reducible refine Below.alloc ?_ ?_ _); rotate_left; (focus (first | omega | (simp; done) | (simp; omega)))) | (with_reducible refine Below.drew ?_) | (refine below_on ?_ (by assumption))))))).mono ?_
      rintro e w1 ⟨⟨A', rfl, hd⟩, rfl⟩
      have HD := Hd.mk hd
      clear hd
      go_wp2
      refine abs_post (fun W => W.heap[w.heap.size]? = some (.cells #[.bool (ng (zof true (val ds))), .slice A' (strip ds).length c] 38 (0, 0)) ∧ DigAt W A' (strip ds) ∧ Below w.heap.size w W) ?_ fun W ⟨y0, hD, hB⟩ => ?_
      · rw [HN.out]
        refine ⟨?_, (HH.out.below (by focus (repeat (first | (with_reducible exact Below.refl _ _) | (with_reducible assumption) | ((with_reducible refine Below.setCell ?_ ?_ _); rotate_left; (focus (first | omega | (simp; done) | (simp; omega)))) | ((with_reducible refine Below.alloc ?_ ?_ _); rotate_left; (focus (first | omega | (simp; done) | (simp; omega)))) | (with_reducible refine Below.drew ?_) | (refine below_on ?_ (by assumption)))))).strip HD.out, by focus (repeat (first | (with_reducible exact Below.refl _ _) | (with_reducible assumption) | ((with_reducible refine Below.setCell ?_ ?_ _); rotate_left; (focus (first | omega | (simp; done) | (simp; omega)))) | ((with_reducible refine Below.alloc ?_ ?_ _); rotate_left; (focus (first | omega | (simp; done) | (simp; omega)))) | (with_reducible refine Below.drew ?_) | (refine below_on ?_ (by assumption))))⟩
        first | exact heap_new _ _ | (rw [hn0]; exact heap_new _ _)
      · have c1 := cell_at y0
        refine bodyPost_ret (by simp [results, Try.results50, go_sem, c1]; rfl) rfl ⟨_, rfl, ⟨A', c, ?_, ?_, ?_⟩, hB⟩
        · rw [ab_zof, HS.out]
        · rw [ab_zof, ← HS.out]; omega
        · rw [ab_zof, ← HS.out]; exact hD
end Go.Proofs.Yteibcklcegkbcaa
