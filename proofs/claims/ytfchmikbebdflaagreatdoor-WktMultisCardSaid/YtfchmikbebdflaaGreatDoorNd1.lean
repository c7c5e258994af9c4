/-
  The ends of a segment: the iterator and its contract. Conditions stand in each theorem.
-/
import Derived.LoopIn
import Derived.LoopNIn
import Derived.OwnWalkIn
import Derived.RangeFuncBound
import Derived.RangeFuncBox
import Derived.RangeFuncCalls
import Derived.RangeFuncLeaves
import Derived.RangeFuncNested
import Derived.Shelf.Abstract
import Derived.Shelf.RegionOpen
import Derived.TacticsInMore
import Derived.Test.YtfchmikbebdflaaGreatDoorLm5
namespace Go.Proofs.YtfchmikbebdflaaGreatDoor
open Go.RowKit Go.BigFrame Go.Shelf
attribute [local go_sem] Oper.semAt_some

/-- What has come when k rounds are over. -/
def upto {α : Type} (f : Nat → α) (k : Nat) : List α := (List.range k).map f
theorem upto_succ {α : Type} (f : Nat → α) (k : Nat) : upto f (k + 1) = upto f k ++ [f k] := by simp [upto, List.range_succ]
theorem upto_length {α : Type} (f : Nat → α) (k : Nat) : (upto f k).length = k := by simp [upto]

set_option maxRecDepth 100000 in
set_option maxHeartbeats 2000000 in
theorem back_in (F : Fence) (n : Nat) (h8 : F.fn 176) (hro : F.round = none) (hn : 1 ≤ n) (l Bs n₀ b off len cap : Nat) (zs : List Int) (hreach : len * 8 ≤ 140737488351232) (hb : b < n₀) (hBs0 : Bs < n₀) {α : Type} (f : Nat → α) (encs : α → Array Value) (hf : ∀ k, k < len → encs (f k) = #[.int .i64 ((len : Int) - 1 - (k : Int)), .int .u64 (zs[len - 1 - k]?.getD 0)]) (J Jx : List α → World → Prop)
    (hY : ∀ pre x W, J pre W → pre.length < len → YieldAt F (n - 1) Tryz.prog l (encs x) W fun e W' =>
      (e = .returned (.bool true) ∧ J (pre ++ [x]) W' ∧ Below n₀ W W') ∨ (e = .returned (.bool false) ∧ Jx (pre ++ [x]) W'))
    (W : World) (hBs : W.cell? ⟨Bs, 0, none⟩ = some (.slice (some ⟨b, off, none⟩) len cap)) (hc : ∀ j, j < len → W.cell? ⟨b, off + j, none⟩ = some (.int .u64 (zs[j]?.getD 0))) (h0 : J [] W) :
    CallsIn F n Tryz.prog 176 #[.func (.yield l) #[] #[], .pointer (some ⟨Bs, 0, none⟩)] W fun e W' => (∃ v, e = .returned v) ∧
      ((∃ ys, ys = upto f len ∧ J ys W') ∨ (∃ pre, (∃ k, k ≤ len ∧ pre = upto f k) ∧ Jx pre W')) := by
  refine callsIn_of_wp Tryz.func176 rfl h8 ?_ hro
  simp only [Tryz.ntmps176, List.size_toArray, List.length_cons, List.length_nil, Nat.reduceAdd, Nat.reduceSub, Array.replicate_succ, Array.replicate_zero, List.push_toArray, List.append_toArray, List.nil_append, List.cons_append]
  gi_wp2
  gi_loopw [3] (fun i wr => ∃ k : Nat, k ≤ len ∧ i = .int .i64 ((len : Int) - 1 - (k : Int)) ∧ J (upto f k) wr ∧ Below n₀ W wr)
    (fun i _ => (intOf i + 1).toNat)
  case atStart => 
    refine ⟨0, Nat.zero_le _, ?_, h0, Below.refl _ _⟩
    simp
  case round =>
    obtain ⟨k, hk, rfl, hJs, hnx⟩ := hrel
    have hcB := (hnx.cell (p := ⟨Bs, 0, none⟩) hBs0).trans hBs
    by_cases hlt : k < len
    · have hcx : wr.cell? ⟨b, off + (len - 1 - k), none⟩ = some (.int .u64 (zs[len - 1 - k]?.getD 0)) := (hnx.cell (p := ⟨b, off + (len - 1 - k), none⟩) hb).trans (hc _ (by omega))
      obtain ⟨fn, tmps, assign, body, hy, hR⟩ := hY _ (f k) wr hJs (by rw [upto_length]; exact hlt)
      rw [hf k hlt] at hy
      gi_wp2
      refine hR.mono ?_
      rintro e W3 (⟨rfl, hJ3, hk3⟩ | ⟨rfl, hJx3⟩)
      · gi_wp2
        go_roundw
        case rel =>
          refine ⟨k + 1, by omega, ?_, by rw [upto_succ]; exact hJ3, hnx.trans hk3⟩
          congr 1
          omega
        case measure => simp [intOf]; omega
      · gi_wp2
        refine bodyPost_ret (results_none rfl _ _ _) rfl ?_
        exact ⟨⟨_, rfl⟩, .inr ⟨_, ⟨k + 1, by omega, (upto_succ _ _).symm⟩, hJx3⟩⟩
    · obtain rfl : k = len := by omega
      gi_wp2
      go_end0
      exact ⟨⟨_, rfl⟩, .inl ⟨_, rfl, hJs⟩⟩

set_option maxHeartbeats 1000000 in
theorem backward_in (F : Fence) (n : Nat) (h6 : F.fn 160) (hro : F.round = none) (a : Option Addr) (len cap : Nat) (w : World) :
    CallsIn F n Tryz.prog 160 #[.slice a len cap] w fun e w' => e = .returned (.func (.func 176) #[] #[.pointer (some ⟨w.heap.size, 0, none⟩)]) ∧ w' = w.alloc (.cells #[.slice a len cap] 222) := by
  refine callsIn_of_wp Tryz.func160 rfl h6 ?_ hro
  simp only [Tryz.ntmps160, List.size_toArray, List.length_cons, List.length_nil, Nat.reduceAdd, Nat.reduceSub, Array.replicate_succ, Array.replicate_zero, List.push_toArray, List.append_toArray, List.nil_append, List.cons_append]
  gi_wp2
  go_ret
  exact ⟨rfl, rfl⟩

theorem back_stops (F : Fence) (n : Nat) (h8 : F.fn 176) (hro : F.round = none) (hn : 1 ≤ n) (Bs n₀ b off cap : Nat) (zs : List Int) (hreach : zs.length * 8 ≤ 140737488351232) (w : World) (hb : b < n₀) (hBs : Bs < n₀) (hn₀ : n₀ ≤ w.heap.size)
    (hc : w.cell? ⟨Bs, 0, none⟩ = some (.slice (some ⟨b, off, none⟩) zs.length cap)) (hz : ∀ j, j < zs.length → w.cell? ⟨b, off + j, none⟩ = some (.int .u64 (zs[j]?.getD 0)))
    {α : Type} (f : Nat → α) (encs : α → Array Value) (hf : ∀ k, k < zs.length → encs (f k) = #[.int .i64 ((zs.length : Int) - 1 - (k : Int)), .int .u64 (zs[zs.length - 1 - k]?.getD 0)]) :
    SeqStopsK F n Tryz.prog 176 #[.pointer (some ⟨Bs, 0, none⟩)] encs (Below n₀)
      (fun ys => ys = upto f zs.length) (fun pre => ∃ k, k ≤ zs.length ∧ pre = upto f k) zs.length w := fun l J Jx W hW _ _ hY h0 =>
  back_in F n h8 hro hn l Bs n₀ b off zs.length cap zs hreach hb hBs f encs hf J Jx hY W ((hW.cell (p := ⟨Bs, 0, none⟩) (Nat.lt_of_lt_of_le hBs hn₀)).trans hc)
    (fun j hj => (hW.cell (p := ⟨b, off + j, none⟩) (Nat.lt_of_lt_of_le hb hn₀)).trans (hz j hj)) h0

/-- The digits of a magnitude, the lowest ahead. -/
def digs (a : Nat) : List Int := [dg a 0, dg a 1, dg a 2, dg a 3]

/-- The number of the digits from i on. -/
theorem topN_digs (a i : Nat) (hz : ∀ j, i < j → j < 4 → dg a j = 0) (ha : a < 2 ^ 256) (hi : i < 4) (hne : dg a i ≠ 0) : topN a = 64 * i + topN (dg a i).toNat := by
  have hlt : a < 2 ^ (64 * (i + 1)) := by
    have key : ∀ m, i + 1 ≤ m → m ≤ 4 → a % 2 ^ (64 * m) = a % 2 ^ (64 * (i + 1)) := by
      intro m h1
      induction m with
      | zero => omega
      | succ m ih =>
        intro h2
        by_cases he : m + 1 = i + 1
        · rw [he]
        · have hm : dg a m = 0 := hz m (by omega) (by omega)
          have hm' : a / 2 ^ (64 * m) % 18446744073709551616 = 0 := by have := dg_toNat a m; rw [hm] at this; simpa using this.symm
          rw [pow_step, mod_step a, hm', Nat.mul_zero, Nat.zero_add]
          exact ih (by omega) (by omega)
    have h4 := key 4 (by omega) (by omega)
    rw [show 64 * 4 = 256 from rfl, Nat.mod_eq_of_lt ha] at h4
    rw [h4]
    exact Nat.mod_lt _ (Nat.two_pow_pos _)
  have hd : (dg a i).toNat = a / 2 ^ (64 * i) := by
    rw [dg_toNat, Nat.mod_eq_of_lt]
    rw [Nat.div_lt_iff_lt_mul (Nat.two_pow_pos _), Nat.mul_comm, ← pow_step]
    exact hlt
  rw [hd]
  refine topN_shift a (64 * i) ?_
  have hp := Nat.two_pow_pos (64 * i)
  have h0 : a / 2 ^ (64 * i) ≠ 0 := by
    intro h
    apply hne
    have := dg_nonneg a i
    omega
  rcases Nat.lt_or_ge a (2 ^ (64 * i)) with h | h
  · exact absurd (Nat.div_eq_of_lt h) h0
  · exact h

theorem len_dg (a i : Nat) (w : World) : Calls Tryz.prog 121 #[.int .u64 (dg a i)] w fun e w' => e = .returned (.int .i64 (topN (dg a i).toNat)) ∧ w = w' := by
  have h1 := dg_lt a i
  obtain ⟨y, hy⟩ := Int.eq_ofNat_of_zero_le (dg_nonneg a i)
  rw [hy] at h1 ⊢
  exact len_any y (by omega) w
theorem heap_put {W : World} {b D : Nat} {o : Obj} (h : W.heap[b]? = some o) (hne : b ≠ D) (o' : Obj) : (W.putObj D o').heap[b]? = some o := (World.putObj_heap_other hne).trans h
theorem below_put {w W : World} {D : Nat} (hB : Below w.heap.size w W) (hD : w.heap.size ≤ D) (o' : Obj) : Below w.heap.size w (W.putObj D o') :=
  hB.grown (grownBy_putObj' W D o') hB.size (fun k e => by cases e; exact hD)

set_option maxRecDepth 100000 in
set_option maxHeartbeats 2000000 in
theorem top_any (a : Nat) (ha : a < 2 ^ 256) (w : World) :
    Calls Tryz.prog 135 #[.agg #[.int .u64 (dg (a) 0), .int .u64 (dg (a) 1), .int .u64 (dg (a) 2), .int .u64 (dg (a) 3)]] w fun e w' => e = .returned (.int .i64 (topN a)) ∧ Below w.heap.size w w' := by
  have HA := Hd.mk ha
  clear ha
  refine (callsIn_wide (n := 5)).1 ?_
  refine callsIn_of_wp_marks Tryz.func135 rfl trivial ?_ rfl
  simp only [Tryz.ntmps135, List.size_toArray, List.length_cons, List.length_nil, Nat.reduceAdd, Nat.reduceSub, Array.replicate_succ, Array.replicate_zero, List.push_toArray, List.append_toArray, List.nil_append, List.cons_append]
  gi_wp2_with (refine ⟨trivial, ?_⟩; gi_at_call 160; refine (backward_in Fence.wide _ trivial rfl _ _ _ _).mono ?_; rintro e w' ⟨rfl, rfl⟩)
  obtain ⟨W0, h0, h1, h2, hB0⟩ : ∃ W0, W0 = (((w.alloc (.cells #[.int .u64 (dg (a) 0), .int .u64 (dg (a) 1), .int .u64 (dg (a) 2), .int .u64 (dg (a) 3)] 168)).alloc (.cells #[.int .i64 0] 3)).alloc (.cells #[.slice (some ⟨w.heap.size, 0, none⟩) 4 4] 222)) ∧ True ∧ True ∧ True := ⟨_, rfl, trivial, trivial, trivial⟩
  rw [← h0]
  have hz0 : W0.heap[w.heap.size]? = some (.cells #[.int .u64 (dg (a) 0), .int .u64 (dg (a) 1), .int .u64 (dg (a) 2), .int .u64 (dg (a) 3)] 168 (0, 0)) := by rw [h0]; exact heap_old (heap_old (heap_new _ _) _) _
  have hz1 : W0.heap[w.heap.size + 1]? = some (.cells #[.int .i64 0] 3 (0, 0)) := by rw [h0]; exact heap_old (heap_at (by simp) _) _
  have hz2 : W0.heap[w.heap.size + 2]? = some (.cells #[.slice (some ⟨w.heap.size, 0, none⟩) 4 4] 222 (0, 0)) := by rw [h0]; exact heap_at (by simp) _
  have hBW : Below w.heap.size w W0 := by
    rw [h0]
    focus (repeat (first | (with_reducible exact Below.refl _ _) | (with_reducible assumption) | ((with_reducible refine Below.setCell ?_ ?_ _); rotate_left; (focus (first | omega | (simp; done) | (simp; omega)))) | ((with_reducible refine Below.alloc ?_ ?_ _); rotate_left; (focus (first | omega | (simp; done) | (simp; omega)))) | (with_reducible refine Below.drew ?_) | (refine below_on ?_ (by assumption))))
  have hsz : W0.heap.size = w.heap.size + 3 := by rw [h0]; simp
  clear h0 h1 h2 hB0
  refine wpIn_rangeFunc_ownG rfl (by omega) (gf := 176) (lb := #[.pointer (some ⟨w.heap.size + 2, 0, none⟩)]) rfl trivial (enters_of Tryz.func176 (by kernel_rfl) rfl)
    (back_stops Fence.wide _ trivial rfl (by omega) (w.heap.size + 2) W0.heap.size w.heap.size 0 4 (digs a) (by simp [digs]) W0 (by omega) (by omega) (Nat.le_refl _) (cell_at hz2 0) (fun j hj => by
      have hj4 : j < 4 := by simpa [digs] using hj
      obtain rfl | rfl | rfl | rfl : j = 0 ∨ j = 1 ∨ j = 2 ∨ j = 3 := by omega
      all_goals simp [cell_at hz0, digs]) (fun k => (⟨3 - k, by omega⟩ : Fin 4)) (fun i : Fin 4 => #[.int .i64 (i.1 : Int), .int .u64 (dg a i.1)]) (fun k hk => by
      have hk4 : k < 4 := by simpa [digs] using hk
      obtain rfl | rfl | rfl | rfl : k = 0 ∨ k = 1 ∨ k = 2 ∨ k = 3 := by omega
      all_goals simp [digs])) belowK_t (belowK_b (Nat.le_refl _)) (Below.refl _ _) (fun _ => rfl)
    (fun pre W => ((∀ p ∈ pre, dg a p.1 = 0) ∧ W.heap[w.heap.size + 1]? = some (.cells #[.int .i64 0] 3 (0, 0))) ∧ Below w.heap.size w W)
    (fun c pre W => (c = .ret ∧ ∃ ini last, pre = ini ++ [last] ∧ (∀ p ∈ ini, dg a p.1 = 0) ∧ dg a last.1 ≠ 0 ∧ W.heap[w.heap.size + 1]? = some (.cells #[.int .i64 (64 * last.1 + topN (dg a last.1).toNat)] 3 (0, 0))) ∧ Below w.heap.size w W)
    (OwnFrom.and (fun s A B row hs hg hr => ⟨hs.1, by
      rw [hg.block _ (lt_of_block hs.2) (fun e => by have := (hr _ e.symm).1; omega)]; exact hs.2⟩) (ownFrom_below (Nat.le_refl _) (by omega)))
    (fun c => OwnFrom.and (fun s A B row hs hg hr => by
      obtain ⟨hc, ini, last, e1, e2, e3, e4⟩ := hs
      exact ⟨hc, ini, last, e1, e2, e3, by rw [hg.block _ (lt_of_block e4) (fun e => by have := (hr _ e.symm).1; omega)]; exact e4⟩) (ownFrom_below (Nat.le_refl _) (by omega)))
    ⟨⟨by simp, hz1⟩, hBW⟩
    (fun x => { tmps := #[.agg #[.int .u64 (dg (a) 0), .int .u64 (dg (a) 1), .int .u64 (dg (a) 2), .int .u64 (dg (a) 3)], .pointer (some ⟨w.heap.size, 0, none⟩), .pointer (some ⟨w.heap.size + 1, 0, none⟩), .int .i64 (x.1 : Int), .int .u64 (dg a x.1), .slice (some ⟨w.heap.size, 0, none⟩) 4 4, .func (.func 176) #[] #[.pointer (some ⟨w.heap.size + 2, 0, none⟩)], .int .i64 (x.1 : Int), .int .u64 (dg a x.1), undef, undef, undef, undef, undef, undef, undef], defers := [] }) ?assign ?body ?done ?stop
  case assign =>
    intro l x W K hK
    gi_wp2
    exact hK
  case body =>
    rintro l pre ⟨i, hi⟩ W ⟨⟨hp, hc⟩, hB⟩ _
    dsimp only
    have hcc := cell_at hc
    have hff := frozen_at hc
    by_cases hx : dg a i = 0
    · have hx' : (dg a i != 0) = false := by simp [hx]
      have HX := Hd.mk hx
      clear hx
      gi_wp2
      exact ⟨KeepsFrom.refl _ _, Below.refl _ _, ⟨fun p hp' => (List.mem_append.1 hp').elim (hp p) (fun e => by simp at e; subst e; exact HX.out), hc⟩, hB⟩
    · have hx' : (dg a i != 0) = true := by simp [hx]
      have HX := Hd.mk hx
      clear hx
      have hi2 : (i : Int) < 4 := by omega
      have ht : topN (dg a i).toNat ≤ 64 := topN_le (by have := dg_lt a i; omega)
      gi_wp2_with (refine ⟨trivial, ?_⟩; gi_at_call 121; refine (CallsIn.inRound l (callsIn_wide.2 (len_dg a i _))).mono ?_; rintro e w' ⟨rfl, rfl⟩)
      refine ⟨(KeepsOthers.setCell _ _ _).from _, ⟨rfl, pre, ⟨i, hi⟩, rfl, hp, HX.out, ?_⟩, ?_⟩
      · exact (heap_set hc _ _).trans (by simp)
      focus (repeat (first | (with_reducible exact Below.refl _ _) | (with_reducible assumption) | ((with_reducible refine Below.setCell ?_ ?_ _); rotate_left; (focus (first | omega | (simp; done) | (simp; omega)))) | ((with_reducible refine Below.alloc ?_ ?_ _); rotate_left; (focus (first | omega | (simp; done) | (simp; omega)))) | (with_reducible refine Below.drew ?_) | (refine below_on ?_ (by assumption))))
  case done =>
    rintro D ys W hD rfl ⟨⟨hne, hc⟩, hB⟩ hK
    have hcc := cell_at hc
    have hff := frozen_at hc
    gi_wp2
    have hK' := (KeepsOthers.setCell W ⟨w.heap.size + 1, 0, none⟩ (.int .i64 0)).same D _ hK rfl
    have hc5 := cell_at (heap_put (heap_set hc 0 (.int .i64 0)) (by omega : w.heap.size + 1 ≠ D) (.deferred none))
    refine ⟨by simp, .inl ⟨_, _, rfl, run_takeDeferred hK', ?_⟩⟩
    refine ⟨.int .i64 0, ?_, ?_, ?_⟩
    · simp [results, Tryz.f135, go_sem, hc5]
    · have h0 : a = 0 := (dg_eq_zero HA.out).1 ⟨hne ⟨0, by omega⟩ (by simp [upto, digs]; exact ⟨3, by omega, rfl⟩), hne ⟨1, by omega⟩ (by simp [upto, digs]; exact ⟨2, by omega, rfl⟩), hne ⟨2, by omega⟩ (by simp [upto, digs]; exact ⟨1, by omega, rfl⟩), hne ⟨3, by omega⟩ (by simp [upto, digs]; exact ⟨0, by omega, rfl⟩)⟩
      rw [h0]; rfl
    · exact below_put (hB.setCell (p := ⟨w.heap.size + 1, 0, none⟩) (by simp) _) (by omega) _
  case stop =>
    rintro D c pre W hD ⟨k, hk, rfl⟩ ⟨⟨rfl, ini, last, e1, e2, e3, hc⟩, hB⟩ hK
    gi_wp2
    have hc5 := cell_at (heap_put hc (by omega : w.heap.size + 1 ≠ D) (.deferred none))
    refine ⟨by simp, .inl ⟨_, _, rfl, run_takeDeferred hK, ?_⟩⟩
    have hk4 : k ≤ 4 := by simpa [digs] using hk
    obtain ⟨k', rfl⟩ : ∃ k', k = k' + 1 := by
      cases k with
      | zero => simp [upto] at e1
      | succ k' => exact ⟨k', rfl⟩
    rw [upto_succ] at e1
    obtain ⟨rfl, e5⟩ := List.append_inj' e1 rfl
    obtain rfl : (⟨3 - k', by omega⟩ : Fin 4) = last := by simpa using e5
    refine ⟨.int .i64 (topN a), ?_, rfl, below_put hB (by omega) _⟩
    have ht : topN a = 64 * (3 - k') + topN (dg a (3 - k')).toNat := topN_digs a (3 - k') (fun j h1 h2 => e2 ⟨j, h2⟩ (by simp only [upto, List.mem_map, List.mem_range]; exact ⟨3 - j, by omega, by simp; omega⟩)) HA.out (by omega) e3
    simp only [results, Tryz.f135]
    rw [ht]
    simp [go_sem, hc5]
end Go.Proofs.YtfchmikbebdflaaGreatDoor

namespace Go.Proofs.YtfchmikbebdflaaGreatDoor
open Go.RowKit Go.BigFrame Go.Shelf

/-- What lies from B on stays. -/
structure Calm (B : Nat) (W W' : World) : Prop where
  size : W.heap.size ≤ W'.heap.size
  same : ∀ k, B ≤ k → k < W.heap.size → W'.heap[k]? = W.heap[k]?
theorem Calm.refl (B : Nat) (W : World) : Calm B W W := ⟨Nat.le_refl _, fun _ _ _ => rfl⟩
theorem Calm.trans {B : Nat} {X Y Z : World} (h : Calm B X Y) (k : Calm B Y Z) : Calm B X Z :=
  ⟨Nat.le_trans h.size k.size, fun i hB hi => (k.same i hB (Nat.lt_of_lt_of_le hi h.size)).trans (h.same i hB hi)⟩
theorem Calm.mono {B B' : Nat} {X Y : World} (h : Calm B X Y) (hB : B ≤ B') : Calm B' X Y := ⟨h.size, fun k hk => h.same k (Nat.le_trans hB hk)⟩
theorem Calm.of_below {B n : Nat} {X Y : World} (h : Below n X Y) (hn : X.heap.size ≤ n) : Calm B X Y := ⟨h.size, fun k _ hk => h.block k (Nat.lt_of_lt_of_le hk hn)⟩
theorem Calm.keep {B : Nat} {X Y : World} {k : Nat} {o : Obj} (h : Calm B X Y) (hB : B ≤ k) (hk : X.heap[k]? = some o) : Y.heap[k]? = some o := (h.same k hB (Array.getElem?_eq_some_iff.1 hk).1).trans hk
theorem Calm.put {B : Nat} (W : World) (r : Nat) (o : Obj) (h : r < B) : Calm B W (W.putObj r o) := ⟨by simp, fun _ hB _ => World.putObj_heap_other (by omega)⟩
theorem Calm.setCell {B : Nat} (W : World) (p : Addr) (v : Value) (h : p.block < B) : Calm B W (W.setCell p v) :=
  ⟨(KeepsWalks.setCell W p v).size, fun k hB _ => Below.heap_setCell W p v k (by omega)⟩
/-- What does not mind what happens from B on. -/
def Firm {β : Type} (B : Nat) (J : β → World → Prop) : Prop := ∀ s A C, J s A → Below B A C → J s C
/-- A contract of an iterator that may run others and yield within. -/
def SeqB {α : Type} (n : Nat) (P : Program) (g : Nat) (lb : Array Value) (encs : α → Array Value) (Kp : World → World → Prop) (S Sp : List α → Prop) (N : Nat) (w : World) : Prop :=
  ∀ (l : Nat) (J Jx : List α → World → Prop) (W : World), Below w.heap.size w W → Firm W.heap.size J → Firm W.heap.size Jx →
    (∀ pre x W1, J pre W1 → W.heap.size ≤ W1.heap.size → pre.length < N → YieldAt Fence.wide (n - 1) P l (encs x) W1 fun e W' =>
      (e = .returned (.bool true) ∧ J (pre ++ [x]) W' ∧ Kp W1 W' ∧ Calm W.heap.size W1 W') ∨ (e = .returned (.bool false) ∧ Jx (pre ++ [x]) W' ∧ Calm W.heap.size W1 W')) →
    J [] W →
    CallsIn Fence.wide n P g (#[.func (.yield l) #[] #[]] ++ lb) W fun e W' => (∃ v, e = .returned v) ∧ ((∃ xs, S xs ∧ J xs W') ∨ (∃ pre, Sp pre ∧ Jx pre W'))
/-- The ways out of a round's body. -/
def roundEnd {α : Type} (B : Nat) (Kp : World → World → Prop) (I : List α → World → Prop) (Ix : Code → List α → World → Prop) (xs : List α) (W : World) : Exit → Act → World → Prop
  | .normal, _, W' => Calm B W W' ∧ Kp W W' ∧ I xs W'
  | .ret, _, W' => Calm B W W' ∧ Ix .ret xs W'
  | .exit id, _, W' => Calm B W W' ∧ Ix (.exit id) xs W'
  | _, _, _ => False
theorem below_putObj {B : Nat} (W : World) (r : Nat) (o : Obj) (h : B ≤ r) : Below B W (W.putObj r o) :=
  ⟨rfl, rfl, rfl, by simp, fun _ hk => World.putObj_heap_other (by omega)⟩
theorem range_b {α : Type} {P : Program} {n : Nat} {g : Operand} {ps : Array Tmp} {assign body : Code} {Q : Exit → Act → World → Prop} {a : Act} {w : World}
    (_ : 1 ≤ n) {gf : Nat} {lb : Array Value} (hg : a.eval g = .func (.func gf) #[] lb) (eg : ∀ args w, (callFunc gf args).run P w = .ok (.enter gf args) w)
    {encs : α → Array Value} {Kp : World → World → Prop} {S Sp : List α → Prop} {N : Nat} (hseq : SeqB (n - 1) P gf lb encs Kp S Sp N w)
    (hKt : ∀ {A B C : World}, Kp A B → Kp B C → Kp A C) (hKb : ∀ (W : World) (o' : Obj), Kp W (W.putObj (w.heap.size + 1) o')) (hps : ∀ x, (encs x).size = ps.size)
    (I : List α → World → Prop) (Ix : Code → List α → World → Prop) (hI : Firm w.heap.size I) (hIx : ∀ c, Firm w.heap.size (Ix c)) (h0 : I [] w)
    (hround : ∀ (l : Nat) (pre : List α) (x : α) (W : World), I pre W → w.heap.size + 2 ≤ W.heap.size → pre.length < N →
      assign.wpIn (Fence.wide.inRound l) (n - 1 - 1) P (Exit.then (fun a1 W1 => Calm w.heap.size W W1 ∧ Kp W W1 ∧ I pre W1 ∧ ∀ o, I pre (W1.putObj (w.heap.size + 1) o) →
          body.wpIn (Fence.wide.inRound l) (n - 1 - 1) P (roundEnd w.heap.size Kp I Ix (pre ++ [x]) (W1.putObj (w.heap.size + 1) o)) a1 (W1.putObj (w.heap.size + 1) o)) (fun _ _ _ => False))
        { tmps := (ps.zip (encs x)).foldl (fun t (p, v) => t.setIfInBounds p v) a.tmps, defers := [] } W)
    (hdone : ∀ (xs : List α) (W : World), S xs → I xs W → W.heap[w.heap.size]? = some (.deferred (some [])) → Q .normal { a with defers := { target := .collected w.heap.size, args := #[] } :: a.defers } W)
    (hstop : ∀ (c : Code) (pre : List α) (W : World), Sp pre → Ix c pre W → W.heap[w.heap.size]? = some (.deferred (some [])) → c.wpIn Fence.wide n P Q { a with defers := { target := .collected w.heap.size, args := #[] } :: a.defers } W) :
    (Code.rangeFunc g ps assign body).wpIn Fence.wide n P Q a w := by
  refine wpIn_rangeFunc fun fn _ => ?_
  -- the loop's record, by its state and its pending jump; the world when the iterator is called
  let rec0 : LoopState → Option Code → Loop := fun st pe => { state := st, pending := pe, fn, tmps := a.tmps, params := ps, assign, body, defers := w.heap.size }
  have hW1 : ((w.alloc (.deferred (some []))).alloc (.loop (rec0 .ready none))).heap.size = w.heap.size + 2 := by simp
  have hD1 : ((w.alloc (.deferred (some []))).alloc (.loop (rec0 .ready none))).heap[w.heap.size]? = some (.deferred (some [])) := heap_old (World.alloc_heap_new w _) _
  have hL1 : ((w.alloc (.deferred (some []))).alloc (.loop (rec0 .ready none))).heap[w.heap.size + 1]? = some (.loop (rec0 .ready none)) := by
    have h := World.alloc_heap_new (w.alloc (.deferred (some []))) (.loop (rec0 .ready none))
    rwa [World.size_alloc] at h
  have hB1 : Below w.heap.size w ((w.alloc (.deferred (some []))).alloc (.loop (rec0 .ready none))) := ((Below.refl _ w).alloc (Nat.le_refl _) _).alloc (by simp) _
  refine ⟨w.heap.size + 1, [{ target := .collected w.heap.size, args := #[] }], _, { target := .fn (.func gf) lb, args := #[.func (.yield (w.heap.size + 1)) #[] #[]] }, _, gf, _, _,
    run_enterLoop_outer fn a.tmps ps assign body, by simp only [resolve, hg]; simp [go_sem]; rfl, fun _ _ => trivial, by simp [invoke, go_sem, eg]; exact ⟨rfl, rfl⟩, fun h => absurd h (by decide), ?_⟩
  generalize hWd : (w.alloc (.deferred (some []))).alloc (.loop (rec0 .ready none)) = W1 at hW1 hD1 hL1 hB1
  clear hWd
  have up : ∀ {A C : World}, Below W1.heap.size A C → Below w.heap.size A C := fun h => h.mono (by omega)
  have at_loop : ∀ {A C : World} {o : Obj}, A.heap[w.heap.size + 1]? = some o → Below W1.heap.size A C → C.heap[w.heap.size + 1]? = some o := fun h hb => (hb.block _ (by omega)).trans h
  have at_mark : ∀ {A C : World} {o : Obj}, A.heap[w.heap.size]? = some o → Below W1.heap.size A C → C.heap[w.heap.size]? = some o := fun h hb => (hb.block _ (by omega)).trans h
  refine (hseq (w.heap.size + 1)
    (fun pre W => I pre W ∧ W.heap[w.heap.size + 1]? = some (.loop (rec0 .ready none)) ∧ W.heap[w.heap.size]? = some (.deferred (some [])))
    (fun pre W => ∃ c, Ix c pre W ∧ W.heap[w.heap.size + 1]? = some (.loop (rec0 .done (some c))) ∧ W.heap[w.heap.size]? = some (.deferred (some [])))
    W1 hB1 (fun s A C hs hb => ⟨hI s A C hs.1 (up hb), at_loop hs.2.1 hb, at_mark hs.2.2 hb⟩)
    (fun s A C hs hb => by
      obtain ⟨c, hc, hl, hd⟩ := hs
      exact ⟨c, hIx c s A C hc (up hb), at_loop hl hb, at_mark hd hb⟩)
    ?_ ⟨hI [] w W1 h0 hB1, hL1, hD1⟩).mono ?_
  · rintro pre x W ⟨hi, hl, hd⟩ hsz hlen
    refine ⟨fn, _, assign, body, run_yield hl (hps x), roundIn_of_wpIn trivial (wpIn_mono (hround (w.heap.size + 1) pre x W hi (by omega) hlen) ?_)⟩
    intro e a1 Wa hp
    cases e with
    | normal =>
      obtain ⟨hca, hka, hia, hgo⟩ := hp
      have hla := hca.keep (by omega) hl
      have hda := hca.keep (Nat.le_refl _) hd
      have hlt := lt_of_block hla
      refine ⟨_, run_beginRound hla rfl, wpIn_mono (hgo _ (hI _ _ _ hia (below_putObj _ _ _ (by omega)))) ?_⟩
      have hlb := World.putObj_heap_same (o := Obj.loop { rec0 .ready none with state := .busy }) hlt
      have hdb : (Wa.putObj (w.heap.size + 1) (.loop { rec0 .ready none with state := .busy })).heap[w.heap.size]? = some (.deferred (some [])) := (World.putObj_heap_other (by omega)).trans hda
      have ends : ∀ (jump : Option Code) (W3 : World), Calm w.heap.size (Wa.putObj (w.heap.size + 1) (.loop { rec0 .ready none with state := .busy })) W3 →
          ∃ o, (Instr.endRound (w.heap.size + 1) jump).run P W3 = .ok (.bool jump.isNone) (W3.putObj (w.heap.size + 1) o) ∧
            (W3.putObj (w.heap.size + 1) o).heap[w.heap.size + 1]? = some (.loop (rec0 (if jump.isNone then .ready else .done) jump)) ∧
            (W3.putObj (w.heap.size + 1) o).heap[w.heap.size]? = some (.deferred (some [])) ∧ Calm W1.heap.size W (W3.putObj (w.heap.size + 1) o) := fun jump W3 hc3 => by
        have hl3 := hc3.keep (by omega) hlb
        exact ⟨_, run_endRound jump hl3, World.putObj_heap_same (lt_of_block hl3), (World.putObj_heap_other (by omega)).trans (hc3.keep (Nat.le_refl _) hdb),
          (((hca.mono (by omega)).trans (Calm.put _ _ _ (by omega))).trans (hc3.mono (by omega))).trans (Calm.put _ _ _ (by omega))⟩
      intro e a3 W3 hp3
      cases e with
      | normal =>
        obtain ⟨hc3, hk3, hi3⟩ := hp3
        obtain ⟨o, hr, hl4, hd4, hc4⟩ := ends none W3 hc3
        exact ⟨_, _, hr, .inl ⟨rfl, ⟨hI _ _ _ hi3 (below_putObj _ _ _ (by omega)), hl4, hd4⟩, hKt (hKt (hKt hka (hKb _ _)) hk3) (hKb _ _), hc4⟩⟩
      | ret =>
        obtain ⟨hc3, hi3⟩ := hp3
        obtain ⟨o, hr, hl4, hd4, hc4⟩ := ends (some .ret) W3 hc3
        exact ⟨_, _, hr, .inr ⟨rfl, ⟨_, hIx _ _ _ _ hi3 (below_putObj _ _ _ (by omega)), hl4, hd4⟩, hc4⟩⟩
      | exit id =>
        obtain ⟨hc3, hi3⟩ := hp3
        obtain ⟨o, hr, hl4, hd4, hc4⟩ := ends (some (.exit id)) W3 hc3
        exact ⟨_, _, hr, .inr ⟨rfl, ⟨_, hIx _ _ _ _ hi3 (below_putObj _ _ _ (by omega)), hl4, hd4⟩, hc4⟩⟩
      | goto t => exact hp3.elim
      | panic ch => exact hp3.elim
      | outgrown => exact hp3.elim
    | exit id => exact hp.elim
    | goto t => exact hp.elim
    | ret => exact hp.elim
    | panic ch => exact hp.elim
    | outgrown => exact hp.elim
  · rintro e W2 ⟨⟨v, rfl⟩, (⟨xs, hS, hi, hl, hd⟩ | ⟨pre, hSp, c, hi, hl, hd⟩)⟩
    · exact ⟨none, _, run_endLoop hl (fun h => nomatch h), hdone xs _ hS (hI _ _ _ hi (below_putObj _ _ _ (by omega))) ((World.putObj_heap_other (by omega)).trans hd)⟩
    · exact ⟨some c, _, run_endLoop hl (fun h => nomatch h), hstop c pre _ hSp (hIx _ _ _ _ hi (below_putObj _ _ _ (by omega))) ((World.putObj_heap_other (by omega)).trans hd)⟩
end Go.Proofs.YtfchmikbebdflaaGreatDoor

namespace Go.Proofs.YtfchmikbebdflaaGreatDoor
open Go.RowKit Go.BigFrame Go.Shelf
attribute [local go_sem] Oper.semAt_some

abbrev Nd := Int × Int
abbrev Sgm := Nd × Nd
def ndV (p : Nd) : Value := .agg #[.int .i64 p.1, .int .i64 p.2]
def sgC (s : Sgm) : Array Value := #[.int .i64 s.1.1, .int .i64 s.1.2, .int .i64 s.2.1, .int .i64 s.2.2]
/-- Block k stays. -/
def Stay (k : Nat) (A C : World) : Prop := ∀ o, A.heap[k]? = some o → C.heap[k]? = some o
theorem Stay.trans {k : Nat} {A B C : World} (h : Stay k A B) (g : Stay k B C) : Stay k A C := fun o ho => g o (h o ho)
theorem Stay.put {k r : Nat} (W : World) (o : Obj) (h : k ≠ r) : Stay k W (W.putObj r o) := fun _ ho => (World.putObj_heap_other h).trans ho
theorem wpIn_scope_wide' {n : Nat} {P : Program} {Q : Exit → Act → World → Prop} {a : Act} {w : World} {c : Code} (h : c.wpIn Fence.wide n P (Exit.noGoto Q) a w) : (Code.scope c).wpIn Fence.wide n P Q a w :=
  (wpIn_wide (n := n)).2 (wp_scope_straight ((wpIn_wide (n := n)).1 h))
end Go.Proofs.YtfchmikbebdflaaGreatDoor
