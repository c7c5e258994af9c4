/-
  Walks: Bits, and what goes over the bits. Conditions stand in each theorem.
-/
import Derived.Test.YteibcklcegkbcaaLm6
namespace Go.Proofs.Yteibcklcegkbcaa
open Go.RowKit Go.BigFrame Go.Shelf
attribute [local go_sem] Oper.semAt_some

/-- The places below k of the bits that are 1. -/
def bitsTo (a k : Nat) : List Nat := (List.range k).filter (fun i => bitN a i == 1)
theorem bitsTo_yes {a k : Nat} (h : bitN a k = 1) : bitsTo a (k + 1) = bitsTo a k ++ [k] := by
  unfold bitsTo
  rw [List.range_succ, List.filter_append]
  simp [h]
theorem bitsTo_no {a k : Nat} (h : ¬ bitN a k = 1) : bitsTo a (k + 1) = bitsTo a k := by
  unfold bitsTo
  rw [List.range_succ, List.filter_append]
  simp [h]
theorem bitsTo_len (a k : Nat) : (bitsTo a k).length ≤ k := by
  unfold bitsTo
  exact Nat.le_trans (List.length_filter_le _ _) (by simp)
theorem bitsTo_prefix (a : Nat) {k m : Nat} (h : k ≤ m) : bitsTo a k <+: bitsTo a m := by
  induction m with
  | zero => obtain rfl : k = 0 := by omega
            exact List.prefix_refl _
  | succ m ih =>
    by_cases h1 : k = m + 1
    · rw [h1]; exact List.prefix_refl _
    · refine (ih (by omega)).trans ?_
      by_cases hb : bitN a m = 1
      · rw [bitsTo_yes hb]; exact List.prefix_append _ _
      · rw [bitsTo_no hb]; exact List.prefix_refl _
/-- A scope through which the run goes without a jump, at the wide fence. -/
theorem wpIn_scope_wide {n : Nat} {P : Program} {Q : Exit → Act → World → Prop} {a : Act} {w : World} {c : Code} (h : c.wpIn Fence.wide n P (Exit.noGoto Q) a w) : (Code.scope c).wpIn Fence.wide n P Q a w :=
  (wpIn_wide (n := n)).2 (wp_scope_straight ((wpIn_wide (n := n)).1 h))
theorem grown_of {W W' : World} (h : Below W.heap.size W W') (row : Option Nat) : W.grownBy W' row := ⟨h.os, h.tape, h.output, h.size, fun i hi _ => h.block i hi⟩

set_option maxRecDepth 100000 in
set_option maxHeartbeats 2000000 in
theorem bits_in (a : Nat) (ha : a < 2 ^ 256) (n : Nat) (hn : 1 ≤ n) (l Bs n₀ : Nat) (hBs0 : Bs < n₀) (J Jx : List Nat → World → Prop)
    (hY : ∀ pre x W, J pre W → pre.length < 256 → YieldAt Fence.wide (n - 1) Try.prog l #[.int .i64 (x : Nat)] W fun e W' =>
      (e = .returned (.bool true) ∧ J (pre ++ [x]) W' ∧ Below n₀ W W') ∨ (e = .returned (.bool false) ∧ Jx (pre ++ [x]) W'))
    (W : World) (hJ : AbidesFrom W.heap.size J) (hn₀ : n₀ ≤ W.heap.size) (hBs : W.heap[Bs]? = some (.cells #[.int .u64 (dg (a) 0), .int .u64 (dg (a) 1), .int .u64 (dg (a) 2), .int .u64 (dg (a) 3)] 82 (0, 0))) (h0 : J [] W) :
    CallsIn Fence.wide n Try.prog 66 #[.func (.yield l) #[] #[], .pointer (some ⟨Bs, 0, none⟩)] W fun e W' => (∃ v, e = .returned v) ∧
      ((∃ ys, ys = bitsTo a (topN a) ∧ J ys W') ∨ (∃ pre, pre <+: bitsTo a (topN a) ∧ Jx pre W')) := by
  have ht := topN_le ha
  have HA := Hd.mk ha
  have HJ := Hd.mk hJ
  have HT := Hd.mk ht
  clear ha hJ
  refine callsIn_of_wp Try.func66 rfl trivial ?_ rfl
  simp only [Try.ntmps66, List.size_toArray, List.length_cons, List.length_nil, Nat.reduceAdd, Nat.reduceSub, Array.replicate_succ, Array.replicate_zero, List.push_toArray, List.append_toArray, List.nil_append, List.cons_append]
  have hcB := cell_at hBs
  gi_wp2
  refine wpIn_scope_wide ?_
  gi_wp2
  refine wpIn_label ?_
  gi_wp2_with (refine ⟨trivial, ?_⟩; gi_at_call 67; refine (callsIn_wide.2 (top_any a HA.out _)).mono ?_; rintro e w1 ⟨rfl, hb⟩; have h1 := HJ.out [] _ _ none h0 (grown_of hb none) (fun r e => by cases e); have hz1 := heap_below hb hBs; have hs1 := hb.size; have hB1 := hb.mono hn₀; clear h0 hBs hcB hb)
  gi_loopw [6] (fun i wr => ∃ k : Nat, k ≤ topN a ∧ i = .int .i64 k ∧ J (bitsTo a k) wr ∧ wr.heap[Bs]? = some (.cells #[.int .u64 (dg (a) 0), .int .u64 (dg (a) 1), .int .u64 (dg (a) 2), .int .u64 (dg (a) 3)] 82 (0, 0)) ∧ W.heap.size ≤ wr.heap.size ∧ Below n₀ W wr)
    (fun i _ => topN a - (intOf i).toNat)
  case atStart => exact ⟨0, Nat.zero_le _, rfl, h1, hz1, hs1, hB1⟩
  case round =>
    clear h1 hz1 hs1 hB1
    obtain ⟨k, hk, rfl, hJs, hz, hs, hB⟩ := hrel
    have hcz := cell_at hz
    have HB0 := Hd.mk hB
    by_cases hlt : k < topN a
    · have hd1 : decide ((k : Int) < ((topN a : Nat) : Int)) = true := by simp; omega
      have hd2 : decide (k < topN a) = true := by simp; omega
      have hk2 : k < 256 := Nat.lt_of_lt_of_le hlt HT.out
      have hlen : (bitsTo a k).length < 256 := Nat.lt_of_le_of_lt (bitsTo_len a k) hk2
      have HL := Hd.mk hlt
      by_cases hb1 : bitN a k = 1
      · have hbe : (((bitN a k : Nat) : Int) == 1) = true := by rw [hb1]; rfl
        have HPR : Hd (bitsTo a k ++ [k] <+: bitsTo a (topN a)) := ⟨by rw [← bitsTo_yes hb1]; exact bitsTo_prefix a hlt⟩
        have HY1 : Hd (bitsTo a (k + 1) = bitsTo a k ++ [k]) := ⟨bitsTo_yes hb1⟩
        clear hb1 hlt hB
        gi_wp2_with (refine ⟨trivial, ?_⟩; gi_at_call 68; refine (callsIn_wide.2 (bit_any a k hk2 _)).mono ?_; rintro e wb ⟨rfl, hb⟩; have hJb := HJ.out _ _ _ none hJs (grown_of hb none) (fun r e => by cases e); have hzb := heap_below hb hz; have HBb := Hd.mk (HB0.out.trans (hb.mono (Nat.le_trans hn₀ hs))); have hsb := Nat.le_trans hs hb.size; obtain ⟨fn, tmps, assign, body, hy, hR⟩ := hY _ k _ hJb hlen; clear hb hz hcz hJs)
        refine hR.mono ?_
        rintro e W3 (⟨rfl, hJ3, hk3⟩ | ⟨rfl, hJx3⟩)
        · have hz3 := (hk3.block _ hBs0).trans hzb
          have hs3 := Nat.le_trans hsb hk3.size
          have HB3 := Hd.mk (HBb.out.trans hk3)
          clear hk3 hzb hJb
          gi_wp2
          go_roundw
          case rel => exact ⟨k + 1, HL.out, by go_num, by rw [HY1.out]; exact hJ3, hz3, hs3, HB3.out⟩
          case measure => have := HL.out; simp [intOf]; omega
        · clear hzb hJb
          gi_wp2
          unfold Exit.noGoto
          dsimp only
          go_end0
          exact ⟨⟨_, rfl⟩, .inr ⟨_, HPR.out, hJx3⟩⟩
      · have hbe : (((bitN a k : Nat) : Int) == 1) = false := by simp; omega
        have HY1 : Hd (bitsTo a (k + 1) = bitsTo a k) := ⟨bitsTo_no hb1⟩
        clear hb1 hlt hB
        gi_wp2_with (refine ⟨trivial, ?_⟩; gi_at_call 68; refine (callsIn_wide.2 (bit_any a k hk2 _)).mono ?_; rintro e wb ⟨rfl, hb⟩; have hJb := HJ.out _ _ _ none hJs (grown_of hb none) (fun r e => by cases e); have hzb := heap_below hb hz; have HBb := Hd.mk (HB0.out.trans (hb.mono (Nat.le_trans hn₀ hs))); have hsb := Nat.le_trans hs hb.size; clear hb hz hcz hJs)
        refine ⟨fun _ h => (by cases h), ?_⟩
        gi_wp2
        go_roundw
        case rel => exact ⟨k + 1, HL.out, by go_num, by rw [HY1.out]; exact hJb, hzb, hsb, HBb.out⟩
        case measure => have := HL.out; simp [intOf]; omega
    · obtain rfl : k = topN a := by omega
      have hd1 : decide (((topN a : Nat) : Int) < ((topN a : Nat) : Int)) = false := by simp
      gi_wp2
      unfold Exit.noGoto
      dsimp only
      go_end0
      exact ⟨⟨_, rfl⟩, .inl ⟨_, rfl, hJs⟩⟩
theorem bits_stops (a : Nat) (ha : a < 2 ^ 256) (n : Nat) (hn : 1 ≤ n) (Bs n₀ : Nat) (hBs0 : Bs < n₀) (w : World) (hn₀ : n₀ ≤ w.heap.size) (hBs : w.heap[Bs]? = some (.cells #[.int .u64 (dg (a) 0), .int .u64 (dg (a) 1), .int .u64 (dg (a) 2), .int .u64 (dg (a) 3)] 82 (0, 0))) :
    SeqStopsK Fence.wide n Try.prog 66 #[.pointer (some ⟨Bs, 0, none⟩)] (fun x : Nat => #[.int .i64 (x : Nat)]) (Below n₀)
      (fun ys => ys = bitsTo a (topN a)) (fun pre => pre <+: bitsTo a (topN a)) 256 w := fun l J Jx W hW hJ _ hY h0 =>
  bits_in a ha n hn l Bs n₀ hBs0 J Jx hY W hJ (Nat.le_trans hn₀ hW.size) ((hW.block _ (lt_of_block hBs)).trans hBs) h0
theorem bits_any (s : Bool) (a : Nat) (w : World) :
    Calls Try.prog 24 #[.agg #[.bool (s), .int .u64 (dg (a) 0), .int .u64 (dg (a) 1), .int .u64 (dg (a) 2), .int .u64 (dg (a) 3)]] w fun e w' => ∃ b, e = .returned (.func (.func 66) #[] #[.pointer (some ⟨b, 0, none⟩)]) ∧ w'.heap[b]? = some (.cells #[.int .u64 (dg (a) 0), .int .u64 (dg (a) 1), .int .u64 (dg (a) 2), .int .u64 (dg (a) 3)] 82 (0, 0)) ∧ w.heap.size ≤ b ∧ Below w.heap.size w w' := by
  have hmf : ∀ (fn : Fn) (first cap : Array Value) (w : World), (Instr.makeFunc fn first cap).run Try.prog w = .ok (.func fn first cap) w := fun _ _ _ _ => rfl
  go_enter Try.func24, Try.ntmps24
  go_wp2
  go_ret
  exact ⟨_, rfl, heap_at (by simp) _, by simp, by focus (repeat (first | (with_reducible exact Below.refl _ _) | (with_reducible assumption) | ((with_reducible refine Below.setCell ?_ ?_ _); rotate_left; (focus (first | omega | (simp; done) | (simp; omega)))) | ((with_reducible refine Below.alloc ?_ ?_ _); rotate_left; (focus (first | omega | (simp; done) | (simp; omega)))) | (with_reducible refine Below.drew ?_) | (refine below_on ?_ (by assumption))))⟩
end Go.Proofs.Yteibcklcegkbcaa
