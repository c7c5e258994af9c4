/-
  Walk of a reference: Node. Conditions stand in each theorem.
-/
import Derived.Test.YtbhfnfokihdjjaaGreatDoorTy3
namespace Go.Proofs.YtbhfnfokihdjjaaGreatDoor
open Go.RowKit Go.BigFrame
theorem cut_list (s : ByteArray) (k : Nat) (c : UInt8) (h : s.data.toList[k]? = some c) : s.data.toList = (s.extract 0 k).data.toList ++ c :: (s.extract (k + 1) s.size).data.toList := by
  obtain ⟨hk, hc⟩ := List.getElem?_eq_some_iff.1 h
  have h1 : (s.extract 0 k).data.toList = s.data.toList.take k := by
    rw [ByteArray.data_extract]
    simp
  have h2 : (s.extract (k + 1) s.size).data.toList = s.data.toList.drop (k + 1) := by
    rw [ByteArray.data_extract]
    simp
    exact List.take_of_length_le (by simp)
  rw [h1, h2, ← hc, List.getElem_cons_drop, List.take_append_drop]
theorem take_list (s : ByteArray) (k : Nat) : (s.extract 0 k).data.toList = s.data.toList.take k := by
  rw [ByteArray.data_extract]
  simp
theorem bytes_ext {s t : ByteArray} (h : s.data.toList = t.data.toList) : s = t := by
  apply ByteArray.ext
  apply Array.ext'
  exact h
theorem node_join {s L R : ByteArray} {x y : Int} (h : s.data.toList = L.data.toList ++ 32 :: R.data.toList) (hL : L = itS x) (hR : R = itS y) : s = nodeS x y := by
  apply bytes_ext
  rw [h, node_list, hL, hR, itS_list, itS_list]
theorem join_inj (c : UInt8) (l r l' r' : List UInt8) (h : l ++ c :: r = l' ++ c :: r') (h1 : c ∉ l) (h2 : c ∉ l') : l = l' ∧ r = r' := by
  have e1 := cut_at c l r h1
  have e2 := cut_at c l' r' h2
  rw [h, e2] at e1
  injection e1 with e3 e4
  injection e4 with e5 e6
  exact ⟨e3.symm, e5.symm⟩
theorem bt_not {s : ByteArray} {k : Nat} {c d : UInt8} (hc : s.data.toList[k]? = some c) (h : ((c.toNat : Nat) : Int) ≠ ((d.toNat : Nat) : Int)) (ht : d ∉ s.data.toList.take k) : d ∉ s.data.toList.take (k + 1) := by
  rw [List.take_add_one, hc]
  intro hm
  rw [List.mem_append] at hm
  rcases hm with hm | hm
  · exact ht hm
  · have : d = c := by simpa using hm
    exact h (by rw [this])
theorem ex_putw4 {T : Array Value} {ds : List Deferred} {G : (Nat → Value) → Act} {R : Prop} (h : R ∧ (Act.mk T ds = G (fun i => T.getD i undef))) : ∃ v : Nat → Value, R ∧ (Act.mk T ds = G v) := ⟨_, h⟩
theorem laid_pair (b : Nat) (W : World) (v0 v1 : Value) {c : Array Value} {t : TypeId} (h : W.heap[b]? = some (.cells c t (0, 0))) (hs : c.size = 2) :
    ((W.setCell ⟨b, 0, none⟩ v0).setCell ⟨b, 1, none⟩ v1).heap[b]? = some (.cells #[v0, v1] t (0, 0)) := by
  obtain ⟨l⟩ := c
  match l, hs with
  | [a, b], _ =>
    have := heap_set (heap_set h 0 v0) 1 v1
    simpa using this
set_option maxRecDepth 20000 in
set_option maxHeartbeats 4000000 in
/-- Without a blank. -/
theorem rnode_none (s : ByteArray) (hsz : s.size ≤ 100) (hno : (32 : UInt8) ∉ s.data.toList) (w : World) :
    Calls Tryz.prog 68 #[.string s] w fun e w' => e = .returned (.tuple #[.agg #[.int .i64 0, .int .i64 0], .bool false]) ∧ Below w.heap.size w w' := by
  have HN := Hd.mk hno
  clear hno
  go_enter Tryz.func68, Tryz.ntmps68
  go_upto_region 1 with (fail)
  refine abs_wp (fun W => W.heap[w.heap.size]? = some (.cells #[.int .i64 0, .int .i64 0] 23 (0, 0)) ∧ Below w.heap.size w W) ⟨heap_new _ _, by focus (repeat (first | (with_reducible exact Below.refl _ _) | (with_reducible assumption) | ((with_reducible refine Below.setCell ?_ ?_ _); rotate_left; (focus (first | omega | (simp; done) | (simp; omega)))) | ((with_reducible refine Below.alloc ?_ ?_ _); rotate_left; (focus (first | omega | (simp; done) | (simp; omega)))) | (with_reducible refine Below.drew ?_) | (refine below_on ?_ (by assumption))))⟩ fun W ⟨z0, hB⟩ => ?_
  go_wp2
  go_loopw [4] (fun iv wr => ∃ k : Nat, k ≤ s.size ∧ iv = .int .i64 k ∧ wr.heap[w.heap.size]? = some (.cells #[.int .i64 0, .int .i64 0] 23 (0, 0)) ∧ Below w.heap.size w wr) (fun iv _ => s.size - (intOf iv).toNat)
  case atStart => exact ⟨0, Nat.zero_le _, rfl, z0, hB⟩
  case round =>
    clear z0 hB
    obtain ⟨k, hk, rfl, z0, hB⟩ := hrel
    by_cases hlt : k < s.size
    · have hd1 : decide ((k : Int) < (s.size : Int)) = true := by simp; omega
      obtain ⟨c, hc, hbc⟩ := bt_dig s k hlt
      have hgk := (get_bt s k hlt).trans hbc
      have hc32 : (((c.toNat : Nat) : Int) == 32) = false := by
        rw [beq_eq_false_iff_ne]
        intro h
        apply HN.out
        have h2 : c = 32 := by
          apply UInt8.toNat_inj.1
          have : (32 : UInt8).toNat = 32 := by decide
          omega
        rw [← h2]
        exact List.mem_of_getElem? hc
      clear hc hbc
      go_wp2
      go_roundw
      case rel => exact ⟨k + 1, by omega, by go_num, z0, hB⟩
      case measure => simp [intOf]; omega
    · have hd1 : decide ((k : Int) < (s.size : Int)) = false := by simp; omega
      have c0 := cell_at z0
      have f0 := frozen_at z0
      go_wp2
      refine bodyPost_ret (by first | (simp [results, Tryz.results68, go_sem, c0]; done) | (simp [results, Tryz.results68, go_sem, c0]; rfl)) rfl ⟨rfl, by focus (repeat (first | (with_reducible exact Below.refl _ _) | (with_reducible assumption) | ((with_reducible refine Below.setCell ?_ ?_ _); rotate_left; (focus (first | omega | (simp; done) | (simp; omega)))) | ((with_reducible refine Below.alloc ?_ ?_ _); rotate_left; (focus (first | omega | (simp; done) | (simp; omega)))) | (with_reducible refine Below.drew ?_) | (refine below_on ?_ (by assumption))))⟩
set_option maxRecDepth 20000 in
set_option maxHeartbeats 8000000 in
/-- Cut at the first blank. -/
theorem rnode_cut (s : ByteArray) (hsz : s.size ≤ 100) (j : Nat) (hj : j < s.size) (hjc : s.data.toList[j]? = some 32) (hno : (32 : UInt8) ∉ s.data.toList.take j) (x y : Int) (a b q : Bool)
    (HX : Hd (∀ w : World, Calls Tryz.prog 97 #[.string (s.extract 0 j)] w fun e w' => e = .returned (.tuple #[.int .i64 x, .bool a]) ∧ w' = w)) (HY : Hd (∀ w : World, Calls Tryz.prog 97 #[.string (s.extract (j + 1) s.size)] w fun e w' => e = .returned (.tuple #[.int .i64 y, .bool b]) ∧ w' = w))
    (hq : nodeB x y = q) (w : World) :
    Calls Tryz.prog 68 #[.string s] w fun e w' => e = .returned (.tuple #[.agg #[.int .i64 x, .int .i64 y], .bool (a && (b && q))]) ∧ Below w.heap.size w w' := by
  have HN := Hd.mk (And.intro hno hjc)
  have HQ := Hd.mk (fun w => rnode_v x y q hq w)
  clear hno hjc hq
  go_enter Tryz.func68, Tryz.ntmps68
  go_upto_region 1 with (fail)
  refine abs_wp (fun W => W.heap[w.heap.size]? = some (.cells #[.int .i64 0, .int .i64 0] 23 (0, 0)) ∧ Below w.heap.size w W) ⟨heap_new _ _, by focus (repeat (first | (with_reducible exact Below.refl _ _) | (with_reducible assumption) | ((with_reducible refine Below.setCell ?_ ?_ _); rotate_left; (focus (first | omega | (simp; done) | (simp; omega)))) | ((with_reducible refine Below.alloc ?_ ?_ _); rotate_left; (focus (first | omega | (simp; done) | (simp; omega)))) | (with_reducible refine Below.drew ?_) | (refine below_on ?_ (by assumption))))⟩ fun W ⟨z0, hB⟩ => ?_
  go_wp2
  go_loopw [4] (fun iv wr => ∃ k : Nat, k ≤ j ∧ iv = .int .i64 k ∧ wr.heap[w.heap.size]? = some (.cells #[.int .i64 0, .int .i64 0] 23 (0, 0)) ∧ Below w.heap.size w wr) (fun iv _ => s.size - (intOf iv).toNat)
  case atStart => exact ⟨0, Nat.zero_le _, rfl, z0, hB⟩
  case round =>
    clear z0 hB
    obtain ⟨k, hk, rfl, z0, hB⟩ := hrel
    have hd1 : decide ((k : Int) < (s.size : Int)) = true := by simp; omega
    obtain ⟨c, hc, hbc⟩ := bt_dig s k (by omega)
    have hgk := (get_bt s k (by omega)).trans hbc
    by_cases hkj : k = j
    · subst hkj
      have hc2 : c = 32 := Option.some.inj (hc.symm.trans HN.out.2)
      have hc32 : (((c.toNat : Nat) : Int) == 32) = true := by rw [hc2]; rfl
      have hk0 : (0 : Int) ≤ (k : Int) := by omega
      have hk1 : (k : Int) ≤ (s.size : Int) := by omega
      have hk2 : (k : Int) + 1 ≤ (s.size : Int) := by omega
      clear hc hbc hc2
      go_wp2_with fail
      refine (HX.out _).mono ?_
      rintro r w1 ⟨rfl, rfl⟩
      go_wp2_with fail
      refine (HY.out _).mono ?_
      rintro r w2 ⟨rfl, rfl⟩
      go_upto_region 8 with (fail)
      have hsz0 := hB.size
      obtain ⟨b9, hb9⟩ : ∃ b, b = w2.heap.size := ⟨_, rfl⟩
      refine abs_wp (fun W => W.heap[w.heap.size]? = some (.cells #[.int .i64 0, .int .i64 0] 23 (0, 0)) ∧ W.heap[w2.heap.size]? = some (.cells #[.int .i64 x, .int .i64 y] 23 (0, 0)) ∧ Below w.heap.size w W) ⟨heap_old z0 _, heap_new _ _, by focus (repeat (first | (with_reducible exact Below.refl _ _) | (with_reducible assumption) | ((with_reducible refine Below.setCell ?_ ?_ _); rotate_left; (focus (first | omega | (simp; done) | (simp; omega)))) | ((with_reducible refine Below.alloc ?_ ?_ _); rotate_left; (focus (first | omega | (simp; done) | (simp; omega)))) | (with_reducible refine Below.drew ?_) | (refine below_on ?_ (by assumption))))⟩ fun W3 ⟨y0, y9, hB3⟩ => ?_
      have hne : b9 ≠ w.heap.size := by have := lt_of_block z0; omega
      rw [← hb9] at y9 ⊢
      clear z0 hB hsz0 hb9 hgk hc32 hd1
      have c9 := cell_at y9
      have c0 := cell_at y0
      have f0 := frozen_at y0
      have yD : W3.drew.heap[w.heap.size]? = some (.cells #[.int .i64 0, .int .i64 0] 23 (0, 0)) := y0
      have hBD : Below w.heap.size w W3.drew := Below.drew hB3
      cases a with
      | false =>
        go_region
        all_goals
          have k0 : (((W3.setCell ⟨w.heap.size, 0, none⟩ (.int .i64 x)).setCell ⟨w.heap.size, 1, none⟩ (.int .i64 y)).drew).heap[w.heap.size]? = some (.cells #[.int .i64 x, .int .i64 y] 23 (0, 0)) := laid_pair w.heap.size W3 (.int .i64 x) (.int .i64 y) y0 rfl
          have kB : Below w.heap.size w (((W3.setCell ⟨w.heap.size, 0, none⟩ (.int .i64 x)).setCell ⟨w.heap.size, 1, none⟩ (.int .i64 y)).drew) := by
            focus (repeat (first | (with_reducible exact Below.refl _ _) | (with_reducible assumption) | ((with_reducible refine Below.setCell ?_ ?_ _); rotate_left; (focus (first | omega | (simp; done) | (simp; omega)))) | ((with_reducible refine Below.alloc ?_ ?_ _); rotate_left; (focus (first | omega | (simp; done) | (simp; omega)))) | (with_reducible refine Below.drew ?_) | (refine below_on ?_ (by assumption))))
          clear c9 c0 f0 yD hBD y0 y9 hB3
          generalize ((W3.setCell ⟨w.heap.size, 0, none⟩ (.int .i64 x)).setCell ⟨w.heap.size, 1, none⟩ (.int .i64 y)).drew = W9 at *
          have c2 := cell_at k0
          go_wp2
          refine bodyPost_ret (by first | (simp [results, Tryz.results68, go_sem, c2]; done) | (simp [results, Tryz.results68, go_sem, c2]; rfl)) rfl ⟨by simp, kB⟩
      | true =>
        cases b with
        | false =>
          go_region
          all_goals
            have k0 : (((W3.setCell ⟨w.heap.size, 0, none⟩ (.int .i64 x)).setCell ⟨w.heap.size, 1, none⟩ (.int .i64 y)).drew).heap[w.heap.size]? = some (.cells #[.int .i64 x, .int .i64 y] 23 (0, 0)) := laid_pair w.heap.size W3 (.int .i64 x) (.int .i64 y) y0 rfl
            have kB : Below w.heap.size w (((W3.setCell ⟨w.heap.size, 0, none⟩ (.int .i64 x)).setCell ⟨w.heap.size, 1, none⟩ (.int .i64 y)).drew) := by
              focus (repeat (first | (with_reducible exact Below.refl _ _) | (with_reducible assumption) | ((with_reducible refine Below.setCell ?_ ?_ _); rotate_left; (focus (first | omega | (simp; done) | (simp; omega)))) | ((with_reducible refine Below.alloc ?_ ?_ _); rotate_left; (focus (first | omega | (simp; done) | (simp; omega)))) | (with_reducible refine Below.drew ?_) | (refine below_on ?_ (by assumption))))
            clear c9 c0 f0 yD hBD y0 y9 hB3
            generalize ((W3.setCell ⟨w.heap.size, 0, none⟩ (.int .i64 x)).setCell ⟨w.heap.size, 1, none⟩ (.int .i64 y)).drew = W9 at *
            have c2 := cell_at k0
            go_wp2
            refine bodyPost_ret (by first | (simp [results, Tryz.results68, go_sem, c2]; done) | (simp [results, Tryz.results68, go_sem, c2]; rfl)) rfl ⟨by simp, kB⟩
        | true =>
          have hD0 : Below W3.heap.size W3 W3.drew := Below.drew (Below.refl _ _)
          refine region_abs_w (fun a0 a' w' => ∃ v : Nat → Value, (w'.heap[w.heap.size]? = some (.cells #[.int .i64 x, .int .i64 y] 23 (0, 0)) ∧ Below w.heap.size w w') ∧ (a' = (Act.put (Act.put (Act.put (Act.put (Act.put (Act.put (Act.put (Act.put (Act.put (Act.put a0 (some 38) (v 38)) (some 39) (v 39)) (some 40) (v 40)) (some 41) (v 41)) (some 42) (v 42)) (some 43) (v 43)) (some 44) (v 44)) (some 45) (v 45)) (some 46) (v 46)) (some 3) (.bool q)))) (fun KR hKR => wp_region_noPanic ?_) ?_
          · go_region_with ((go_at_call 16; refine (HQ.out _).mono ?_; rintro r w5 ⟨rfl, hb⟩; have hD := below_on hD0 hb; have x0 := heap_below hD y0; have d9 := cell_at (heap_below hD y9); have d0 := cell_at x0; have e0 := frozen_at x0; have hB5 := below_on hB3 hD; clear hb hD))
            all_goals
              have kB : Below w.heap.size w ((w5.setCell ⟨w.heap.size, 0, none⟩ (.int .i64 x)).setCell ⟨w.heap.size, 1, none⟩ (.int .i64 y)) := by
                focus (repeat (first | (with_reducible exact Below.refl _ _) | (with_reducible assumption) | ((with_reducible refine Below.setCell ?_ ?_ _); rotate_left; (focus (first | omega | (simp; done) | (simp; omega)))) | ((with_reducible refine Below.alloc ?_ ?_ _); rotate_left; (focus (first | omega | (simp; done) | (simp; omega)))) | (with_reducible refine Below.drew ?_) | (refine below_on ?_ (by assumption))))
              exact NoPanic.normal ⟨rfl, hKR _ _ (ex_putw4 ⟨by with_reducible exact ⟨laid_pair w.heap.size w5 (.int .i64 x) (.int .i64 y) x0 rfl, kB⟩, by kernel_rfl⟩)⟩
          rintro a' W9 ⟨v, ⟨k0, kB⟩, rfl⟩
          simp only [Act.put, List.setIfInBounds_toArray, List.set_cons_succ, List.set_cons_zero]
          clear c9 c0 f0 yD hBD y0 y9 hB3
          have c2 := cell_at k0
          go_wp2
          refine bodyPost_ret (by first | (simp [results, Tryz.results68, go_sem, c2]; done) | (simp [results, Tryz.results68, go_sem, c2]; rfl)) rfl ⟨by simp, kB⟩
    · have hc32 : (((c.toNat : Nat) : Int) == 32) = false := by
        rw [beq_eq_false_iff_ne]
        intro h
        apply HN.out.1
        have h2 : c = 32 := by
          apply UInt8.toNat_inj.1
          have : (32 : UInt8).toNat = 32 := by decide
          omega
        rw [← h2]
        refine List.mem_of_getElem? (i := k) ?_
        rw [List.getElem?_take_of_lt (by omega)]
        exact hc
      clear hc hbc
      go_wp2
      go_roundw
      case rel => exact ⟨k + 1, by omega, by go_num, z0, hB⟩
      case measure => simp [intOf]; omega
end Go.Proofs.YtbhfnfokihdjjaaGreatDoor
