/-
  Texts of fractions and points, of the program. Conditions stand in each theorem.
-/
import Derived.Test.YtfchmikbebdflaaGreatDoorLm24
import Derived.Test.YtfchmikbebdflaaGreatDoorKw1
import Derived.Test.YtfchmikbebdflaaGreatDoorMr5
namespace Go.Proofs.YtfchmikbebdflaaGreatDoor
open Go.RowKit Go.BigFrame Go.Shelf

/-- A number's text. -/
def numL (z : Int) : Bs := (textZ z).data.toList
theorem numL_bs (z : Int) : textZ z = bs (numL z) := bs_self _
theorem numL_len {z : Int} (h : ab z < 2 ^ 256) : (numL z).length ≤ 79 := by
  have h1 : (textZ z).size = (revB z).reverse.length := strOfNums_size _
  have h2 : (revB z).length ≤ 79 := by
    have := dec10_len256 h
    unfold revB
    rw [List.length_append, List.length_map]
    split
    · rw [List.length_singleton]; omega
    · rw [List.length_nil]; omega
  rw [List.length_reverse] at h1
  unfold numL
  rw [Array.length_toList]
  have : (textZ z).data.size = (textZ z).size := rfl
  omega
/-- A fraction's text. -/
def ratL (z : Int) (d : Nat) : Bs := if d = 1 then numL z else numL z ++ 47 :: numL d
theorem ratL_len {z : Int} {d : Nat} (h : ab z < 2 ^ 256) (hd : d < 2 ^ 256) : (ratL z d).length ≤ 159 := by
  have h1 := numL_len h
  have h2 := numL_len (z := (d : Int)) (by rw [ab_nat]; exact hd)
  unfold ratL
  split
  · omega
  · rw [List.length_append, List.length_cons]; omega
/-- A point by signs and magnitudes. -/
abbrev Pq := (Bool × Nat) × (Bool × Nat) × (Bool × Nat) × (Bool × Nat)
def pqC (x : Pq) : List Value := [.bool x.1.1, .int .u64 (dg (x.1.2) 0), .int .u64 (dg (x.1.2) 1), .int .u64 (dg (x.1.2) 2), .int .u64 (dg (x.1.2) 3), .bool x.2.1.1, .int .u64 (dg (x.2.1.2) 0), .int .u64 (dg (x.2.1.2) 1), .int .u64 (dg (x.2.1.2) 2), .int .u64 (dg (x.2.1.2) 3), .bool x.2.2.1.1, .int .u64 (dg (x.2.2.1.2) 0), .int .u64 (dg (x.2.2.1.2) 1), .int .u64 (dg (x.2.2.1.2) 2), .int .u64 (dg (x.2.2.1.2) 3), .bool x.2.2.2.1, .int .u64 (dg (x.2.2.2.2) 0), .int .u64 (dg (x.2.2.2.2) 1), .int .u64 (dg (x.2.2.2.2) 2), .int .u64 (dg (x.2.2.2.2) 3)]
def ltX (x : Pq) : Prop := x.1.2 < 2 ^ 256 ∧ x.2.1.2 < 2 ^ 256 ∧ x.2.2.1.2 < 2 ^ 256 ∧ x.2.2.2.2 < 2 ^ 256
def okX (x : Pq) : Prop := okPt x.1 x.2.1 x.2.2.1 x.2.2.2
noncomputable instance (x : Pq) : Decidable (okX x) := Classical.propDecidable _
/-- A point's text. -/
def ptL (x : Pq) : Bs := ratL (zof x.1.1 x.1.2) x.2.1.2 ++ 32 :: ratL (zof x.2.2.1.1 x.2.2.1.2) x.2.2.2.2
theorem ptL_len {x : Pq} (h : ltX x) : (ptL x).length ≤ 319 := by
  have h1 := ratL_len (z := zof x.1.1 x.1.2) (by rw [ab_zof]; exact h.1) h.2.1
  have h2 := ratL_len (z := zof x.2.2.1.1 x.2.2.1.2) (by rw [ab_zof]; exact h.2.2.1) h.2.2.2
  unfold ptL
  rw [List.length_append, List.length_cons]
  omega
theorem bs_add (a b : Bs) : bs a ++ bs b = bs (a ++ b) := by
  apply bs_of
  simp
theorem run_bs_add {P : Program} (a b c : Bs) (h : a.length + b.length ≤ 100000000000) (e : a ++ b = c) (w : World) : (Op.stringOp .add (bs a) (bs b)).run P w = .ok (.string (bs c)) w := by
  have h1 := run_string_add_sum (P := P) w (bs a) (bs b) (by simp [ByteArray.size]; omega)
  rw [bs_add, e] at h1
  exact h1
theorem ltext_bs (z : Int) (hz : ab z < 2 ^ 256) (w : World) :
    Calls Tryz.prog 88 #[.agg #[.bool (ng (z)), .int .u64 (dg (ab (z)) 0), .int .u64 (dg (ab (z)) 1), .int .u64 (dg (ab (z)) 2), .int .u64 (dg (ab (z)) 3)]] w fun e w' => e = .returned (.tuple #[.string (bs (numL z)), .int .i64 0]) ∧ Below w.heap.size w w' := by
  rw [← numL_bs]
  exact text_ok z hz w
theorem rone_any (w : World) :
    Calls Tryz.prog 89 #[] w fun e w' => e = .returned (.agg #[.bool (ng (1)), .int .u64 (dg (ab (1)) 0), .int .u64 (dg (ab (1)) 1), .int .u64 (dg (ab (1)) 2), .int .u64 (dg (ab (1)) 3)]) ∧ Below w.heap.size w w' := by
  go_enter Tryz.func89, Tryz.ntmps89
  go_wp2_with fail
  refine (of_word 1 (by decide) (by decide) _).mono ?_
  rintro e w1 ⟨rfl, hb⟩
  have z1 := heap_below hb (heap_new w _)
  have c1 := cell_at z1
  have f1 := frozen_at z1
  have hw1 : Below w.heap.size w w1 := below_on (by focus (repeat (first | (with_reducible exact Below.refl _ _) | (with_reducible assumption) | ((with_reducible refine Below.setCell ?_ ?_ _); rotate_left; (focus (first | omega | (simp; done) | (simp; omega)))) | ((with_reducible refine Below.alloc ?_ ?_ _); rotate_left; (focus (first | omega | (simp; done) | (simp; omega)))) | (with_reducible refine Below.drew ?_) | (refine below_on ?_ (by assumption))))) hb
  clear hb
  go_wp2
  obtain ⟨l1, l2, l3⟩ := laid_five w.heap.size w1 (.bool (ng 1)) (.int .u64 (dg (ab 1) 0)) (.int .u64 (dg (ab 1) 1)) (.int .u64 (dg (ab 1) 2)) (.int .u64 (dg (ab 1) 3))
  have c2 := cell_at (l1 z1 rfl)
  refine bodyPost_ret (by simp [results, Tryz.results89, go_sem, c2]) rfl ⟨rfl, hw1.trans (l3 _ (by omega))⟩
end Go.Proofs.YtfchmikbebdflaaGreatDoor

namespace Go.Proofs.YtfchmikbebdflaaGreatDoor
open Go.RowKit Go.BigFrame Go.Shelf

theorem ltext_nat (d : Nat) (hd : d < 2 ^ 256) (w : World) :
    Calls Tryz.prog 88 #[.agg #[.bool (false), .int .u64 (dg (d) 0), .int .u64 (dg (d) 1), .int .u64 (dg (d) 2), .int .u64 (dg (d) 3)]] w fun e w' => e = .returned (.tuple #[.string (bs (numL d)), .int .i64 0]) ∧ Below w.heap.size w w' := by
  have h := ltext_bs (d : Int) (by rw [ab_nat]; exact hd) w
  rw [ng_nat, ab_nat] at h
  exact h
theorem rone_flat (w : World) :
    Calls Tryz.prog 89 #[] w fun e w' => e = .returned (.agg #[.bool (false), .int .u64 (dg (1) 0), .int .u64 (dg (1) 1), .int .u64 (dg (1) 2), .int .u64 (dg (1) 3)]) ∧ Below w.heap.size w w' := rone_any w
theorem not_one (d : Nat) (hd : d < 2 ^ 256) (h1 : ¬ d = 1) : dg d 0 = dg 1 0 → dg d 1 = dg 1 1 → dg d 2 = dg 1 2 → ¬ dg d 3 = dg 1 3 := by
  have hq := eq_one d hd
  rw [decide_eq_false h1, ng_nat, ab_nat] at hq
  rw [show ng 1 = false from rfl, show ab 1 = 1 from rfl] at hq
  intro a b c e
  rw [a, b, c, e] at hq
  simp at hq
set_option maxRecDepth 20000 in
set_option maxHeartbeats 2000000 in
theorem rattext_one (z : Int) (hz : ab z < 2 ^ 256) (ho : okR (ng z, ab z) (false, 1)) (w : World) :
    Calls Tryz.prog 68 #[.agg #[.bool (ng z), .int .u64 (dg (ab z) 0), .int .u64 (dg (ab z) 1), .int .u64 (dg (ab z) 2), .int .u64 (dg (ab z) 3), .bool (false), .int .u64 (dg (1) 0), .int .u64 (dg (1) 1), .int .u64 (dg (1) 2), .int .u64 (dg (1) 3)]] w fun e w' => e = .returned (.tuple #[.string (bs (numL z)), .int .i64 0]) ∧ Below w.heap.size w w' := by
  have hd : 1 < 2 ^ 256 := by decide
  have HC : Hd (∀ w, Calls Tryz.prog 86 #[.agg #[.bool (ng z), .int .u64 (dg (ab z) 0), .int .u64 (dg (ab z) 1), .int .u64 (dg (ab z) 2), .int .u64 (dg (ab z) 3), .bool (false), .int .u64 (dg (1) 0), .int .u64 (dg (1) 1), .int .u64 (dg (1) 2), .int .u64 (dg (1) 3)]] w fun e w' => e = .returned (.int .i64 0) ∧ Below w.heap.size w w') := ⟨fun w => rat_check_any (ng z, ab z) (false, 1) hz hd true (by simp [ho]) w⟩
  have HT1 := Hd.mk (fun w => ltext_bs z hz w)
  have HT2 := Hd.mk (fun w => ltext_nat (1) hd w)
  have hl1 := numL_len hz
  have hl2 := numL_len (z := ((1 : Nat) : Int)) (by rw [ab_nat]; exact hd)
  clear ho
  generalize numL z = A at *
  generalize numL ((1 : Nat) : Int) = B at *
  have r1 := fun w => run_bs_add (P := Tryz.prog) A [47] (A ++ [47]) (by rw [List.length_singleton]; omega) rfl w
  have r2 := fun w => run_bs_add (P := Tryz.prog) (A ++ [47]) B (A ++ 47 :: B) (by rw [List.length_append, List.length_singleton]; omega) (by simp) w
  clear hl1 hl2 hz hd
  go_enter Tryz.func68, Tryz.ntmps68
  go_wp2_with fail
  refine (HC.out _).mono ?_
  rintro e wa ⟨rfl, hb⟩
  have z0 := heap_below hb (heap_new w (.cells #[.bool (ng z), .int .u64 (dg (ab z) 0), .int .u64 (dg (ab z) 1), .int .u64 (dg (ab z) 2), .int .u64 (dg (ab z) 3), .bool (false), .int .u64 (dg (1) 0), .int .u64 (dg (1) 1), .int .u64 (dg (1) 2), .int .u64 (dg (1) 3)] 91))
  have hB : Below w.heap.size w wa := below_on (by focus (repeat (first | (with_reducible exact Below.refl _ _) | (with_reducible assumption) | ((with_reducible refine Below.setCell ?_ ?_ _); rotate_left; (focus (first | omega | (simp; done) | (simp; omega)))) | ((with_reducible refine Below.alloc ?_ ?_ _); rotate_left; (focus (first | omega | (simp; done) | (simp; omega)))) | (with_reducible refine Below.drew ?_) | (refine below_on ?_ (by assumption))))) hb
  have c0 := cell_at z0
  clear hb HC
  go_wp2_with fail
  refine (HT1.out _).mono ?_
  rintro e wb ⟨rfl, hb⟩
  have z1 := heap_below hb z0
  have hB1 := below_on hB hb
  clear hb c0 z0 hB HT1
  go_upto_region 5 with (fail)
  refine abs_wp (fun W => W.heap[w.heap.size]? = some (.cells #[.bool (ng z), .int .u64 (dg (ab z) 0), .int .u64 (dg (ab z) 1), .int .u64 (dg (ab z) 2), .int .u64 (dg (ab z) 3), .bool (false), .int .u64 (dg (1) 0), .int .u64 (dg (1) 1), .int .u64 (dg (1) 2), .int .u64 (dg (1) 3)] 91 (0, 0)) ∧ Below w.heap.size w W) ⟨z1, hB1⟩ fun W ⟨z2, hB⟩ => ?_
  clear z1 hB1
  refine region_qt 3 (by kernel_rfl) (by kernel_rfl) fun X _ mk hmk hcl => ?_
  have c1 := mk_cell hmk z2
  simp only [List.take_succ_cons, List.take_zero, List.drop_succ_cons, List.drop_zero]
  repeat (go_big_quiet_step ((go_at_call 89; exact (rone_flat _).mono fun e w' ⟨he, hw⟩ => ⟨he, hcl _ _ hw⟩)))
  refine wpQuiet_nil ?_
  rintro _ ⟨x, rfl⟩
  have hbx := hmk x
  have z3 := heap_below hbx z2
  clear hcl hmk c1
  generalize mk x = W2 at hbx z3 ⊢
  have hB2 := below_on hB hbx
  clear hB hbx z2
  have c2 := cell_at z3
  go_wp2
  go_ret2
  exact ⟨rfl, hB2⟩
set_option maxRecDepth 20000 in
set_option maxHeartbeats 2000000 in
theorem rattext_two (z : Int) (d : Nat) (hz : ab z < 2 ^ 256) (hd : d < 2 ^ 256) (ho : okR (ng z, ab z) (false, d)) (h1 : ¬ d = 1) (w : World) :
    Calls Tryz.prog 68 #[.agg #[.bool (ng z), .int .u64 (dg (ab z) 0), .int .u64 (dg (ab z) 1), .int .u64 (dg (ab z) 2), .int .u64 (dg (ab z) 3), .bool (false), .int .u64 (dg (d) 0), .int .u64 (dg (d) 1), .int .u64 (dg (d) 2), .int .u64 (dg (d) 3)]] w fun e w' => e = .returned (.tuple #[.string (bs (numL z ++ 47 :: numL d)), .int .i64 0]) ∧ Below w.heap.size w w' := by
  have HE2 := Hd.mk (not_one d hd h1)
  clear h1
  have HC : Hd (∀ w, Calls Tryz.prog 86 #[.agg #[.bool (ng z), .int .u64 (dg (ab z) 0), .int .u64 (dg (ab z) 1), .int .u64 (dg (ab z) 2), .int .u64 (dg (ab z) 3), .bool (false), .int .u64 (dg (d) 0), .int .u64 (dg (d) 1), .int .u64 (dg (d) 2), .int .u64 (dg (d) 3)]] w fun e w' => e = .returned (.int .i64 0) ∧ Below w.heap.size w w') := ⟨fun w => rat_check_any (ng z, ab z) (false, d) hz hd true (by simp [ho]) w⟩
  have HT1 := Hd.mk (fun w => ltext_bs z hz w)
  have HT2 := Hd.mk (fun w => ltext_nat (d) hd w)
  have hl1 := numL_len hz
  have hl2 := numL_len (z := ((d : Nat) : Int)) (by rw [ab_nat]; exact hd)
  clear ho
  generalize numL z = A at *
  generalize numL ((d : Nat) : Int) = B at *
  have r1 := fun w => run_bs_add (P := Tryz.prog) A [47] (A ++ [47]) (by rw [List.length_singleton]; omega) rfl w
  have r2 := fun w => run_bs_add (P := Tryz.prog) (A ++ [47]) B (A ++ 47 :: B) (by rw [List.length_append, List.length_singleton]; omega) (by simp) w
  clear hl1 hl2 hz hd
  go_enter Tryz.func68, Tryz.ntmps68
  go_wp2_with fail
  refine (HC.out _).mono ?_
  rintro e wa ⟨rfl, hb⟩
  have z0 := heap_below hb (heap_new w (.cells #[.bool (ng z), .int .u64 (dg (ab z) 0), .int .u64 (dg (ab z) 1), .int .u64 (dg (ab z) 2), .int .u64 (dg (ab z) 3), .bool (false), .int .u64 (dg (d) 0), .int .u64 (dg (d) 1), .int .u64 (dg (d) 2), .int .u64 (dg (d) 3)] 91))
  have hB : Below w.heap.size w wa := below_on (by focus (repeat (first | (with_reducible exact Below.refl _ _) | (with_reducible assumption) | ((with_reducible refine Below.setCell ?_ ?_ _); rotate_left; (focus (first | omega | (simp; done) | (simp; omega)))) | ((with_reducible refine Below.alloc ?_ ?_ _); rotate_left; (focus (first | omega | (simp; done) | (simp; omega)))) | (with_reducible refine Below.drew ?_) | (refine below_on ?_ (by assumption))))) hb
  have c0 := cell_at z0
  clear hb HC
  go_wp2_with fail
  refine (HT1.out _).mono ?_
  rintro e wb ⟨rfl, hb⟩
  have z1 := heap_below hb z0
  have hB1 := below_on hB hb
  clear hb c0 z0 hB HT1
  go_upto_region 5 with (fail)
  refine abs_wp (fun W => W.heap[w.heap.size]? = some (.cells #[.bool (ng z), .int .u64 (dg (ab z) 0), .int .u64 (dg (ab z) 1), .int .u64 (dg (ab z) 2), .int .u64 (dg (ab z) 3), .bool (false), .int .u64 (dg (d) 0), .int .u64 (dg (d) 1), .int .u64 (dg (d) 2), .int .u64 (dg (d) 3)] 91 (0, 0)) ∧ Below w.heap.size w W) ⟨z1, hB1⟩ fun W ⟨z2, hB⟩ => ?_
  clear z1 hB1
  refine region_qt 3 (by kernel_rfl) (by kernel_rfl) fun X _ mk hmk hcl => ?_
  have c1 := mk_cell hmk z2
  simp only [List.take_succ_cons, List.take_zero, List.drop_succ_cons, List.drop_zero]
  repeat (go_big_quiet_step ((go_at_call 89; exact (rone_flat _).mono fun e w' ⟨he, hw⟩ => ⟨he, hcl _ _ hw⟩)))
  refine wpQuiet_nil ?_
  rintro _ ⟨x, rfl⟩
  have hbx := hmk x
  have z3 := heap_below hbx z2
  clear hcl hmk c1
  generalize mk x = W2 at hbx z3 ⊢
  have hB2 := below_on hB hbx
  clear hB hbx z2
  have c2 := cell_at z3
  go_wp2_with fail
  all_goals first
    | (exact absurd HE2.out (by assumption))
    | skip
  refine (HT2.out _).mono ?_
  rintro e wc ⟨rfl, hb⟩
  have hB3 := below_on hB2 hb
  clear hb c2 z3 hB2
  go_wp2
  go_ret2
  exact ⟨rfl, hB3⟩
theorem rattext_p (p q : Bool × Nat) (hp : p.2 < 2 ^ 256) (hq : q.2 < 2 ^ 256) (ho : okR p q) (w : World) :
    Calls Tryz.prog 68 #[.agg #[.bool (p.1), .int .u64 (dg (p.2) 0), .int .u64 (dg (p.2) 1), .int .u64 (dg (p.2) 2), .int .u64 (dg (p.2) 3), .bool (q.1), .int .u64 (dg (q.2) 0), .int .u64 (dg (q.2) 1), .int .u64 (dg (q.2) 2), .int .u64 (dg (q.2) 3)]] w fun e w' => e = .returned (.tuple #[.string (bs (ratL (zof p.1 p.2) q.2)), .int .i64 0]) ∧ Below w.heap.size w w' := by
  obtain ⟨a1, a2, a3, a4, a5⟩ := okR_parts ho
  obtain ⟨q1, d⟩ := q
  simp only at a3 hq
  subst a3
  have ho2 : okR (ng (zof p.1 p.2), ab (zof p.1 p.2)) (false, d) := by rw [a1, a2]; exact ho
  unfold ratL
  split
  · rename_i h1
    simp only at h1
    subst h1
    have h := rattext_one (zof p.1 p.2) (by rw [a2]; exact hp) ho2 w
    rw [a1, a2] at h
    exact h
  · rename_i h1
    have h := rattext_two (zof p.1 p.2) d (by rw [a2]; exact hp) hq ho2 h1 w
    rw [a1, a2] at h
    exact h
set_option maxRecDepth 20000 in
set_option maxHeartbeats 2000000 in
/-- Text, of a point that may be. -/
theorem ptext_ok (x : Pq) (hl : ltX x) (ho : okX x) (w : World) :
    Calls Tryz.prog 44 #[.agg (pqC x).toArray] w fun e w' => e = .returned (.tuple #[.string (bs (ptL x)), .int .i64 0]) ∧ Below w.heap.size w w' := by
  obtain ⟨p, q, r, s⟩ := x
  have HR : Hd (∀ w, Calls Tryz.prog 67 #[.agg #[.bool p.1, .int .u64 (dg (p.2) 0), .int .u64 (dg (p.2) 1), .int .u64 (dg (p.2) 2), .int .u64 (dg (p.2) 3), .bool q.1, .int .u64 (dg (q.2) 0), .int .u64 (dg (q.2) 1), .int .u64 (dg (q.2) 2), .int .u64 (dg (q.2) 3), .bool r.1, .int .u64 (dg (r.2) 0), .int .u64 (dg (r.2) 1), .int .u64 (dg (r.2) 2), .int .u64 (dg (r.2) 3), .bool s.1, .int .u64 (dg (s.2) 0), .int .u64 (dg (s.2) 1), .int .u64 (dg (s.2) 2), .int .u64 (dg (s.2) 3)]] w fun e w' => e = .returned (.int .i64 0) ∧ Below w.heap.size w w') := ⟨fun w => pright_p p q r s hl.1 hl.2.1 hl.2.2.1 hl.2.2.2 true (by simpa [okX] using ho) w⟩
  have HT1 := Hd.mk (fun w => rattext_p p q hl.1 hl.2.1 ho.1 w)
  have HT2 := Hd.mk (fun w => rattext_p r s hl.2.2.1 hl.2.2.2 ho.2.1 w)
  have hl1 := ratL_len (z := zof p.1 p.2) (d := q.2) (by rw [ab_zof]; exact hl.1) hl.2.1
  have hl2 := ratL_len (z := zof r.1 r.2) (d := s.2) (by rw [ab_zof]; exact hl.2.2.1) hl.2.2.2
  have e : ptL (p, q, r, s) = ratL (zof p.1 p.2) q.2 ++ 32 :: ratL (zof r.1 r.2) s.2 := rfl
  rw [e]
  show Calls Tryz.prog 44 #[.agg #[.bool p.1, .int .u64 (dg (p.2) 0), .int .u64 (dg (p.2) 1), .int .u64 (dg (p.2) 2), .int .u64 (dg (p.2) 3), .bool q.1, .int .u64 (dg (q.2) 0), .int .u64 (dg (q.2) 1), .int .u64 (dg (q.2) 2), .int .u64 (dg (q.2) 3), .bool r.1, .int .u64 (dg (r.2) 0), .int .u64 (dg (r.2) 1), .int .u64 (dg (r.2) 2), .int .u64 (dg (r.2) 3), .bool s.1, .int .u64 (dg (s.2) 0), .int .u64 (dg (s.2) 1), .int .u64 (dg (s.2) 2), .int .u64 (dg (s.2) 3)]] w _
  clear e ho hl
  generalize ratL (zof p.1 p.2) q.2 = A at *
  generalize ratL (zof r.1 r.2) s.2 = B at *
  have r1 := fun w => run_bs_add (P := Tryz.prog) A [32] (A ++ [32]) (by rw [List.length_singleton]; omega) rfl w
  have r2 := fun w => run_bs_add (P := Tryz.prog) (A ++ [32]) B (A ++ 32 :: B) (by rw [List.length_append, List.length_singleton]; omega) (by simp) w
  clear hl1 hl2
  go_enter Tryz.func44, Tryz.ntmps44
  go_upto_region 1 with (fail)
  refine abs_wp (fun W => W.heap[w.heap.size]? = some (.cells #[.bool p.1, .int .u64 (dg (p.2) 0), .int .u64 (dg (p.2) 1), .int .u64 (dg (p.2) 2), .int .u64 (dg (p.2) 3), .bool q.1, .int .u64 (dg (q.2) 0), .int .u64 (dg (q.2) 1), .int .u64 (dg (q.2) 2), .int .u64 (dg (q.2) 3), .bool r.1, .int .u64 (dg (r.2) 0), .int .u64 (dg (r.2) 1), .int .u64 (dg (r.2) 2), .int .u64 (dg (r.2) 3), .bool s.1, .int .u64 (dg (s.2) 0), .int .u64 (dg (s.2) 1), .int .u64 (dg (s.2) 2), .int .u64 (dg (s.2) 3)] 93 (0, 0)) ∧ Below w.heap.size w W) ⟨heap_new w _, by focus (repeat (first | (with_reducible exact Below.refl _ _) | (with_reducible assumption) | ((with_reducible refine Below.setCell ?_ ?_ _); rotate_left; (focus (first | omega | (simp; done) | (simp; omega)))) | ((with_reducible refine Below.alloc ?_ ?_ _); rotate_left; (focus (first | omega | (simp; done) | (simp; omega)))) | (with_reducible refine Below.drew ?_) | (refine below_on ?_ (by assumption))))⟩ fun W ⟨z0, hB⟩ => ?_
  go_wp2_with (refine wpList_load_point (.tmp 1) rfl rfl _ rfl z0 rfl ?_)
  refine (HR.out _).mono ?_
  rintro e wa ⟨rfl, hb⟩
  have z1 := heap_below hb z0
  have hB1 := below_on hB hb
  have c1 := cell_at z1
  clear hb HR z0 hB
  go_wp2_with fail
  refine (HT1.out _).mono ?_
  rintro e wb ⟨rfl, hb⟩
  have z2 := heap_below hb z1
  have hB2 := below_on hB1 hb
  have c2 := cell_at z2
  clear hb HT1 z1 hB1 c1
  go_wp2_with fail
  refine (HT2.out _).mono ?_
  rintro e wc ⟨rfl, hb⟩
  have hB3 := below_on hB2 hb
  clear hb HT2 z2 hB2 c2
  go_wp2
  go_ret2
  exact ⟨rfl, hB3⟩
set_option maxRecDepth 20000 in
set_option maxHeartbeats 2000000 in
/-- Text, of a point that may not be. -/
theorem ptext_no (x : Pq) (hl : ltX x) (ho : ¬ okX x) (w : World) :
    Calls Tryz.prog 44 #[.agg (pqC x).toArray] w fun e w' => e = .returned (.tuple #[.string ⟨#[]⟩, .int .i64 2]) ∧ Below w.heap.size w w' := by
  obtain ⟨p, q, r, s⟩ := x
  have HR : Hd (∀ w, Calls Tryz.prog 67 #[.agg #[.bool p.1, .int .u64 (dg (p.2) 0), .int .u64 (dg (p.2) 1), .int .u64 (dg (p.2) 2), .int .u64 (dg (p.2) 3), .bool q.1, .int .u64 (dg (q.2) 0), .int .u64 (dg (q.2) 1), .int .u64 (dg (q.2) 2), .int .u64 (dg (q.2) 3), .bool r.1, .int .u64 (dg (r.2) 0), .int .u64 (dg (r.2) 1), .int .u64 (dg (r.2) 2), .int .u64 (dg (r.2) 3), .bool s.1, .int .u64 (dg (s.2) 0), .int .u64 (dg (s.2) 1), .int .u64 (dg (s.2) 2), .int .u64 (dg (s.2) 3)]] w fun e w' => e = .returned (.int .i64 2) ∧ Below w.heap.size w w') := ⟨fun w => pright_p p q r s hl.1 hl.2.1 hl.2.2.1 hl.2.2.2 false (by simpa [okX] using ho) w⟩
  show Calls Tryz.prog 44 #[.agg #[.bool p.1, .int .u64 (dg (p.2) 0), .int .u64 (dg (p.2) 1), .int .u64 (dg (p.2) 2), .int .u64 (dg (p.2) 3), .bool q.1, .int .u64 (dg (q.2) 0), .int .u64 (dg (q.2) 1), .int .u64 (dg (q.2) 2), .int .u64 (dg (q.2) 3), .bool r.1, .int .u64 (dg (r.2) 0), .int .u64 (dg (r.2) 1), .int .u64 (dg (r.2) 2), .int .u64 (dg (r.2) 3), .bool s.1, .int .u64 (dg (s.2) 0), .int .u64 (dg (s.2) 1), .int .u64 (dg (s.2) 2), .int .u64 (dg (s.2) 3)]] w _
  clear ho hl
  go_enter Tryz.func44, Tryz.ntmps44
  go_upto_region 1 with (fail)
  refine abs_wp (fun W => W.heap[w.heap.size]? = some (.cells #[.bool p.1, .int .u64 (dg (p.2) 0), .int .u64 (dg (p.2) 1), .int .u64 (dg (p.2) 2), .int .u64 (dg (p.2) 3), .bool q.1, .int .u64 (dg (q.2) 0), .int .u64 (dg (q.2) 1), .int .u64 (dg (q.2) 2), .int .u64 (dg (q.2) 3), .bool r.1, .int .u64 (dg (r.2) 0), .int .u64 (dg (r.2) 1), .int .u64 (dg (r.2) 2), .int .u64 (dg (r.2) 3), .bool s.1, .int .u64 (dg (s.2) 0), .int .u64 (dg (s.2) 1), .int .u64 (dg (s.2) 2), .int .u64 (dg (s.2) 3)] 93 (0, 0)) ∧ Below w.heap.size w W) ⟨heap_new w _, by focus (repeat (first | (with_reducible exact Below.refl _ _) | (with_reducible assumption) | ((with_reducible refine Below.setCell ?_ ?_ _); rotate_left; (focus (first | omega | (simp; done) | (simp; omega)))) | ((with_reducible refine Below.alloc ?_ ?_ _); rotate_left; (focus (first | omega | (simp; done) | (simp; omega)))) | (with_reducible refine Below.drew ?_) | (refine below_on ?_ (by assumption))))⟩ fun W ⟨z0, hB⟩ => ?_
  go_wp2_with (refine wpList_load_point (.tmp 1) rfl rfl _ rfl z0 rfl ?_)
  refine (HR.out _).mono ?_
  rintro e wa ⟨rfl, hb⟩
  have hB1 := below_on hB hb
  clear hb HR z0 hB
  go_wp2
  go_ret2
  exact ⟨rfl, hB1⟩
end Go.Proofs.YtfchmikbebdflaaGreatDoor
