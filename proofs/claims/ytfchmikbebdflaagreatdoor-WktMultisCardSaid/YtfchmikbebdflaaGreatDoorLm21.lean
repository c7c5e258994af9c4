/-
  Walks: Cmp. Conditions stand in each theorem.
-/
import Derived.Test.YtfchmikbebdflaaGreatDoorWd3
namespace Go.Proofs.YtfchmikbebdflaaGreatDoor
open Go.RowKit Go.BigFrame

/-- The pair of a number. -/
abbrev pr (z : Int) : Bool × Nat := (ng z, ab z)
theorem pr_ok (z : Int) : okP (pr z) := ng_zero_iff z
theorem prs_ok (zs : List Int) : ∀ p ∈ zs.map pr, okP p := by
  intro p hp
  obtain ⟨z, _, rfl⟩ := List.mem_map.1 hp
  exact pr_ok z
theorem pr_of {p : Bool × Nat} (h : okP p) : p = pr (zof p.1 p.2) := by
  obtain ⟨s, n⟩ := p
  unfold pr
  rw [ng_zof, ab_zof]
  cases s <;> simp_all [okP]
theorem prs_of {ps : List (Bool × Nat)} (h : ∀ p ∈ ps, okP p) : ∃ zs : List Int, ps = zs.map pr := by
  refine ⟨ps.map fun p => zof p.1 p.2, ?_⟩
  rw [List.map_map]
  refine (List.map_id ps).symm.trans (List.map_congr_left fun p hp => ?_)
  exact pr_of (h p hp)
/-- A sum, one after the other; nothing once it is too great. -/
def addF (z : Int) : List Int → Option Int
  | [] => some z
  | y :: ys => if ab (z + y) < 2 ^ 256 then addF (z + y) ys else none
def addV (zs : List Int) : Int := (addF 0 zs).getD 0
def addE (zs : List Int) : Int := if (addF 0 zs).isSome then 0 else 110
theorem addF_step {z v : Int} {zs : List Int} {k : Nat} (hk : zs[k]? = some v) (h : ab (z + v) < 2 ^ 256) : addF (z + v) (zs.drop (k + 1)) = addF z (zs.drop k) := by
  obtain ⟨h1, rfl⟩ := List.getElem?_eq_some_iff.1 hk
  rw [List.drop_eq_getElem_cons h1, addF, if_pos h]
theorem addF_over {z v : Int} {zs : List Int} {k : Nat} (hk : zs[k]? = some v) (h : ¬ ab (z + v) < 2 ^ 256) : addF z (zs.drop k) = none := by
  obtain ⟨h1, rfl⟩ := List.getElem?_eq_some_iff.1 hk
  rw [List.drop_eq_getElem_cons h1, addF, if_neg h]
theorem right_zs (A : Option Addr) (c : Nat) (zs : List Int) (w : World) (hI : IntsAt w A (zs.map pr)) :
    Calls Tryz.prog 159 #[.slice A zs.length c] w fun e w' => e = .returned (.tuple #[]) ∧ Below w.heap.size w w' := by
  have h := right_ok A c (zs.map pr) w hI (prs_ok zs)
  rwa [List.length_map] at h
end Go.Proofs.YtfchmikbebdflaaGreatDoor

namespace Go.Proofs.YtfchmikbebdflaaGreatDoor
open Go.RowKit Go.BigFrame

theorem ab_neg' (z : Int) : ab (-z) = ab z := by unfold ab; omega
theorem ints_two_z {W : World} {b : Nat} {t : TypeId} {f : Nat × Nat} {x y : Int} (hx : ab x < 2 ^ 256) (hy : ab y < 2 ^ 256)
    (h : W.heap[b]? = some (.cells #[.bool (ng x), .int .u64 (dg (ab x) 0), .int .u64 (dg (ab x) 1), .int .u64 (dg (ab x) 2), .int .u64 (dg (ab x) 3), .bool (ng y), .int .u64 (dg (ab y) 0), .int .u64 (dg (ab y) 1), .int .u64 (dg (ab y) 2), .int .u64 (dg (ab y) 3)] t f)) :
    IntsAt W (some ⟨b, 0, none⟩) ([x, y].map pr) := ints_two (p := pr x) (q := pr y) hx hy h
theorem abs_post {P : Program} {fn : Func} {R : Ending → World → Prop} {e : Exit} {a : Act} {w : World} (I : World → Prop) (h0 : I w) (h : ∀ W, I W → bodyPost P fn R e a W) : bodyPost P fn R e a w := h w h0
end Go.Proofs.YtfchmikbebdflaaGreatDoor

namespace Go.Proofs.YtfchmikbebdflaaGreatDoor
open Go.RowKit Go.BigFrame

theorem dg_small {m : Nat} (h : m < 18446744073709551616) : dg m 0 = m ∧ dg m 1 = 0 ∧ dg m 2 = 0 ∧ dg m 3 = 0 := by
  unfold dg
  rw [pow0, pow1, pow2, pow3, ← Nat.div_div_eq_div_mul, ← Nat.div_div_eq_div_mul, ← Nat.div_div_eq_div_mul]
  omega
theorem of_small (b : Bool) (v : Int) (m : Nat) (hv : v = m) (hm : m < 18446744073709551616) (w : World) :
    Calls Tryz.prog 140 #[.bool b, .agg #[.int .u64 v, .int .u64 0, .int .u64 0, .int .u64 0]] w fun e w' => e = .returned (.agg #[.bool (ng (zof b m)), .int .u64 (dg (ab (zof b m)) 0), .int .u64 (dg (ab (zof b m)) 1), .int .u64 (dg (ab (zof b m)) 2), .int .u64 (dg (ab (zof b m)) 3)]) ∧ Below w.heap.size w w' := by
  obtain ⟨d0, d1, d2, d3⟩ := dg_small hm
  have h := of_z b m (Nat.lt_of_lt_of_le hm (by decide)) w
  rw [d0, d1, d2, d3, ← hv] at h
  exact h
theorem wrap_neg (n : Int) (h1 : -9223372036854775808 ≤ n) (hs : n < 0) : IntKind.u64.wrap (-IntKind.u64.wrap n) = (ab n : Nat) := by
  unfold ab
  simp [IntKind.wrap, IntKind.bits, IntKind.signed]
  omega
set_option maxHeartbeats 1000000 in
theorem of_word (n : Int) (h1 : -9223372036854775808 ≤ n) (h2 : n < 9223372036854775808) (w : World) :
    Calls Tryz.prog 112 #[.int .i64 n] w fun e w' => e = .returned (.agg #[.bool (ng (n)), .int .u64 (dg (ab (n)) 0), .int .u64 (dg (ab (n)) 1), .int .u64 (dg (ab (n)) 2), .int .u64 (dg (ab (n)) 3)]) ∧ Below w.heap.size w w' := by
  have hab : ab n < 18446744073709551616 := by unfold ab; omega
  by_cases hs : n < 0
  · have hs' := hs
    have hw := Hd.mk (wrap_neg n h1 hs)
    have hz : Hd (zof true (ab n) = n) := ⟨by unfold zof ab; simp; omega⟩
    have HA := Hd.mk hab
    clear hab
    go_enter Tryz.func112, Tryz.ntmps112
    go_wp2_with fail
    refine (of_small _ _ _ hw.out HA.out _).mono ?_
    rw [hz.out]
    rintro e w1 ⟨rfl, hb1⟩
    have z1 : w1.heap[w.heap.size]? = some _ := heap_below hb1 (heap_old (heap_new w _) _)
    have c1 := cell_at z1
    have f1 := frozen_at z1
    have hw1 : Below w.heap.size w w1 := by
      focus (repeat (first | (with_reducible exact Below.refl _ _) | (with_reducible assumption) | ((with_reducible refine Below.setCell ?_ ?_ _); rotate_left; (focus (first | omega | (simp; done) | (simp; omega)))) | ((with_reducible refine Below.alloc ?_ ?_ _); rotate_left; (focus (first | omega | (simp; done) | (simp; omega)))) | (with_reducible refine Below.drew ?_) | (refine below_on ?_ (by assumption))))
    clear hb1
    go_wp2
    refine abs_post (fun W => W.heap[w.heap.size]? = some (.cells #[.bool (ng (n)), .int .u64 (dg (ab (n)) 0), .int .u64 (dg (ab (n)) 1), .int .u64 (dg (ab (n)) 2), .int .u64 (dg (ab (n)) 3)] 89 (0, 0)) ∧ Below w.heap.size w W) ?_ fun W ⟨y0, hB⟩ => ?_
    · obtain ⟨l1, l2, l3⟩ := laid_five w.heap.size w1 (.bool (ng n)) (.int .u64 (dg (ab n) 0)) (.int .u64 (dg (ab n) 1)) (.int .u64 (dg (ab n) 2)) (.int .u64 (dg (ab n) 3))
      exact ⟨l1 z1 rfl, hw1.trans (l3 _ (by omega))⟩
    · have c0 := cell_at y0
      refine bodyPost_ret (by simp [results, Tryz.results112, go_sem, c0]) rfl ⟨rfl, hB⟩
  · have hv : Hd (n = (ab n : Nat)) := ⟨by unfold ab; omega⟩
    have hz : Hd (zof false (ab n) = n) := ⟨by unfold zof ab; simp; omega⟩
    have HA := Hd.mk hab
    clear hab
    go_enter Tryz.func112, Tryz.ntmps112
    go_wp2_with fail
    refine (of_small _ _ _ hv.out HA.out _).mono ?_
    rw [hz.out]
    rintro e w1 ⟨rfl, hb1⟩
    have z1 : w1.heap[w.heap.size]? = some _ := heap_below hb1 (heap_old (heap_new w _) _)
    have c1 := cell_at z1
    have f1 := frozen_at z1
    have hw1 : Below w.heap.size w w1 := by
      focus (repeat (first | (with_reducible exact Below.refl _ _) | (with_reducible assumption) | ((with_reducible refine Below.setCell ?_ ?_ _); rotate_left; (focus (first | omega | (simp; done) | (simp; omega)))) | ((with_reducible refine Below.alloc ?_ ?_ _); rotate_left; (focus (first | omega | (simp; done) | (simp; omega)))) | (with_reducible refine Below.drew ?_) | (refine below_on ?_ (by assumption))))
    clear hb1
    go_wp2
    refine abs_post (fun W => W.heap[w.heap.size]? = some (.cells #[.bool (ng (n)), .int .u64 (dg (ab (n)) 0), .int .u64 (dg (ab (n)) 1), .int .u64 (dg (ab (n)) 2), .int .u64 (dg (ab (n)) 3)] 89 (0, 0)) ∧ Below w.heap.size w W) ?_ fun W ⟨y0, hB⟩ => ?_
    · obtain ⟨l1, l2, l3⟩ := laid_five w.heap.size w1 (.bool (ng n)) (.int .u64 (dg (ab n) 0)) (.int .u64 (dg (ab n) 1)) (.int .u64 (dg (ab n) 2)) (.int .u64 (dg (ab n) 3))
      exact ⟨l1 z1 rfl, hw1.trans (l3 _ (by omega))⟩
    · have c0 := cell_at y0
      refine bodyPost_ret (by simp [results, Tryz.results112, go_sem, c0]) rfl ⟨rfl, hB⟩
end Go.Proofs.YtfchmikbebdflaaGreatDoor

namespace Go.Proofs.YtfchmikbebdflaaGreatDoor
open Go.RowKit Go.BigFrame

/-- A product, one after the other; nothing once it is too great. -/
def mulF (z : Int) : List Int → Option Int
  | [] => some z
  | y :: ys => if ab (z * y) < 2 ^ 256 then mulF (z * y) ys else none
def mulV (zs : List Int) : Int := (mulF 1 zs).getD 0
def mulE (zs : List Int) : Int := if (mulF 1 zs).isSome then 0 else 110
theorem mulF_step {z v : Int} {zs : List Int} {k : Nat} (hk : zs[k]? = some v) (h : ab (z * v) < 2 ^ 256) : mulF (z * v) (zs.drop (k + 1)) = mulF z (zs.drop k) := by
  obtain ⟨h1, rfl⟩ := List.getElem?_eq_some_iff.1 hk
  rw [List.drop_eq_getElem_cons h1, mulF, if_pos h]
theorem mulF_over {z v : Int} {zs : List Int} {k : Nat} (hk : zs[k]? = some v) (h : ¬ ab (z * v) < 2 ^ 256) : mulF z (zs.drop k) = none := by
  obtain ⟨h1, rfl⟩ := List.getElem?_eq_some_iff.1 hk
  rw [List.drop_eq_getElem_cons h1, mulF, if_neg h]
theorem ab_mul (x y : Int) : ab (x * y) = ab x * ab y := by unfold ab; exact Int.natAbs_mul x y
theorem zof_mul (x y : Int) : zof (!(ng x == ng y)) (ab x * ab y) = x * y := by
  have hx := zof_ng_ab x
  have hy := zof_ng_ab y
  generalize ng x = s at *
  generalize ng y = t at *
  generalize ab x = a at *
  generalize ab y = b at *
  subst hx hy
  cases s <;> cases t <;> simp [zof, Int.neg_mul, Int.mul_neg]
end Go.Proofs.YtfchmikbebdflaaGreatDoor

namespace Go.Proofs.YtfchmikbebdflaaGreatDoor
open Go.RowKit Go.BigFrame

/-- Two Ints' cells are laid. -/
def Laid2 (b1 b2 : Nat) (u v : Array Value) (W w' : World) : Prop :=
  (∀ {c d : Array Value} {t t' : TypeId}, W.heap[b1]? = some (.cells c t (0, 0)) → c.size = 5 → W.heap[b2]? = some (.cells d t' (0, 0)) → d.size = 5 → w'.heap[b1]? = some (.cells u t (0, 0)) ∧ w'.heap[b2]? = some (.cells v t' (0, 0))) ∧ (∀ k o, k ≠ b1 → k ≠ b2 → W.heap[k]? = some o → w'.heap[k]? = some o) ∧ ∀ n, n ≤ b1 → n ≤ b2 → Below n W w'
theorem laid_two {b1 b2 : Nat} (hne : b1 ≠ b2) {u v : Array Value} {W W1 W2 : World} (h1 : Laid b1 u W W1) (h2 : Laid b2 v W1 W2) : Laid2 b1 b2 u v W W2 := by
  refine ⟨fun {c d t t'} hc hcs hd hds => ⟨h2.2.1 _ _ hne (h1.1 hc hcs), h2.1 (h1.2.1 _ _ hne.symm hd) hds⟩, fun k o k1 k2 hk => h2.2.1 _ _ k2 (h1.2.1 _ _ k1 hk), fun n n1 n2 => (h1.2.2 _ n1).trans (h2.2.2 _ n2)⟩
/-- What three named results hold. -/
def OutAt3 (w : World) (b1 b2 d : Nat) (y z : Int) (n : Int) (W : World) : Prop :=
  W.heap[b1]? = some (.cells #[.bool (ng (y)), .int .u64 (dg (ab (y)) 0), .int .u64 (dg (ab (y)) 1), .int .u64 (dg (ab (y)) 2), .int .u64 (dg (ab (y)) 3)] 89 (0, 0)) ∧ W.heap[b2]? = some (.cells #[.bool (ng (z)), .int .u64 (dg (ab (z)) 0), .int .u64 (dg (ab (z)) 1), .int .u64 (dg (ab (z)) 2), .int .u64 (dg (ab (z)) 3)] 89 (0, 0)) ∧ W.heap[d]? = some (.cells #[.int .i64 n] 31 (0, 0)) ∧ Below w.heap.size w W
theorem out3_of {w W W1 W2 : World} {b1 b2 d : Nat} {y z n : Int} {c c' e : Array Value} (hb : w.heap.size ≤ b1) (hb2 : b1 < b2) (hd : b2 < d) (h : W.heap[b1]? = some (.cells c 89 (0, 0))) (h' : W.heap[b2]? = some (.cells c' 89 (0, 0)))
    (k : W.heap[d]? = some (.cells e 31 (0, 0))) (hc : c.size = 5) (hc' : c'.size = 5) (he : e.size = 1) (hB : Below w.heap.size w W)
    (L : Laid2 b1 b2 (#[.bool (ng (y)), .int .u64 (dg (ab (y)) 0), .int .u64 (dg (ab (y)) 1), .int .u64 (dg (ab (y)) 2), .int .u64 (dg (ab (y)) 3)]) (#[.bool (ng (z)), .int .u64 (dg (ab (z)) 0), .int .u64 (dg (ab (z)) 1), .int .u64 (dg (ab (z)) 2), .int .u64 (dg (ab (z)) 3)]) W W1) (K : Laid1 d (.int .i64 n) W1 W2) : OutAt3 w b1 b2 d y z n W2 := by
  obtain ⟨l1, l2, l3⟩ := L
  obtain ⟨k1, k2, k3⟩ := K
  obtain ⟨m1, m2⟩ := l1 h hc h' hc'
  exact ⟨k2 _ _ (by omega) m1, k2 _ _ (by omega) m2, k1 (l2 _ _ (by omega) (by omega) k) he, hB.trans ((l3 _ hb (by omega)).trans (k3 _ (by omega)))⟩
theorem out3_cleared {w W W1 W2 : World} {b1 b2 d : Nat} {n : Int} {c c' e : Array Value} (hb : w.heap.size ≤ b1) (hb2 : b1 < b2) (hd : b2 < d) (h : W.heap[b1]? = some (.cells c 89 (0, 0))) (h' : W.heap[b2]? = some (.cells c' 89 (0, 0)))
    (k : W.heap[d]? = some (.cells e 31 (0, 0))) (hc : c.size = 5) (hc' : c'.size = 5) (he : e.size = 1) (hB : Below w.heap.size w W)
    (K : Laid1 d (.int .i64 n) W W1) (L : Laid2 b1 b2 (#[.bool (ng (0)), .int .u64 (dg (ab (0)) 0), .int .u64 (dg (ab (0)) 1), .int .u64 (dg (ab (0)) 2), .int .u64 (dg (ab (0)) 3)]) (#[.bool (ng (0)), .int .u64 (dg (ab (0)) 0), .int .u64 (dg (ab (0)) 1), .int .u64 (dg (ab (0)) 2), .int .u64 (dg (ab (0)) 3)]) W1 W2) : OutAt3 w b1 b2 d 0 0 n W2 := by
  obtain ⟨l1, l2, l3⟩ := L
  obtain ⟨k1, k2, k3⟩ := K
  obtain ⟨m1, m2⟩ := l1 (k2 _ _ (by omega) h) hc (k2 _ _ (by omega) h') hc'
  exact ⟨m1, m2, l2 _ _ (by omega) (by omega) (k1 k he), hB.trans ((k3 _ (by omega)).trans (l3 _ hb (by omega)))⟩
theorem zof_div (x y : Int) : zof (!(ng x == ng y)) (ab x / ab y) = x.tdiv y := by
  have hx := zof_ng_ab x
  have hy := zof_ng_ab y
  generalize ng x = s at *
  generalize ng y = t at *
  generalize ab x = a at *
  generalize ab y = b at *
  subst hx hy
  cases s <;> cases t <;> simp [zof, Int.neg_tdiv, Int.tdiv_neg]
theorem zof_mod (x y : Int) : zof (ng x) (ab x % ab y) = x.tmod y := by
  have hx := zof_ng_ab x
  have hy := zof_ng_ab y
  generalize ng x = s at *
  generalize ng y = t at *
  generalize ab x = a at *
  generalize ab y = b at *
  subst hx hy
  cases s <;> cases t <;> simp [zof, Int.neg_tmod, Int.tmod_neg, ← Int.ofNat_tmod]
end Go.Proofs.YtfchmikbebdflaaGreatDoor

namespace Go.Proofs.YtfchmikbebdflaaGreatDoor
open Go.RowKit Go.BigFrame

/-- The number that a block holds. -/
def magOf (b : Nat) (W : World) : Nat :=
  match W.heap[b]? with
  | some (.cells c _ _) => mg (intOf (c.getD 0 undef)) (intOf (c.getD 1 undef)) (intOf (c.getD 2 undef)) (intOf (c.getD 3 undef))
  | _ => 0
theorem magOf_eq {b n : Nat} {W : World} {t : TypeId} {f : Nat × Nat} (hn : n < 2 ^ 256) (h : W.heap[b]? = some (.cells #[.int .u64 (dg (n) 0), .int .u64 (dg (n) 1), .int .u64 (dg (n) 2), .int .u64 (dg (n) 3)] t f)) : magOf b W = n := by
  unfold magOf
  rw [h]
  exact mg_dg hn
/-- Four cells of a block are laid. -/
def Laid4 (b : Nat) (v : Array Value) (W w' : World) : Prop :=
  (∀ {c : Array Value} {t : TypeId}, W.heap[b]? = some (.cells c t (0, 0)) → c.size = 4 → w'.heap[b]? = some (.cells v t (0, 0))) ∧ (∀ k o, k ≠ b → W.heap[k]? = some o → w'.heap[k]? = some o) ∧ ∀ n, n ≤ b → Below n W w'
theorem four_of {c : Array Value} (hs : c.size = 4) : ∃ c0 c1 c2 c3, c = #[c0, c1, c2, c3] := by
  obtain ⟨l⟩ := c
  match l, hs with
  | [a, b, c, d], _ => exact ⟨a, b, c, d, rfl⟩
theorem laid_four (b : Nat) (W : World) (v0 v1 v2 v3 : Value) : Laid4 b #[v0, v1, v2, v3] W ((((W.setCell ⟨b, 0, none⟩ v0).setCell ⟨b, 1, none⟩ v1).setCell ⟨b, 2, none⟩ v2).setCell ⟨b, 3, none⟩ v3) := by
  refine ⟨fun {c t} h hs => ?_, fun k o hk h => ?_, fun n hn => ?_⟩
  · obtain ⟨c0, c1, c2, c3, rfl⟩ := four_of hs
    have := heap_set (heap_set (heap_set (heap_set h 0 v0) 1 v1) 2 v2) 3 v3
    simpa using this
  · repeat (refine heap_set_other ?_ hk _)
    exact h
  · repeat (refine Below.setCell ?_ hn _)
    exact Below.refl _ _
theorem drew_heap (W : World) : W.drew.heap = W.heap := rfl
theorem gcd_swap {x y g : Nat} (h : Nat.gcd x y = g) : Nat.gcd y (x % y) = g := by
  rw [Nat.gcd_comm, ← Nat.gcd_rec, Nat.gcd_comm]; exact h
set_option maxHeartbeats 400000 in
theorem clear_gcd {W : World} {b : Nat} {c : Array Value} {t : TypeId} (h : W.heap[b]? = some (.cells c t (0, 0))) (hs : c.size = 5) :
    Calls Tryz.prog 158 #[.pointer (some ⟨b, 0, none⟩)] W fun e w' => e = .returned (.tuple #[]) ∧ Laid b (#[.bool (ng (0)), .int .u64 (dg (ab (0)) 0), .int .u64 (dg (ab (0)) 1), .int .u64 (dg (ab (0)) 2), .int .u64 (dg (ab (0)) 3)]) W w' := by
  have hf := frozen_at h
  have hcc := cell_at h
  obtain ⟨c0, c1, c2, c3, c4, rfl⟩ := five_of hs
  have h0 : W.cell? ⟨b, 0, none⟩ = some c0 := hcc 0
  have h1 : W.cell? ⟨b, 1, none⟩ = some c1 := hcc 1
  have h2 : W.cell? ⟨b, 2, none⟩ = some c2 := hcc 2
  have h3 : W.cell? ⟨b, 3, none⟩ = some c3 := hcc 3
  have h4 : W.cell? ⟨b, 4, none⟩ = some c4 := hcc 4
  go_enter Tryz.func158, Tryz.ntmps158
  go_wp2
  go_end0
  rw [zero_cells]
  exact ⟨rfl, laid_five ..⟩
set_option maxRecDepth 100000 in
set_option maxHeartbeats 1000000 in
theorem gcd_ok (m n : Int) (hx : ab m < 2 ^ 256) (hy : ab n < 2 ^ 256) (w : World) :
    Calls Tryz.prog 133 #[.agg #[.bool (ng (m)), .int .u64 (dg (ab (m)) 0), .int .u64 (dg (ab (m)) 1), .int .u64 (dg (ab (m)) 2), .int .u64 (dg (ab (m)) 3)], .agg #[.bool (ng (n)), .int .u64 (dg (ab (n)) 0), .int .u64 (dg (ab (n)) 1), .int .u64 (dg (ab (n)) 2), .int .u64 (dg (ab (n)) 3)]] w fun e w' => e = .returned (.tuple #[.agg #[.bool (ng (Nat.gcd (ab m) (ab n) : Nat)), .int .u64 (dg (ab (Nat.gcd (ab m) (ab n) : Nat)) 0), .int .u64 (dg (ab (Nat.gcd (ab m) (ab n) : Nat)) 1), .int .u64 (dg (ab (Nat.gcd (ab m) (ab n) : Nat)) 2), .int .u64 (dg (ab (Nat.gcd (ab m) (ab n) : Nat)) 3)], .int .i64 0]) ∧ Below w.heap.size w w' := by
  have hmf : ∀ (fn : Fn) (first cap : Array Value) (w : World), (Instr.makeFunc fn first cap).run Tryz.prog w = .ok (.func fn first cap) w := fun _ _ _ _ => rfl
  have HX := Hd.mk hx
  have HY := Hd.mk hy
  clear hx hy
  go_enter_defers Tryz.func133, Tryz.ntmps133
  go_wp2_with fail
  refine (right_zs _ _ [m, n] _ (ints_two_z (b := w.heap.size + 1 + 1 + 1 + 1) HX.out HY.out (by focus (repeat (first | (with_reducible exact heap_at (by first | rfl | (simp; done) | (simp; omega)) _) | (with_reducible refine heap_old ?_ _)))))).mono ?_
  rintro e w1 ⟨rfl, hb1⟩
  have z0 : w1.heap[w.heap.size]? = some _ := heap_below hb1 (heap_old (heap_old (heap_old (heap_old (heap_new w _) _) _) _) _)
  have c0 := cell_at z0
  have f0 := frozen_at z0
  have z1 : w1.heap[w.heap.size + 1]? = some _ := heap_below hb1 (heap_old (heap_old (heap_old (heap_at (n := w.heap.size + 1) (by simp) _) _) _) _)
  have c1 := cell_at z1
  have f1 := frozen_at z1
  have z2 : w1.heap[w.heap.size + 1 + 1]? = some _ := heap_below hb1 (heap_old (heap_old (heap_at (n := w.heap.size + 1 + 1) (by simp) _) _) _)
  have c2 := cell_at z2
  have f2 := frozen_at z2
  have z3 : w1.heap[w.heap.size + 1 + 1 + 1]? = some _ := heap_below hb1 (heap_old (heap_at (n := w.heap.size + 1 + 1 + 1) (by simp) _) _)
  have c3 := cell_at z3
  have f3 := frozen_at z3
  have hw1 : Below w.heap.size w w1 := by
    focus (repeat (first | (with_reducible exact Below.refl _ _) | (with_reducible assumption) | ((with_reducible refine Below.setCell ?_ ?_ _); rotate_left; (focus (first | omega | (simp; done) | (simp; omega)))) | ((with_reducible refine Below.alloc ?_ ?_ _); rotate_left; (focus (first | omega | (simp; done) | (simp; omega)))) | (with_reducible refine Below.drew ?_) | (refine below_on ?_ (by assumption))))
  have hsz := lt_of_block z3
  clear hb1
  go_upto_region 3 with (fail)
  have n0 : w.heap.size ≠ w1.heap.size := by omega
  have n1 : w.heap.size + 1 ≠ w1.heap.size := by omega
  have n2 : w.heap.size ≠ w1.heap.size + 1 := by omega
  have n3 : w.heap.size + 1 ≠ w1.heap.size + 1 := by omega
  have a1 := c0 1
  have a2 := c0 2
  have a3 := c0 3
  have a4 := c0 4
  have b1 := c1 1
  have b2 := c1 2
  have b3 := c1 3
  have b4 := c1 4
  simp only [List.getElem?_toArray, List.getElem?_cons_zero, List.getElem?_cons_succ] at a1 a2 a3 a4 b1 b2 b3 b4
  have i1 := World.new_ne _ _ a1
  have i2 := World.new_ne _ _ a2
  have i3 := World.new_ne _ _ a3
  have i4 := World.new_ne _ _ a4
  have j1 := World.new_ne _ _ b1
  have j2 := World.new_ne _ _ b2
  have j3 := World.new_ne _ _ b3
  have j4 := World.new_ne _ _ b4
  go_region_held3 (fun W' => W'.cell? ⟨w.heap.size, 1, none⟩ = some (.int .u64 (dg (ab m) 0)) ∧ W'.cell? ⟨w.heap.size, 2, none⟩ = some (.int .u64 (dg (ab m) 1)) ∧ W'.cell? ⟨w.heap.size, 3, none⟩ = some (.int .u64 (dg (ab m) 2)) ∧ W'.cell? ⟨w.heap.size, 4, none⟩ = some (.int .u64 (dg (ab m) 3)) ∧ W'.cell? ⟨w.heap.size + 1, 1, none⟩ = some (.int .u64 (dg (ab n) 0)) ∧ W'.cell? ⟨w.heap.size + 1, 2, none⟩ = some (.int .u64 (dg (ab n) 1)) ∧ W'.cell? ⟨w.heap.size + 1, 3, none⟩ = some (.int .u64 (dg (ab n) 2)) ∧ W'.cell? ⟨w.heap.size + 1, 4, none⟩ = some (.int .u64 (dg (ab n) 3))) (go_keep) (fail)
  · clear n0 n1 n2 n3 a1 a2 a3 a4 b1 b2 b3 b4 i1 i2 i3 i4 j1 j2 j3 j4 z0 c0 f0 z1 c1 f1 c2 f2 c3 f3
    rename_i hH
    clear hH
    have hs1 := hw1.size
    go_wp2
    refine abs_wp (fun W => W.heap[w.heap.size + 1 + 1]? = some (.cells #[.bool false, .int .u64 0, .int .u64 0, .int .u64 0, .int .u64 0] 89 (0, 0)) ∧ W.heap[w.heap.size + 1 + 1 + 1]? = some (.cells #[.int .i64 0] 31 (0, 0)) ∧
      W.heap[w1.heap.size]? = some (.cells #[.int .u64 (dg (ab m) 0), .int .u64 (dg (ab m) 1), .int .u64 (dg (ab m) 2), .int .u64 (dg (ab m) 3)] 168 (0, 0)) ∧ W.heap[w1.heap.size + 1]? = some (.cells #[.int .u64 (dg (ab n) 0), .int .u64 (dg (ab n) 1), .int .u64 (dg (ab n) 2), .int .u64 (dg (ab n) 3)] 168 (0, 0)) ∧ Below w.heap.size w W)
      ⟨heap_old (heap_old z2 _) _, heap_old (heap_old z3 _) _, heap_old (heap_new _ _) _, heap_at (by simp) _, by focus (repeat (first | (with_reducible exact Below.refl _ _) | (with_reducible assumption) | ((with_reducible refine Below.setCell ?_ ?_ _); rotate_left; (focus (first | omega | (simp; done) | (simp; omega)))) | ((with_reducible refine Below.alloc ?_ ?_ _); rotate_left; (focus (first | omega | (simp; done) | (simp; omega)))) | (with_reducible refine Below.drew ?_) | (refine below_on ?_ (by assumption))))⟩ fun W ⟨y2, y3, y6, y7, hB⟩ => ?_
    clear z2 z3 hw1
    go_loopw [] (fun wr => ∃ x y : Nat, x < 2 ^ 256 ∧ y < 2 ^ 256 ∧ Nat.gcd x y = Nat.gcd (ab m) (ab n) ∧
      wr.heap[w.heap.size + 1 + 1]? = some (.cells #[.bool false, .int .u64 0, .int .u64 0, .int .u64 0, .int .u64 0] 89 (0, 0)) ∧ wr.heap[w.heap.size + 1 + 1 + 1]? = some (.cells #[.int .i64 0] 31 (0, 0)) ∧
      wr.heap[w1.heap.size]? = some (.cells #[.int .u64 (dg (x) 0), .int .u64 (dg (x) 1), .int .u64 (dg (x) 2), .int .u64 (dg (x) 3)] 168 (0, 0)) ∧ wr.heap[w1.heap.size + 1]? = some (.cells #[.int .u64 (dg (y) 0), .int .u64 (dg (y) 1), .int .u64 (dg (y) 2), .int .u64 (dg (y) 3)] 168 (0, 0)) ∧ Below w.heap.size w wr) (fun wr => magOf (w1.heap.size + 1) wr)
    case atStart => exact ⟨ab m, ab n, HX.out, HY.out, rfl, y2, y3, y6, y7, hB⟩
    case round =>
      clear y2 y3 y6 y7 hB
      obtain ⟨x, y, hx, hy, hg, y2, y3, y6, y7, hB⟩ := hrel
      have hz := mag_zero hy
      have HX := Hd.mk hx
      have HY := Hd.mk hy
      have HG := Hd.mk hg
      have d6 := cell_at y6
      have d7 := cell_at y7
      have f6 := frozen_at y6
      have f7 := frozen_at y7
      by_cases h0 : y = 0
      · rw [decide_eq_true h0] at hz
        have HE : Hd (zof false x = (Nat.gcd (ab m) (ab n) : Nat)) := ⟨by rw [← hg, h0, Nat.gcd_zero_right]; rfl⟩
        clear hx hy hg h0
        go_wp2_with fail
        refine (of_z _ _ HX.out _).mono ?_
        rw [HE.out]
        rintro e w2 ⟨rfl, hb2⟩
        have z8 : w2.heap[w.heap.size + 1 + 1]? = some _ := heap_below hb2 y2
        have c8 := cell_at z8
        have f8 := frozen_at z8
        have z9 : w2.heap[w.heap.size + 1 + 1 + 1]? = some _ := heap_below hb2 y3
        have c9 := cell_at z9
        have f9 := frozen_at z9
        have hw2 : Below w.heap.size w w2 := below_on hB hb2
        clear y2 y3 y6 y7 d6 d7 f6 f7 hB hb2
        go_wp2
        refine leaves_cons (f := 157) (args := #[.pointer (some ⟨w.heap.size + 1 + 1 + 1, 0, none⟩), .func (.func 158) #[] #[.pointer (some ⟨w.heap.size + 1 + 1, 0, none⟩)]]) (by simp) (by simp [go_sem]) ?_
        refine (caught_idle _ _ _).mono ?_
        rintro e u' w3 ⟨rfl, rfl, rfl⟩
        refine abs_leaves (OutAt w (w.heap.size + 1 + 1) (w.heap.size + 1 + 1 + 1) (((Nat.gcd (ab m) (ab n) : Nat) : Int)) 0) (out_stored (by omega) (by omega) z8 z9 rfl rfl hw2) fun W hW => ?_
        obtain ⟨y1, y2, hB⟩ := hW
        have c1 := cell_at y1
        have c2 := cell_at y2
        simp [Leaves, settle, results, Tryz.results133, go_sem, c1, c2]
        first | exact ⟨rfl, hB⟩ | exact hB
      · rw [decide_eq_false h0] at hz
        have H0 : Hd (0 < y) := ⟨by omega⟩
        clear hx hy hg h0
        go_wp2_with fail
        refine (parts_any _ _ HX.out HY.out H0.out _).mono ?_
        rintro e w2 ⟨rfl, hb2⟩
        have HM := Hd.mk (magOf_eq HY.out y7)
        have v2 := heap_below hb2 y2
        have v3 := heap_below hb2 y3
        have v6 := heap_below hb2 y6
        have v7 := heap_below hb2 y7
        have hw2 : Below w.heap.size w w2 := below_on hB hb2
        have hs2 : w1.heap.size < w2.heap.size ∧ w1.heap.size + 1 < w2.heap.size := ⟨lt_of_block v6, lt_of_block v7⟩
        have hs3 := hw2.size
        clear y2 y3 y6 y7 d6 d7 f6 f7 hB hb2
        go_upto_region 6 with (fail)
        refine abs_wp (fun W => W.heap[w.heap.size + 1 + 1]? = some (.cells #[.bool false, .int .u64 0, .int .u64 0, .int .u64 0, .int .u64 0] 89 (0, 0)) ∧ W.heap[w.heap.size + 1 + 1 + 1]? = some (.cells #[.int .i64 0] 31 (0, 0)) ∧
          W.heap[w1.heap.size]? = some (.cells #[.int .u64 (dg (x) 0), .int .u64 (dg (x) 1), .int .u64 (dg (x) 2), .int .u64 (dg (x) 3)] 168 (0, 0)) ∧ W.heap[w1.heap.size + 1]? = some (.cells #[.int .u64 (dg (y) 0), .int .u64 (dg (y) 1), .int .u64 (dg (y) 2), .int .u64 (dg (y) 3)] 168 (0, 0)) ∧ W.heap[w2.heap.size + 1]? = some (.cells #[.int .u64 (dg (x % y) 0), .int .u64 (dg (x % y) 1), .int .u64 (dg (x % y) 2), .int .u64 (dg (x % y) 3)] 168 (0, 0)) ∧ Below w.heap.size w W)
          ⟨heap_old (heap_old v2 _) _, heap_old (heap_old v3 _) _, heap_old (heap_old v6 _) _, heap_old (heap_old v7 _) _, heap_at (by simp) _, by focus (repeat (first | (with_reducible exact Below.refl _ _) | (with_reducible assumption) | ((with_reducible refine Below.setCell ?_ ?_ _); rotate_left; (focus (first | omega | (simp; done) | (simp; omega)))) | ((with_reducible refine Below.alloc ?_ ?_ _); rotate_left; (focus (first | omega | (simp; done) | (simp; omega)))) | (with_reducible refine Below.drew ?_) | (refine below_on ?_ (by assumption))))⟩ fun W ⟨y2, y3, y6, y7, y9, hB⟩ => ?_
        clear v2 v3 v6 v7 hw2
        have n1 : w1.heap.size ≠ w1.heap.size + 1 := by omega
        have n2 : w1.heap.size ≠ w2.heap.size + 1 := by omega
        have n3 : w1.heap.size + 1 ≠ w2.heap.size + 1 := by omega
        have f6 := frozen_at y6
        have f7 := frozen_at y7
        have g0 : W.cell? ⟨w1.heap.size, 0, none⟩ = some (.int .u64 (dg x 0)) := cell_at y6 0
        have g1 : W.cell? ⟨w1.heap.size, 1, none⟩ = some (.int .u64 (dg x 1)) := cell_at y6 1
        have g2 : W.cell? ⟨w1.heap.size, 2, none⟩ = some (.int .u64 (dg x 2)) := cell_at y6 2
        have g3 : W.cell? ⟨w1.heap.size, 3, none⟩ = some (.int .u64 (dg x 3)) := cell_at y6 3
        have k0 : W.cell? ⟨w1.heap.size + 1, 0, none⟩ = some (.int .u64 (dg y 0)) := cell_at y7 0
        have k1 : W.cell? ⟨w1.heap.size + 1, 1, none⟩ = some (.int .u64 (dg y 1)) := cell_at y7 1
        have k2 : W.cell? ⟨w1.heap.size + 1, 2, none⟩ = some (.int .u64 (dg y 2)) := cell_at y7 2
        have k3 : W.cell? ⟨w1.heap.size + 1, 3, none⟩ = some (.int .u64 (dg y 3)) := cell_at y7 3
        have l0 : W.cell? ⟨w2.heap.size + 1, 0, none⟩ = some (.int .u64 (dg (x % y) 0)) := cell_at y9 0
        have l1 : W.cell? ⟨w2.heap.size + 1, 1, none⟩ = some (.int .u64 (dg (x % y) 1)) := cell_at y9 1
        have l2 : W.cell? ⟨w2.heap.size + 1, 2, none⟩ = some (.int .u64 (dg (x % y) 2)) := cell_at y9 2
        have l3 : W.cell? ⟨w2.heap.size + 1, 3, none⟩ = some (.int .u64 (dg (x % y) 3)) := cell_at y9 3
        refine wp_region_noPanic ?_
        go_region
        all_goals (simp only [NoPanic]; go_wp2; go_roundw)
        all_goals
          clear g0 g1 g2 g3 k0 k1 k2 k3 l0 l1 l2 l3
          have hL := laid_four (w1.heap.size) W (.int .u64 (dg y 0)) (.int .u64 (dg y 1)) (.int .u64 (dg y 2)) (.int .u64 (dg y 3))
          have hK := laid_four (w1.heap.size + 1) ((((W.setCell ⟨w1.heap.size, 0, none⟩ (.int .u64 (dg y 0))).setCell ⟨w1.heap.size, 1, none⟩ (.int .u64 (dg y 1))).setCell ⟨w1.heap.size, 2, none⟩ (.int .u64 (dg y 2))).setCell ⟨w1.heap.size, 3, none⟩ (.int .u64 (dg y 3))) (.int .u64 (dg (x % y) 0)) (.int .u64 (dg (x % y) 1)) (.int .u64 (dg (x % y) 2)) (.int .u64 (dg (x % y) 3))
          have hlt := Hd.mk (Nat.lt_of_le_of_lt (Nat.mod_le x y) HX.out)
          have h7 := hK.1 (hL.2.1 _ _ n1.symm y7) rfl
        case measure =>
          have h8 := (congrArg (fun h => h[w1.heap.size + 1]?) (drew_heap _)).trans h7
          exact Nat.lt_of_le_of_lt (Nat.le_of_eq (magOf_eq hlt.out h8)) (Nat.lt_of_lt_of_eq (Nat.mod_lt x H0.out) HM.out.symm)
        case rel =>
          refine ⟨y, x % y, HY.out, hlt.out, gcd_swap HG.out, ?_, ?_, ?_, ?_, ?_⟩
          · exact (congrArg (fun h => h[w.heap.size + 1 + 1]?) (drew_heap _)).trans (hK.2.1 _ _ (by omega) (hL.2.1 _ _ (by omega) y2))
          · exact (congrArg (fun h => h[w.heap.size + 1 + 1 + 1]?) (drew_heap _)).trans (hK.2.1 _ _ (by omega) (hL.2.1 _ _ (by omega) y3))
          · exact (congrArg (fun h => h[w1.heap.size]?) (drew_heap _)).trans (hK.2.1 _ _ n1 (hL.1 y6 rfl))
          · exact (congrArg (fun h => h[w1.heap.size + 1]?) (drew_heap _)).trans h7
          · refine Below.drew ?_
            exact hB.trans ((hL.2.2 _ (by omega)).trans (hK.2.2 _ (by omega)))
  · clear n0 n1 n2 n3 a1 a2 a3 a4 b1 b2 b3 b4 i1 i2 i3 i4 j1 j2 j3 j4 z0 c0 f0 z1 c1 f1 c2 f2 c3 f3
    rename_i hH
    clear hH
    have hs1 := hw1.size
    go_wp2
    refine abs_wp (fun W => W.heap[w.heap.size + 1 + 1]? = some (.cells #[.bool false, .int .u64 0, .int .u64 0, .int .u64 0, .int .u64 0] 89 (0, 0)) ∧ W.heap[w.heap.size + 1 + 1 + 1]? = some (.cells #[.int .i64 0] 31 (0, 0)) ∧
      W.heap[w1.heap.size + 1]? = some (.cells #[.int .u64 (dg (ab m) 0), .int .u64 (dg (ab m) 1), .int .u64 (dg (ab m) 2), .int .u64 (dg (ab m) 3)] 168 (0, 0)) ∧ W.heap[w1.heap.size]? = some (.cells #[.int .u64 (dg (ab n) 0), .int .u64 (dg (ab n) 1), .int .u64 (dg (ab n) 2), .int .u64 (dg (ab n) 3)] 168 (0, 0)) ∧ Below w.heap.size w W)
      ⟨heap_old (heap_old z2 _) _, heap_old (heap_old z3 _) _, heap_at (by simp) _, heap_old (heap_new _ _) _, by focus (repeat (first | (with_reducible exact Below.refl _ _) | (with_reducible assumption) | ((with_reducible refine Below.setCell ?_ ?_ _); rotate_left; (focus (first | omega | (simp; done) | (simp; omega)))) | ((with_reducible refine Below.alloc ?_ ?_ _); rotate_left; (focus (first | omega | (simp; done) | (simp; omega)))) | (with_reducible refine Below.drew ?_) | (refine below_on ?_ (by assumption))))⟩ fun W ⟨y2, y3, y6, y7, hB⟩ => ?_
    clear z2 z3 hw1
    go_loopw [] (fun wr => ∃ x y : Nat, x < 2 ^ 256 ∧ y < 2 ^ 256 ∧ Nat.gcd x y = Nat.gcd (ab m) (ab n) ∧
      wr.heap[w.heap.size + 1 + 1]? = some (.cells #[.bool false, .int .u64 0, .int .u64 0, .int .u64 0, .int .u64 0] 89 (0, 0)) ∧ wr.heap[w.heap.size + 1 + 1 + 1]? = some (.cells #[.int .i64 0] 31 (0, 0)) ∧
      wr.heap[w1.heap.size + 1]? = some (.cells #[.int .u64 (dg (x) 0), .int .u64 (dg (x) 1), .int .u64 (dg (x) 2), .int .u64 (dg (x) 3)] 168 (0, 0)) ∧ wr.heap[w1.heap.size]? = some (.cells #[.int .u64 (dg (y) 0), .int .u64 (dg (y) 1), .int .u64 (dg (y) 2), .int .u64 (dg (y) 3)] 168 (0, 0)) ∧ Below w.heap.size w wr) (fun wr => magOf (w1.heap.size) wr)
    case atStart => exact ⟨ab m, ab n, HX.out, HY.out, rfl, y2, y3, y6, y7, hB⟩
    case round =>
      clear y2 y3 y6 y7 hB
      obtain ⟨x, y, hx, hy, hg, y2, y3, y6, y7, hB⟩ := hrel
      have hz := mag_zero hy
      have HX := Hd.mk hx
      have HY := Hd.mk hy
      have HG := Hd.mk hg
      have d6 := cell_at y6
      have d7 := cell_at y7
      have f6 := frozen_at y6
      have f7 := frozen_at y7
      by_cases h0 : y = 0
      · rw [decide_eq_true h0] at hz
        have HE : Hd (zof false x = (Nat.gcd (ab m) (ab n) : Nat)) := ⟨by rw [← hg, h0, Nat.gcd_zero_right]; rfl⟩
        clear hx hy hg h0
        go_wp2_with fail
        refine (of_z _ _ HX.out _).mono ?_
        rw [HE.out]
        rintro e w2 ⟨rfl, hb2⟩
        have z8 : w2.heap[w.heap.size + 1 + 1]? = some _ := heap_below hb2 y2
        have c8 := cell_at z8
        have f8 := frozen_at z8
        have z9 : w2.heap[w.heap.size + 1 + 1 + 1]? = some _ := heap_below hb2 y3
        have c9 := cell_at z9
        have f9 := frozen_at z9
        have hw2 : Below w.heap.size w w2 := below_on hB hb2
        clear y2 y3 y6 y7 d6 d7 f6 f7 hB hb2
        go_wp2
        refine leaves_cons (f := 157) (args := #[.pointer (some ⟨w.heap.size + 1 + 1 + 1, 0, none⟩), .func (.func 158) #[] #[.pointer (some ⟨w.heap.size + 1 + 1, 0, none⟩)]]) (by simp) (by simp [go_sem]) ?_
        refine (caught_idle _ _ _).mono ?_
        rintro e u' w3 ⟨rfl, rfl, rfl⟩
        refine abs_leaves (OutAt w (w.heap.size + 1 + 1) (w.heap.size + 1 + 1 + 1) (((Nat.gcd (ab m) (ab n) : Nat) : Int)) 0) (out_stored (by omega) (by omega) z8 z9 rfl rfl hw2) fun W hW => ?_
        obtain ⟨y1, y2, hB⟩ := hW
        have c1 := cell_at y1
        have c2 := cell_at y2
        simp [Leaves, settle, results, Tryz.results133, go_sem, c1, c2]
        first | exact ⟨rfl, hB⟩ | exact hB
      · rw [decide_eq_false h0] at hz
        have H0 : Hd (0 < y) := ⟨by omega⟩
        clear hx hy hg h0
        go_wp2_with fail
        refine (parts_any _ _ HX.out HY.out H0.out _).mono ?_
        rintro e w2 ⟨rfl, hb2⟩
        have HM := Hd.mk (magOf_eq HY.out y7)
        have v2 := heap_below hb2 y2
        have v3 := heap_below hb2 y3
        have v6 := heap_below hb2 y6
        have v7 := heap_below hb2 y7
        have hw2 : Below w.heap.size w w2 := below_on hB hb2
        have hs2 : w1.heap.size + 1 < w2.heap.size ∧ w1.heap.size < w2.heap.size := ⟨lt_of_block v6, lt_of_block v7⟩
        have hs3 := hw2.size
        clear y2 y3 y6 y7 d6 d7 f6 f7 hB hb2
        go_upto_region 6 with (fail)
        refine abs_wp (fun W => W.heap[w.heap.size + 1 + 1]? = some (.cells #[.bool false, .int .u64 0, .int .u64 0, .int .u64 0, .int .u64 0] 89 (0, 0)) ∧ W.heap[w.heap.size + 1 + 1 + 1]? = some (.cells #[.int .i64 0] 31 (0, 0)) ∧
          W.heap[w1.heap.size + 1]? = some (.cells #[.int .u64 (dg (x) 0), .int .u64 (dg (x) 1), .int .u64 (dg (x) 2), .int .u64 (dg (x) 3)] 168 (0, 0)) ∧ W.heap[w1.heap.size]? = some (.cells #[.int .u64 (dg (y) 0), .int .u64 (dg (y) 1), .int .u64 (dg (y) 2), .int .u64 (dg (y) 3)] 168 (0, 0)) ∧ W.heap[w2.heap.size + 1]? = some (.cells #[.int .u64 (dg (x % y) 0), .int .u64 (dg (x % y) 1), .int .u64 (dg (x % y) 2), .int .u64 (dg (x % y) 3)] 168 (0, 0)) ∧ Below w.heap.size w W)
          ⟨heap_old (heap_old v2 _) _, heap_old (heap_old v3 _) _, heap_old (heap_old v6 _) _, heap_old (heap_old v7 _) _, heap_at (by simp) _, by focus (repeat (first | (with_reducible exact Below.refl _ _) | (with_reducible assumption) | ((with_reducible refine Below.setCell ?_ ?_ _); rotate_left; (focus (first | omega | (simp; done) | (simp; omega)))) | ((with_reducible refine Below.alloc ?_ ?_ _); rotate_left; (focus (first | omega | (simp; done) | (simp; omega)))) | (with_reducible refine Below.drew ?_) | (refine below_on ?_ (by assumption))))⟩ fun W ⟨y2, y3, y6, y7, y9, hB⟩ => ?_
        clear v2 v3 v6 v7 hw2
        have n1 : w1.heap.size + 1 ≠ w1.heap.size := by omega
        have n2 : w1.heap.size + 1 ≠ w2.heap.size + 1 := by omega
        have n3 : w1.heap.size ≠ w2.heap.size + 1 := by omega
        have f6 := frozen_at y6
        have f7 := frozen_at y7
        have g0 : W.cell? ⟨w1.heap.size + 1, 0, none⟩ = some (.int .u64 (dg x 0)) := cell_at y6 0
        have g1 : W.cell? ⟨w1.heap.size + 1, 1, none⟩ = some (.int .u64 (dg x 1)) := cell_at y6 1
        have g2 : W.cell? ⟨w1.heap.size + 1, 2, none⟩ = some (.int .u64 (dg x 2)) := cell_at y6 2
        have g3 : W.cell? ⟨w1.heap.size + 1, 3, none⟩ = some (.int .u64 (dg x 3)) := cell_at y6 3
        have k0 : W.cell? ⟨w1.heap.size, 0, none⟩ = some (.int .u64 (dg y 0)) := cell_at y7 0
        have k1 : W.cell? ⟨w1.heap.size, 1, none⟩ = some (.int .u64 (dg y 1)) := cell_at y7 1
        have k2 : W.cell? ⟨w1.heap.size, 2, none⟩ = some (.int .u64 (dg y 2)) := cell_at y7 2
        have k3 : W.cell? ⟨w1.heap.size, 3, none⟩ = some (.int .u64 (dg y 3)) := cell_at y7 3
        have l0 : W.cell? ⟨w2.heap.size + 1, 0, none⟩ = some (.int .u64 (dg (x % y) 0)) := cell_at y9 0
        have l1 : W.cell? ⟨w2.heap.size + 1, 1, none⟩ = some (.int .u64 (dg (x % y) 1)) := cell_at y9 1
        have l2 : W.cell? ⟨w2.heap.size + 1, 2, none⟩ = some (.int .u64 (dg (x % y) 2)) := cell_at y9 2
        have l3 : W.cell? ⟨w2.heap.size + 1, 3, none⟩ = some (.int .u64 (dg (x % y) 3)) := cell_at y9 3
        refine wp_region_noPanic ?_
        go_region
        all_goals (simp only [NoPanic]; go_wp2; go_roundw)
        all_goals
          clear g0 g1 g2 g3 k0 k1 k2 k3 l0 l1 l2 l3
          have hL := laid_four (w1.heap.size + 1) W (.int .u64 (dg y 0)) (.int .u64 (dg y 1)) (.int .u64 (dg y 2)) (.int .u64 (dg y 3))
          have hK := laid_four (w1.heap.size) ((((W.setCell ⟨w1.heap.size + 1, 0, none⟩ (.int .u64 (dg y 0))).setCell ⟨w1.heap.size + 1, 1, none⟩ (.int .u64 (dg y 1))).setCell ⟨w1.heap.size + 1, 2, none⟩ (.int .u64 (dg y 2))).setCell ⟨w1.heap.size + 1, 3, none⟩ (.int .u64 (dg y 3))) (.int .u64 (dg (x % y) 0)) (.int .u64 (dg (x % y) 1)) (.int .u64 (dg (x % y) 2)) (.int .u64 (dg (x % y) 3))
          have hlt := Hd.mk (Nat.lt_of_le_of_lt (Nat.mod_le x y) HX.out)
          have h7 := hK.1 (hL.2.1 _ _ n1.symm y7) rfl
        case measure =>
          have h8 := (congrArg (fun h => h[w1.heap.size]?) (drew_heap _)).trans h7
          exact Nat.lt_of_le_of_lt (Nat.le_of_eq (magOf_eq hlt.out h8)) (Nat.lt_of_lt_of_eq (Nat.mod_lt x H0.out) HM.out.symm)
        case rel =>
          refine ⟨y, x % y, HY.out, hlt.out, gcd_swap HG.out, ?_, ?_, ?_, ?_, ?_⟩
          · exact (congrArg (fun h => h[w.heap.size + 1 + 1]?) (drew_heap _)).trans (hK.2.1 _ _ (by omega) (hL.2.1 _ _ (by omega) y2))
          · exact (congrArg (fun h => h[w.heap.size + 1 + 1 + 1]?) (drew_heap _)).trans (hK.2.1 _ _ (by omega) (hL.2.1 _ _ (by omega) y3))
          · exact (congrArg (fun h => h[w1.heap.size + 1]?) (drew_heap _)).trans (hK.2.1 _ _ n1 (hL.1 y6 rfl))
          · exact (congrArg (fun h => h[w1.heap.size]?) (drew_heap _)).trans h7
          · refine Below.drew ?_
            exact hB.trans ((hL.2.2 _ (by omega)).trans (hK.2.2 _ (by omega)))
set_option maxRecDepth 100000 in
set_option maxHeartbeats 1000000 in
theorem gcd_bad (p q : Bool × Nat) (hp : p.2 < 2 ^ 256) (hq : q.2 < 2 ^ 256) (h : ¬ (okP p ∧ okP q)) (w : World) :
    Calls Tryz.prog 133 #[.agg #[.bool (p.1), .int .u64 (dg (p.2) 0), .int .u64 (dg (p.2) 1), .int .u64 (dg (p.2) 2), .int .u64 (dg (p.2) 3)], .agg #[.bool (q.1), .int .u64 (dg (q.2) 0), .int .u64 (dg (q.2) 1), .int .u64 (dg (q.2) 2), .int .u64 (dg (q.2) 3)]] w fun e w' => e = .returned (.tuple #[.agg #[.bool (ng (0)), .int .u64 (dg (ab (0)) 0), .int .u64 (dg (ab (0)) 1), .int .u64 (dg (ab (0)) 2), .int .u64 (dg (ab (0)) 3)], .int .i64 2]) ∧ Below w.heap.size w w' := by
  have hmf : ∀ (fn : Fn) (first cap : Array Value) (w : World), (Instr.makeFunc fn first cap).run Tryz.prog w = .ok (.func fn first cap) w := fun _ _ _ _ => rfl
  have HP := Hd.mk hp
  have HQ := Hd.mk hq
  have HO := Hd.mk h
  clear hp hq h
  go_enter_defers Tryz.func133, Tryz.ntmps133
  go_wp2_with fail
  refine (right_no _ _ [p, q] _ (ints_two (b := w.heap.size + 1 + 1 + 1 + 1) HP.out HQ.out (by focus (repeat (first | (with_reducible exact heap_at (by first | rfl | (simp; done) | (simp; omega)) _) | (with_reducible refine heap_old ?_ _))))) (by simpa using HO.out)).mono ?_
  rintro e w1 ⟨rfl, hb1⟩
  have z1 : w1.heap[w.heap.size + 1 + 1]? = some _ := heap_below hb1 (heap_old (heap_old (heap_at (n := w.heap.size + 1 + 1) (by simp) _) _) _)
  have c1 := cell_at z1
  have f1 := frozen_at z1
  have z2 : w1.heap[w.heap.size + 1 + 1 + 1]? = some _ := heap_below hb1 (heap_old (heap_at (n := w.heap.size + 1 + 1 + 1) (by simp) _) _)
  have c2 := cell_at z2
  have f2 := frozen_at z2
  have hw1 : Below w.heap.size w w1 := by
    focus (repeat (first | (with_reducible exact Below.refl _ _) | (with_reducible assumption) | ((with_reducible refine Below.setCell ?_ ?_ _); rotate_left; (focus (first | omega | (simp; done) | (simp; omega)))) | ((with_reducible refine Below.alloc ?_ ?_ _); rotate_left; (focus (first | omega | (simp; done) | (simp; omega)))) | (with_reducible refine Below.drew ?_) | (refine below_on ?_ (by assumption))))
  clear hb1
  go_wp2
  refine leaves_cons (f := 157) (args := #[.pointer (some ⟨w.heap.size + 1 + 1 + 1, 0, none⟩), .func (.func 158) #[] #[.pointer (some ⟨w.heap.size + 1 + 1, 0, none⟩)]]) (by simp) (by simp [go_sem]) ?_
  refine (caught_full _ _ 2 _ _ _ _ (Laid (w.heap.size + 1 + 1) (#[.bool (ng (0)), .int .u64 (dg (ab (0)) 0), .int .u64 (dg (ab (0)) 1), .int .u64 (dg (ab (0)) 2), .int .u64 (dg (ab (0)) 3)]) _) (cell_at z2 0) (frozen_at z2 0) (fun _ => rfl) (clear_gcd (heap_set_other z1 (by simp) _) rfl)).mono ?_
  rintro e u' w3 ⟨rfl, rfl, hL⟩
  refine abs_leaves (OutAt w (w.heap.size + 1 + 1) (w.heap.size + 1 + 1 + 1) 0 2) (out_cleared (by omega) (by omega) z1 z2 rfl rfl hw1 hL) fun W hW => ?_
  obtain ⟨y1, y2, hB⟩ := hW
  have c1 := cell_at y1
  have c2 := cell_at y2
  simp [Leaves, settle, results, Tryz.results133, go_sem, c1, c2]
  first | exact ⟨rfl, hB⟩ | exact hB
end Go.Proofs.YtfchmikbebdflaaGreatDoor

namespace Go.Proofs.YtfchmikbebdflaaGreatDoor
open Go.RowKit Go.BigFrame

def sgn (z : Int) : Int := if z = 0 then 0 else if z < 0 then -1 else 1
set_option maxHeartbeats 1000000 in
theorem sign_ok (z : Int) (hz : ab z < 2 ^ 256) (w : World) :
    Calls Tryz.prog 134 #[.agg #[.bool (ng (z)), .int .u64 (dg (ab (z)) 0), .int .u64 (dg (ab (z)) 1), .int .u64 (dg (ab (z)) 2), .int .u64 (dg (ab (z)) 3)]] w fun e w' => e = .returned (.int .i64 (sgn z)) ∧ Below w.heap.size w w' := by
  have h3 := mag_zero hz
  have HZ := Hd.mk hz
  clear hz
  by_cases h0 : z = 0
  · have hS : Hd (sgn z = 0) := ⟨by unfold sgn; rw [if_pos h0]⟩
    have hb : ab z = 0 := by rw [h0]; rfl
    rw [decide_eq_true hb] at h3
    clear h0 hb
    go_enter Tryz.func134, Tryz.ntmps134
    go_wp2_with fail
    refine (check_ok z HZ.out _).mono ?_
    rintro e w1 ⟨rfl, hb1⟩
    have z1 : w1.heap[w.heap.size]? = some _ := heap_below hb1 (heap_new w _)
    have c1 := cell_at z1
    have f1 := frozen_at z1
    have hw1 : Below w.heap.size w w1 := by
      focus (repeat (first | (with_reducible exact Below.refl _ _) | (with_reducible assumption) | ((with_reducible refine Below.setCell ?_ ?_ _); rotate_left; (focus (first | omega | (simp; done) | (simp; omega)))) | ((with_reducible refine Below.alloc ?_ ?_ _); rotate_left; (focus (first | omega | (simp; done) | (simp; omega)))) | (with_reducible refine Below.drew ?_) | (refine below_on ?_ (by assumption))))
    clear hb1
    go_wp2
    rw [hS.out]
    go_ret
    exact ⟨rfl, hw1⟩
  · have hb : ¬ ab z = 0 := by unfold ab; omega
    rw [decide_eq_false hb] at h3
    by_cases h1 : z < 0
    · have hS : Hd (sgn z = -1) := ⟨by unfold sgn; rw [if_neg h0, if_pos h1]⟩
      have HN : Hd (ng z = true) := ⟨by unfold ng; simpa using h1⟩
      clear h0 hb h1
      go_enter Tryz.func134, Tryz.ntmps134
      go_wp2_with fail
      refine (check_ok z HZ.out _).mono ?_
      rintro e w1 ⟨rfl, hb1⟩
      have z1 : w1.heap[w.heap.size]? = some _ := heap_below hb1 (heap_new w _)
      have c1 := cell_at z1
      have f1 := frozen_at z1
      have hw1 : Below w.heap.size w w1 := by
        focus (repeat (first | (with_reducible exact Below.refl _ _) | (with_reducible assumption) | ((with_reducible refine Below.setCell ?_ ?_ _); rotate_left; (focus (first | omega | (simp; done) | (simp; omega)))) | ((with_reducible refine Below.alloc ?_ ?_ _); rotate_left; (focus (first | omega | (simp; done) | (simp; omega)))) | (with_reducible refine Below.drew ?_) | (refine below_on ?_ (by assumption))))
      clear hb1
      have hn := HN.out
      go_wp2
      rw [hS.out]
      go_ret
      exact ⟨rfl, hw1⟩
    · have hS : Hd (sgn z = 1) := ⟨by unfold sgn; rw [if_neg h0, if_neg h1]⟩
      have HN : Hd (ng z = false) := ⟨by unfold ng; simpa using h1⟩
      clear h0 hb h1
      go_enter Tryz.func134, Tryz.ntmps134
      go_wp2_with fail
      refine (check_ok z HZ.out _).mono ?_
      rintro e w1 ⟨rfl, hb1⟩
      have z1 : w1.heap[w.heap.size]? = some _ := heap_below hb1 (heap_new w _)
      have c1 := cell_at z1
      have f1 := frozen_at z1
      have hw1 : Below w.heap.size w w1 := by
        focus (repeat (first | (with_reducible exact Below.refl _ _) | (with_reducible assumption) | ((with_reducible refine Below.setCell ?_ ?_ _); rotate_left; (focus (first | omega | (simp; done) | (simp; omega)))) | ((with_reducible refine Below.alloc ?_ ?_ _); rotate_left; (focus (first | omega | (simp; done) | (simp; omega)))) | (with_reducible refine Below.drew ?_) | (refine below_on ?_ (by assumption))))
      clear hb1
      have hn := HN.out
      go_wp2
      rw [hS.out]
      go_ret
      exact ⟨rfl, hw1⟩
set_option maxHeartbeats 400000 in
theorem sign_bad (w : World) :
    Calls Tryz.prog 134 #[.agg #[.bool (true), .int .u64 (dg (0) 0), .int .u64 (dg (0) 1), .int .u64 (dg (0) 2), .int .u64 (dg (0) 3)]] w fun e w' => e = .returned (.int .i64 0) ∧ Below w.heap.size w w' := by
  go_enter Tryz.func134, Tryz.ntmps134
  go_wp2_with fail
  refine (check_bad _).mono ?_
  rintro e w1 ⟨rfl, hb1⟩
  have hw1 : Below w.heap.size w w1 := by
    focus (repeat (first | (with_reducible exact Below.refl _ _) | (with_reducible assumption) | ((with_reducible refine Below.setCell ?_ ?_ _); rotate_left; (focus (first | omega | (simp; done) | (simp; omega)))) | ((with_reducible refine Below.alloc ?_ ?_ _); rotate_left; (focus (first | omega | (simp; done) | (simp; omega)))) | (with_reducible refine Below.drew ?_) | (refine below_on ?_ (by assumption))))
  clear hb1
  go_wp2
  go_ret
  exact ⟨rfl, hw1⟩
open Go.RowKit Go.BigFrame

/-- What an int and an errno named as results hold. -/
def OutI (w : World) (b d : Nat) (z : Int) (n : Int) (W : World) : Prop :=
  W.heap[b]? = some (.cells #[.int .i64 z] 3 (0, 0)) ∧ W.heap[d]? = some (.cells #[.int .i64 n] 31 (0, 0)) ∧ Below w.heap.size w W
theorem outI_of {w W W1 W2 : World} {b d : Nat} {z n : Int} {c e : Array Value} (hb : w.heap.size ≤ b) (hd : b < d) (h : W.heap[b]? = some (.cells c 3 (0, 0))) (k : W.heap[d]? = some (.cells e 31 (0, 0))) (hc : c.size = 1) (he : e.size = 1) (hB : Below w.heap.size w W)
    (L : Laid1 b (.int .i64 z) W W1) (K : Laid1 d (.int .i64 n) W1 W2) : OutI w b d z n W2 :=
  ⟨K.2.1 _ _ (by omega) (L.1 h hc), K.1 (L.2.1 _ _ (by omega) k) he, hB.trans ((L.2.2 _ hb).trans (K.2.2 _ (by omega)))⟩
theorem outI_cleared {w W W1 W2 : World} {b d : Nat} {z n : Int} {c e : Array Value} (hb : w.heap.size ≤ b) (hd : b < d) (h : W.heap[b]? = some (.cells c 3 (0, 0))) (k : W.heap[d]? = some (.cells e 31 (0, 0))) (hc : c.size = 1) (he : e.size = 1) (hB : Below w.heap.size w W)
    (K : Laid1 d (.int .i64 n) W W1) (L : Laid1 b (.int .i64 z) W1 W2) : OutI w b d z n W2 :=
  ⟨L.1 (K.2.1 _ _ (by omega) h) hc, L.2.1 _ _ (by omega) (K.1 k he), hB.trans ((K.2.2 _ (by omega)).trans (L.2.2 _ hb))⟩
theorem sgn_less (x y : Int) (hx : ab x < 2 ^ 256) (hy : ab y < 2 ^ 256) : (ab (x + -y) < 2 ^ 256 ∧ addE [x, -y] = 0 ∧ addV [x, -y] = x - y) ∨ (addE [x, -y] = 110 ∧ sgn x = sgn (x - y)) := by
  have h1 : ab (0 + x) < 2 ^ 256 := by rw [Int.zero_add]; exact hx
  by_cases h : ab (x + -y) < 2 ^ 256
  · refine .inl ⟨h, ?_, ?_⟩
    · simp only [addE, addF, Int.zero_add, if_pos hx, if_pos h]; rfl
    · simp only [addV, addF, Int.zero_add, if_pos hx, if_pos h]; rfl
  · refine .inr ⟨?_, ?_⟩
    · simp only [addE, addF, Int.zero_add, if_pos hx, if_neg h]; rfl
    · unfold ab at *
      unfold sgn
      have e : (2 : Nat) ^ 256 = 115792089237316195423570985008687907853269984665640564039457584007913129639936 := by decide
      rw [e] at *
      split <;> split <;> (try split) <;> (try split) <;> omega
end Go.Proofs.YtfchmikbebdflaaGreatDoor
