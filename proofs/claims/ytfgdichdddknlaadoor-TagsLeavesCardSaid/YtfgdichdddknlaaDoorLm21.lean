/-
  Walks: Cmp. Conditions stand in each theorem.
-/
import Derived.Test.YtfgdichdddknlaaDoorLm13
namespace Go.Proofs.YtfgdichdddknlaaDoor
open Go.RowKit Go.BigFrame

/-- The pair of a number. -/
abbrev pr (z : Int) : Bool × Nat := (ng z, ab z)
theorem pr_ok (z : Int) : okP (pr z) := ng_zero_iff z
theorem prs_ok (zs : List Int) : ∀ p ∈ zs.map pr, okP p := by
  intro p hp
  obtain ⟨z, _, rfl⟩ := List.mem_map.1 hp
  exact pr_ok z
theorem pr_of {p : Bool × Nat} (h : okP p) : p = pr (zof p.1 p.2) := by
  obtain ⟨s, n⟩ := p
  unfold pr
  rw [ng_zof, ab_zof]
  cases s <;> simp_all [okP]
theorem prs_of {ps : List (Bool × Nat)} (h : ∀ p ∈ ps, okP p) : ∃ zs : List Int, ps = zs.map pr := by
  refine ⟨ps.map fun p => zof p.1 p.2, ?_⟩
  rw [List.map_map]
  refine (List.map_id ps).symm.trans (List.map_congr_left fun p hp => ?_)
  exact pr_of (h p hp)
/-- A sum, one after the other; nothing once it is too great. -/
def addF (z : Int) : List Int → Option Int
  | [] => some z
  | y :: ys => if ab (z + y) < 2 ^ 256 then addF (z + y) ys else none
def addV (zs : List Int) : Int := (addF 0 zs).getD 0
def addE (zs : List Int) : Int := if (addF 0 zs).isSome then 0 else 110
theorem addF_step {z v : Int} {zs : List Int} {k : Nat} (hk : zs[k]? = some v) (h : ab (z + v) < 2 ^ 256) : addF (z + v) (zs.drop (k + 1)) = addF z (zs.drop k) := by
  obtain ⟨h1, rfl⟩ := List.getElem?_eq_some_iff.1 hk
  rw [List.drop_eq_getElem_cons h1, addF, if_pos h]
theorem addF_over {z v : Int} {zs : List Int} {k : Nat} (hk : zs[k]? = some v) (h : ¬ ab (z + v) < 2 ^ 256) : addF z (zs.drop k) = none := by
  obtain ⟨h1, rfl⟩ := List.getElem?_eq_some_iff.1 hk
  rw [List.drop_eq_getElem_cons h1, addF, if_neg h]
end Go.Proofs.YtfgdichdddknlaaDoor

namespace Go.Proofs.YtfgdichdddknlaaDoor
open Go.RowKit Go.BigFrame

theorem ab_neg' (z : Int) : ab (-z) = ab z := by unfold ab; omega
theorem ints_two_z {W : World} {b : Nat} {t : TypeId} {f : Nat × Nat} {x y : Int} (hx : ab x < 2 ^ 256) (hy : ab y < 2 ^ 256)
    (h : W.heap[b]? = some (.cells #[.bool (ng x), .int .u64 (dg (ab x) 0), .int .u64 (dg (ab x) 1), .int .u64 (dg (ab x) 2), .int .u64 (dg (ab x) 3), .bool (ng y), .int .u64 (dg (ab y) 0), .int .u64 (dg (ab y) 1), .int .u64 (dg (ab y) 2), .int .u64 (dg (ab y) 3)] t f)) :
    IntsAt W (some ⟨b, 0, none⟩) ([x, y].map pr) := ints_two (p := pr x) (q := pr y) hx hy h
theorem abs_post {P : Program} {fn : Func} {R : Ending → World → Prop} {e : Exit} {a : Act} {w : World} (I : World → Prop) (h0 : I w) (h : ∀ W, I W → bodyPost P fn R e a W) : bodyPost P fn R e a w := h w h0
end Go.Proofs.YtfgdichdddknlaaDoor

namespace Go.Proofs.YtfgdichdddknlaaDoor
open Go.RowKit Go.BigFrame

theorem dg_small {m : Nat} (h : m < 18446744073709551616) : dg m 0 = m ∧ dg m 1 = 0 ∧ dg m 2 = 0 ∧ dg m 3 = 0 := by
  unfold dg
  rw [pow0, pow1, pow2, pow3, ← Nat.div_div_eq_div_mul, ← Nat.div_div_eq_div_mul, ← Nat.div_div_eq_div_mul]
  omega
theorem wrap_neg (n : Int) (h1 : -9223372036854775808 ≤ n) (hs : n < 0) : IntKind.u64.wrap (-IntKind.u64.wrap n) = (ab n : Nat) := by
  unfold ab
  simp [IntKind.wrap, IntKind.bits, IntKind.signed]
  omega
end Go.Proofs.YtfgdichdddknlaaDoor

namespace Go.Proofs.YtfgdichdddknlaaDoor
open Go.RowKit Go.BigFrame

/-- A product, one after the other; nothing once it is too great. -/
def mulF (z : Int) : List Int → Option Int
  | [] => some z
  | y :: ys => if ab (z * y) < 2 ^ 256 then mulF (z * y) ys else none
def mulV (zs : List Int) : Int := (mulF 1 zs).getD 0
def mulE (zs : List Int) : Int := if (mulF 1 zs).isSome then 0 else 110
theorem mulF_step {z v : Int} {zs : List Int} {k : Nat} (hk : zs[k]? = some v) (h : ab (z * v) < 2 ^ 256) : mulF (z * v) (zs.drop (k + 1)) = mulF z (zs.drop k) := by
  obtain ⟨h1, rfl⟩ := List.getElem?_eq_some_iff.1 hk
  rw [List.drop_eq_getElem_cons h1, mulF, if_pos h]
theorem mulF_over {z v : Int} {zs : List Int} {k : Nat} (hk : zs[k]? = some v) (h : ¬ ab (z * v) < 2 ^ 256) : mulF z (zs.drop k) = none := by
  obtain ⟨h1, rfl⟩ := List.getElem?_eq_some_iff.1 hk
  rw [List.drop_eq_getElem_cons h1, mulF, if_neg h]
theorem ab_mul (x y : Int) : ab (x * y) = ab x * ab y := by unfold ab; exact Int.natAbs_mul x y
theorem zof_mul (x y : Int) : zof (!(ng x == ng y)) (ab x * ab y) = x * y := by
  have hx := zof_ng_ab x
  have hy := zof_ng_ab y
  generalize ng x = s at *
  generalize ng y = t at *
  generalize ab x = a at *
  generalize ab y = b at *
  subst hx hy
  cases s <;> cases t <;> simp [zof, Int.neg_mul, Int.mul_neg]
end Go.Proofs.YtfgdichdddknlaaDoor

namespace Go.Proofs.YtfgdichdddknlaaDoor
open Go.RowKit Go.BigFrame

/-- Two Ints' cells are laid. -/
def Laid2 (b1 b2 : Nat) (u v : Array Value) (W w' : World) : Prop :=
  (∀ {c d : Array Value} {t t' : TypeId}, W.heap[b1]? = some (.cells c t (0, 0)) → c.size = 5 → W.heap[b2]? = some (.cells d t' (0, 0)) → d.size = 5 → w'.heap[b1]? = some (.cells u t (0, 0)) ∧ w'.heap[b2]? = some (.cells v t' (0, 0))) ∧ (∀ k o, k ≠ b1 → k ≠ b2 → W.heap[k]? = some o → w'.heap[k]? = some o) ∧ ∀ n, n ≤ b1 → n ≤ b2 → Below n W w'
theorem laid_two {b1 b2 : Nat} (hne : b1 ≠ b2) {u v : Array Value} {W W1 W2 : World} (h1 : Laid b1 u W W1) (h2 : Laid b2 v W1 W2) : Laid2 b1 b2 u v W W2 := by
  refine ⟨fun {c d t t'} hc hcs hd hds => ⟨h2.2.1 _ _ hne (h1.1 hc hcs), h2.1 (h1.2.1 _ _ hne.symm hd) hds⟩, fun k o k1 k2 hk => h2.2.1 _ _ k2 (h1.2.1 _ _ k1 hk), fun n n1 n2 => (h1.2.2 _ n1).trans (h2.2.2 _ n2)⟩
theorem zof_div (x y : Int) : zof (!(ng x == ng y)) (ab x / ab y) = x.tdiv y := by
  have hx := zof_ng_ab x
  have hy := zof_ng_ab y
  generalize ng x = s at *
  generalize ng y = t at *
  generalize ab x = a at *
  generalize ab y = b at *
  subst hx hy
  cases s <;> cases t <;> simp [zof, Int.neg_tdiv, Int.tdiv_neg]
theorem zof_mod (x y : Int) : zof (ng x) (ab x % ab y) = x.tmod y := by
  have hx := zof_ng_ab x
  have hy := zof_ng_ab y
  generalize ng x = s at *
  generalize ng y = t at *
  generalize ab x = a at *
  generalize ab y = b at *
  subst hx hy
  cases s <;> cases t <;> simp [zof, Int.neg_tmod, Int.tmod_neg, ← Int.ofNat_tmod]
end Go.Proofs.YtfgdichdddknlaaDoor

namespace Go.Proofs.YtfgdichdddknlaaDoor
open Go.RowKit Go.BigFrame

/-- The number that a block holds. -/
def magOf (b : Nat) (W : World) : Nat :=
  match W.heap[b]? with
  | some (.cells c _ _) => mg (intOf (c.getD 0 undef)) (intOf (c.getD 1 undef)) (intOf (c.getD 2 undef)) (intOf (c.getD 3 undef))
  | _ => 0
theorem magOf_eq {b n : Nat} {W : World} {t : TypeId} {f : Nat × Nat} (hn : n < 2 ^ 256) (h : W.heap[b]? = some (.cells #[.int .u64 (dg (n) 0), .int .u64 (dg (n) 1), .int .u64 (dg (n) 2), .int .u64 (dg (n) 3)] t f)) : magOf b W = n := by
  unfold magOf
  rw [h]
  exact mg_dg hn
/-- Four cells of a block are laid. -/
def Laid4 (b : Nat) (v : Array Value) (W w' : World) : Prop :=
  (∀ {c : Array Value} {t : TypeId}, W.heap[b]? = some (.cells c t (0, 0)) → c.size = 4 → w'.heap[b]? = some (.cells v t (0, 0))) ∧ (∀ k o, k ≠ b → W.heap[k]? = some o → w'.heap[k]? = some o) ∧ ∀ n, n ≤ b → Below n W w'
theorem four_of {c : Array Value} (hs : c.size = 4) : ∃ c0 c1 c2 c3, c = #[c0, c1, c2, c3] := by
  obtain ⟨l⟩ := c
  match l, hs with
  | [a, b, c, d], _ => exact ⟨a, b, c, d, rfl⟩
theorem laid_four (b : Nat) (W : World) (v0 v1 v2 v3 : Value) : Laid4 b #[v0, v1, v2, v3] W ((((W.setCell ⟨b, 0, none⟩ v0).setCell ⟨b, 1, none⟩ v1).setCell ⟨b, 2, none⟩ v2).setCell ⟨b, 3, none⟩ v3) := by
  refine ⟨fun {c t} h hs => ?_, fun k o hk h => ?_, fun n hn => ?_⟩
  · obtain ⟨c0, c1, c2, c3, rfl⟩ := four_of hs
    have := heap_set (heap_set (heap_set (heap_set h 0 v0) 1 v1) 2 v2) 3 v3
    simpa using this
  · repeat (refine heap_set_other ?_ hk _)
    exact h
  · repeat (refine Below.setCell ?_ hn _)
    exact Below.refl _ _
theorem drew_heap (W : World) : W.drew.heap = W.heap := rfl
theorem gcd_swap {x y g : Nat} (h : Nat.gcd x y = g) : Nat.gcd y (x % y) = g := by
  rw [Nat.gcd_comm, ← Nat.gcd_rec, Nat.gcd_comm]; exact h
end Go.Proofs.YtfgdichdddknlaaDoor

namespace Go.Proofs.YtfgdichdddknlaaDoor
open Go.RowKit Go.BigFrame

def sgn (z : Int) : Int := if z = 0 then 0 else if z < 0 then -1 else 1
open Go.RowKit Go.BigFrame

/-- What an int and an errno named as results hold. -/
def OutI (w : World) (b d : Nat) (z : Int) (n : Int) (W : World) : Prop :=
  W.heap[b]? = some (.cells #[.int .i64 z] 3 (0, 0)) ∧ W.heap[d]? = some (.cells #[.int .i64 n] 27 (0, 0)) ∧ Below w.heap.size w W
theorem outI_of {w W W1 W2 : World} {b d : Nat} {z n : Int} {c e : Array Value} (hb : w.heap.size ≤ b) (hd : b < d) (h : W.heap[b]? = some (.cells c 3 (0, 0))) (k : W.heap[d]? = some (.cells e 27 (0, 0))) (hc : c.size = 1) (he : e.size = 1) (hB : Below w.heap.size w W)
    (L : Laid1 b (.int .i64 z) W W1) (K : Laid1 d (.int .i64 n) W1 W2) : OutI w b d z n W2 :=
  ⟨K.2.1 _ _ (by omega) (L.1 h hc), K.1 (L.2.1 _ _ (by omega) k) he, hB.trans ((L.2.2 _ hb).trans (K.2.2 _ (by omega)))⟩
theorem outI_cleared {w W W1 W2 : World} {b d : Nat} {z n : Int} {c e : Array Value} (hb : w.heap.size ≤ b) (hd : b < d) (h : W.heap[b]? = some (.cells c 3 (0, 0))) (k : W.heap[d]? = some (.cells e 27 (0, 0))) (hc : c.size = 1) (he : e.size = 1) (hB : Below w.heap.size w W)
    (K : Laid1 d (.int .i64 n) W W1) (L : Laid1 b (.int .i64 z) W1 W2) : OutI w b d z n W2 :=
  ⟨L.1 (K.2.1 _ _ (by omega) h) hc, L.2.1 _ _ (by omega) (K.1 k he), hB.trans ((K.2.2 _ (by omega)).trans (L.2.2 _ hb))⟩
theorem sgn_less (x y : Int) (hx : ab x < 2 ^ 256) (hy : ab y < 2 ^ 256) : (ab (x + -y) < 2 ^ 256 ∧ addE [x, -y] = 0 ∧ addV [x, -y] = x - y) ∨ (addE [x, -y] = 110 ∧ sgn x = sgn (x - y)) := by
  have h1 : ab (0 + x) < 2 ^ 256 := by rw [Int.zero_add]; exact hx
  by_cases h : ab (x + -y) < 2 ^ 256
  · refine .inl ⟨h, ?_, ?_⟩
    · simp only [addE, addF, Int.zero_add, if_pos hx, if_pos h]; rfl
    · simp only [addV, addF, Int.zero_add, if_pos hx, if_pos h]; rfl
  · refine .inr ⟨?_, ?_⟩
    · simp only [addE, addF, Int.zero_add, if_pos hx, if_neg h]; rfl
    · unfold ab at *
      unfold sgn
      have e : (2 : Nat) ^ 256 = 115792089237316195423570985008687907853269984665640564039457584007913129639936 := by decide
      rw [e] at *
      split <;> split <;> (try split) <;> (try split) <;> omega
end Go.Proofs.YtfgdichdddknlaaDoor
