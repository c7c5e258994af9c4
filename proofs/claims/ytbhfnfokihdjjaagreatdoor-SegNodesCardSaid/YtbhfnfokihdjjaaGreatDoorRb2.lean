/-
  Fractions of the references: in lowest terms. Conditions stand in each theorem.
-/
import Derived.Test.YtbhfnfokihdjjaaGreatDoorBk
import Derived.Test.YtbhfnfokihdjjaaGreatDoorWd7
import Derived.Test.YtbhfnfokihdjjaaGreatDoorRf18
import Derived.Test.YtbhfnfokihdjjaaGreatDoorWf5
namespace Go.Proofs.YtbhfnfokihdjjaaGreatDoor
open Go.RowKit Go.BigFrame

/-- Digits are left alone by who writes a block that holds no number. -/
theorem DigAt.other {W W' : World} {A : Option Addr} {ds : List Int} {b : Nat} {c : Array Value} {t : TypeId} {f : Nat × Nat} (h : DigAt W A ds) (hb : W.heap[b]? = some (.cells c t f)) (hn : ∀ (o : Nat) (x : Int), c[o]? ≠ some (Value.int .i64 x)) (ho : ∀ k o, k ≠ b → W.heap[k]? = some o → W'.heap[k]? = some o) : DigAt W' A ds := by
  refine ⟨h.1, fun h0 => ?_⟩
  obtain ⟨g, off, e, hc⟩ := h.2 h0
  refine ⟨g, off, e, fun k x hk => ?_⟩
  have h1 := hc k x hk
  have hg : g ≠ b := by
    rintro rfl
    rw [cell_at hb] at h1
    exact hn _ _ h1
  cases hW : W.heap[g]? with
  | none => rw [show W.cell? ⟨g, off + k, none⟩ = none by simp [World.cell?, hW]] at h1; cases h1
  | some o =>
    have h2 := ho g o hg hW
    have e2 : W'.cell? ⟨g, off + k, none⟩ = W.cell? ⟨g, off + k, none⟩ := by unfold World.cell?; simp only [h2, hW]
    rw [e2]
    exact h1
/-- A fraction of the references. -/
def RatAt (W : World) (v : Value) (n d : Int) : Prop := ∃ (A : Option Addr) (c : Nat) (B : Option Addr) (e : Nat), v = .agg #[.bool (ng n), .slice A (dd (ab n)).length c, .bool (ng d), .slice B (dd (ab d)).length e] ∧ (dd (ab n)).length ≤ c ∧ DigAt W A (dd (ab n)) ∧ (dd (ab d)).length ≤ e ∧ DigAt W B (dd (ab d))
theorem RatAt.below {W W1 : World} {v : Value} {n d : Int} (h : RatAt W v n d) (hb : Below W.heap.size W W1) : RatAt W1 v n d := by
  obtain ⟨A, c, B, e, h1, h2, h3, h4, h5⟩ := h
  exact ⟨A, c, B, e, h1, h2, h3.below hb, h4, h5.below hb⟩
theorem no_int2 {s : Bool} {A : Option Addr} {n c : Nat} : ∀ (o : Nat) (x : Int), (#[Value.bool s, .slice A n c] : Array Value)[o]? ≠ some (Value.int .i64 x)
  | 0, _, h => by simp at h
  | 1, _, h => by simp at h
  | _ + 2, _, h => by simp at h
theorem no_int4 {s t : Bool} {A B : Option Addr} {n c m e : Nat} : ∀ (o : Nat) (x : Int), (#[Value.bool s, .slice A n c, .bool t, .slice B m e] : Array Value)[o]? ≠ some (Value.int .i64 x)
  | 0, _, h => by simp at h
  | 1, _, h => by simp at h
  | 2, _, h => by simp at h
  | 3, _, h => by simp at h
  | _ + 4, _, h => by simp at h
theorem load_rrat {W : World} {b : Nat} {cs : Array Value} {t : TypeId} {f : Nat × Nat} (h : W.heap[b]? = some (.cells cs t f)) (hs : cs.size = 4) : (loadVar 55 ⟨b, 0, none⟩).run Tryz.prog W = .ok (.agg cs) W :=
  run_loadVar_row W b t _ cs f _ h Tryz.underlying55 rfl (by rw [hs]; kernel_rfl)
set_option maxRecDepth 20000 in
set_option maxHeartbeats 1000000 in
theorem rrnum_any (n : Int) (h1 : -9223372036854775808 ≤ n) (h2 : n ≤ 9223372036854775807) (w : World) :
    Calls Tryz.prog 43 #[.int .i64 n] w fun e w' => ∃ v, e = .returned v ∧ RatAt w' v n 1 ∧ Below w.heap.size w w' := by
  go_enter Tryz.func43, Tryz.ntmps43
  go_wp2_with fail
  refine (rnum_any n h1 h2 _).mono ?_
  rintro e wa ⟨v, rfl, hv, hb⟩
  have z0 := heap_below hb (heap_new w (.cells #[.bool false, .slice none 0 0, .bool false, .slice none 0 0] 55))
  have hB : Below w.heap.size w wa := below_on (by focus (repeat (first | (with_reducible exact Below.refl _ _) | (with_reducible assumption) | ((with_reducible refine Below.setCell ?_ ?_ _); rotate_left; (focus (first | omega | (simp; done) | (simp; omega)))) | ((with_reducible refine Below.alloc ?_ ?_ _); rotate_left; (focus (first | omega | (simp; done) | (simp; omega)))) | (with_reducible refine Below.drew ?_) | (refine below_on ?_ (by assumption))))) hb
  clear hb
  have HV := Hd.mk hv
  clear hv
  go_wp2_with fail
  refine (rnum_any 1 (by decide) (by decide) _).mono ?_
  rintro e wb ⟨v2, rfl, hv2, hb⟩
  have z1 := heap_below hb z0
  have hv := HV.out.below hb
  have hB2 := below_on hB hb
  clear hb z0 hB HV
  obtain ⟨A, c, rfl, g1, g2⟩ := hv
  obtain ⟨B, e, rfl, g3, g4⟩ := hv2
  have HG := Hd.mk (And.intro g2 g4)
  clear g2 g4
  go_wp2_with (refine wpList_store_block rfl 55 (.tmp 2) (.tmp 6) rfl w.heap.size #[.bool (ng n), .slice A (dd (ab n)).length c, .bool (ng 1), .slice B (dd (ab 1)).length e] rfl rfl z1 rfl (by kernel_rfl) rfl ?_; rintro W ⟨k1, k2, k3⟩; have hF := hB2.trans (k3 _ (Nat.le_refl _)); have HN := Hd.mk (And.intro (HG.out.1.other z1 no_int4 k2) (HG.out.2.other z1 no_int4 k2)); clear z1 hB2 k2 k3)
  refine bodyPost_ret (by simp [results, Tryz.results43, asAddr, Act.put, load_rrat k1 rfl]) rfl ⟨_, rfl, ⟨A, c, B, e, rfl, g1, HN.out.1, g3, HN.out.2⟩, hF⟩
end Go.Proofs.YtbhfnfokihdjjaaGreatDoor

namespace Go.Proofs.YtbhfnfokihdjjaaGreatDoor
open Go.RowKit Go.BigFrame

theorem tdiv_zof (z : Int) (g : Nat) : z.tdiv (g : Int) = zof (ng z) (ab z / g) := by
  unfold zof ng ab
  rcases Int.lt_or_le z 0 with h | h
  · obtain ⟨n, rfl⟩ : ∃ n : Nat, z = -(n : Int) := ⟨z.natAbs, by omega⟩
    rw [Int.neg_tdiv, Int.natAbs_neg, Int.natAbs_natCast, if_pos (by simpa using h)]
    congr 1
  · obtain ⟨n, rfl⟩ : ∃ n : Nat, z = (n : Int) := ⟨z.toNat, by omega⟩
    rw [Int.natAbs_natCast, if_neg (by simp)]
    rfl
theorem tdiv_rz (z : Int) (k : Nat) : z.tdiv ((Nat.gcd (ab z) k : Nat) : Int) = rz z k := tdiv_zof _ _
theorem tdiv_rd (z : Int) (k : Nat) : ((k : Nat) : Int).tdiv ((Nat.gcd (ab z) k : Nat) : Int) = ((rd z k : Nat) : Int) := rfl
theorem rz_one (z : Int) : rz z 1 = z := by unfold rz; rw [Nat.gcd_one_right, Nat.div_one, zof_ng_ab]
theorem rd_one (z : Int) : rd z 1 = 1 := by unfold rd; rw [Nat.gcd_one_right]
theorem big_in {W : World} {b : Nat} {z : Int} {A : Option Addr} {c : Nat} (h1 : W.heap[b]? = some (.cells #[.bool (ng (z)), .slice A (dd (ab (z))).length c] 53 (0, 0))) (h2 : (dd (ab z)).length ≤ c) (h3 : DigAt W A (dd (ab z))) : BigIn W b z := ⟨A, c, h1, h2, h3⟩
theorem big_of {W : World} {z : Int} {A : Option Addr} {c : Nat} (h2 : (dd (ab z)).length ≤ c) (h3 : DigAt W A (dd (ab z))) : BigAt W (.agg #[.bool (ng z), .slice A (dd (ab z)).length c]) z := ⟨A, c, rfl, h2, h3⟩
theorem sgn_one (k : Nat) : (sgn ((k : Int) - 1) == 0) = decide (k = 1) := by
  rw [Bool.eq_iff_iff]
  simp only [beq_iff_eq, decide_eq_true_eq]
  unfold sgn
  split
  · omega
  · split <;> omega
set_option maxRecDepth 20000 in
set_option maxHeartbeats 4000000 in
theorem rmake_pos (m : Int) (k : Nat) (hk : 0 < k) (hm : ab m < 2 ^ 256) (hk2 : k < 2 ^ 256) (u v : Value) (w : World) (hu : BigAt w u m) (hv : BigAt w v (k : Int)) :
    Calls Tryz.prog 42 #[u, v] w fun e w' => ∃ r, e = .returned r ∧ RatAt w' r (rz m k) ((rd m k : Nat) : Int) ∧ Below w.heap.size w w' := by
  have HM := Hd.mk hm
  have HK := Hd.mk (And.intro hk hk2)
  obtain ⟨A, c, rfl, g1, g2⟩ := hu
  obtain ⟨B, e, rfl, g3, g4⟩ := hv
  have HG := Hd.mk (And.intro g2 g4)
  have hneg : ng (k : Int) = false := ng_nat k
  clear hm hk hk2 g2 g4
  go_enter Tryz.func42, Tryz.ntmps42
  go_upto_region 1 with (fail)
  refine abs_wp (fun W => BigIn W w.heap.size m ∧ BigIn W (w.heap.size + 1) (k : Int) ∧ W.heap[w.heap.size + 1 + 1]? = some (.cells #[.bool false, .slice none 0 0, .bool false, .slice none 0 0] 55 (0, 0)) ∧ Below w.heap.size w W) ⟨big_in (heap_old (heap_old (heap_new _ _) _) _) g1 (HG.out.1.below (by focus (repeat (first | (with_reducible exact Below.refl _ _) | (with_reducible assumption) | ((with_reducible refine Below.setCell ?_ ?_ _); rotate_left; (focus (first | omega | (simp; done) | (simp; omega)))) | ((with_reducible refine Below.alloc ?_ ?_ _); rotate_left; (focus (first | omega | (simp; done) | (simp; omega)))) | (with_reducible refine Below.drew ?_) | (refine below_on ?_ (by assumption)))))), big_in (heap_old (heap_at (by simp) _) _) g3 (HG.out.2.below (by focus (repeat (first | (with_reducible exact Below.refl _ _) | (with_reducible assumption) | ((with_reducible refine Below.setCell ?_ ?_ _); rotate_left; (focus (first | omega | (simp; done) | (simp; omega)))) | ((with_reducible refine Below.alloc ?_ ?_ _); rotate_left; (focus (first | omega | (simp; done) | (simp; omega)))) | (with_reducible refine Below.drew ?_) | (refine below_on ?_ (by assumption)))))), heap_at (by simp) _, by focus (repeat (first | (with_reducible exact Below.refl _ _) | (with_reducible assumption) | ((with_reducible refine Below.setCell ?_ ?_ _); rotate_left; (focus (first | omega | (simp; done) | (simp; omega)))) | ((with_reducible refine Below.alloc ?_ ?_ _); rotate_left; (focus (first | omega | (simp; done) | (simp; omega)))) | (with_reducible refine Below.drew ?_) | (refine below_on ?_ (by assumption))))⟩ fun W ⟨hm, hk, z2, hB⟩ => ?_
  clear g1 g3 HG
  obtain ⟨B1, e1, q1, q2, q3⟩ := hk
  have cc := cell_at q1
  have hk : BigIn W (w.heap.size + 1) (k : Int) := ⟨B1, e1, q1, q2, q3⟩
  clear q2 q3
  go_upto_region 3 with (fail)
  clear hneg cc q1
  obtain ⟨A, c, y0, g1, g2⟩ := hm
  obtain ⟨B, e, y1, g3, g4⟩ := hk
  have HG := Hd.mk (And.intro g2 g4)
  clear g2 g4
  have hsz2 := lt_of_block z2
  go_upto_region 3 with (fail)
  have hD0 : Below W.heap.size W W.drew := Below.drew (Below.refl _ _)
  have HS : Hd (∀ W', Below W.heap.size W W' → W'.cell? ⟨w.heap.size + 1, 0, none⟩ = some (.bool (ng (k : Int))) ∧ W'.cell? ⟨w.heap.size + 1, 1, none⟩ = some (.slice B (dd (ab (k : Int))).length e)) := ⟨fun W' h => ⟨cell_at (heap_below h y1) 0, cell_at (heap_below h y1) 1⟩⟩
  go_region_held3 (fun W' => W'.cell? ⟨w.heap.size + 1, 0, none⟩ = some (.bool (ng (k : Int))) ∧ W'.cell? ⟨w.heap.size + 1, 1, none⟩ = some (.slice B (dd (ab (k : Int))).length e)) ((exact HS.out _ (by focus (repeat (first | (with_reducible exact Below.refl _ _) | (with_reducible assumption) | ((with_reducible refine Below.setCell ?_ ?_ _); rotate_left; (focus (first | omega | (simp; done) | (simp; omega)))) | ((with_reducible refine Below.alloc ?_ ?_ _); rotate_left; (focus (first | omega | (simp; done) | (simp; omega)))) | (with_reducible refine Below.drew ?_) | (refine below_on ?_ (by assumption)))))))
    ((first
      | (go_at_call 77; refine (rnum_any 1 (by decide) (by decide) _).mono ?_; rintro e1 wa ⟨v1, rfl, hV1, hb⟩; have hD1 := below_on hD0 hb; clear hb)
      | (go_at_call 76; refine (rcmp_any (k : Int) 1 _ _ _ (big_of g3 (HG.out.2.below hD1)) hV1).mono ?_; rintro e1 wb ⟨rfl, hb⟩; have hD2 := below_on hD1 hb; clear hb)))
  clear hV1 hD1 hD0 HS
  have x0 := heap_below hD2 y0
  have x1 := heap_below hD2 y1
  have x2 := heap_below hD2 z2
  have HD2 := Hd.mk (And.intro (HG.out.1.below hD2) (HG.out.2.below hD2))
  have hB2 := below_on hB hD2
  have c0 := cell_at x0
  have c1 := cell_at x1
  clear y0 y1 z2 HG hB hD2
  by_cases h1 : k = 1
  · have hs := sgn_one k
    rw [decide_eq_true h1] at hs
    have e1 : rz m k = m := by rw [h1]; exact rz_one m
    have e2 : rd m k = k := by rw [h1]; exact rd_one m
    have HE1 := Hd.mk (And.intro e1 e2)
    clear h1 e1 e2
    go_wp2_with (refine wpList_store_block rfl 55 (.tmp 4) (.tmp 22) rfl (w.heap.size + 1 + 1) #[.bool (ng m), .slice A (dd (ab m)).length c, .bool (ng (k : Int)), .slice B (dd (ab (k : Int))).length e] rfl rfl x2 rfl (by kernel_rfl) rfl ?_; rintro W2 ⟨k1, k2, k3⟩; have hF := hB2.trans (k3 _ (by omega)); have HN := Hd.mk (And.intro (HD2.out.1.other x2 no_int4 k2) (HD2.out.2.other x2 no_int4 k2)); clear x0 x1 x2 hB2 k2 k3 c0 c1)
    refine bodyPost_ret (by simp [results, Tryz.results42, asAddr, Act.put, load_rrat k1 rfl] <;> rfl) rfl ⟨_, rfl, by rw [HE1.out.1, HE1.out.2]; exact ⟨A, c, B, e, rfl, g1, HN.out.1, g3, HN.out.2⟩, hF⟩
  · have hs := sgn_one k
    rw [decide_eq_false h1] at hs
    obtain ⟨g, hg⟩ : ∃ g, g = Nat.gcd (ab m) k := ⟨_, rfl⟩
    have hg0 : 0 < g := by rw [hg]; exact Nat.gcd_pos_of_pos_right _ HK.out.1
    have hgl : g < 2 ^ 256 := by rw [hg]; exact Nat.lt_of_le_of_lt (Nat.gcd_le_right _ HK.out.1) HK.out.2
    have hgd : (dd (ab (g : Int))).length ≤ 200 := by rw [ab_nat]; exact Nat.le_trans ((dd_len16 _).2 hgl) (by decide)
    have hml : (dd (ab m)).length ≤ 1000 := dd_small HM.out
    have hkl : (dd (ab (k : Int))).length ≤ 1000 := by rw [ab_nat]; exact Nat.le_trans ((dd_len16 _).2 HK.out.2) (by decide)
    have e1 : m.tdiv (g : Int) = rz m k := by rw [hg]; exact tdiv_rz m k
    have e2 : ((k : Nat) : Int).tdiv (g : Int) = ((rd m k : Nat) : Int) := by rw [hg]; exact tdiv_rd m k
    have HE := Hd.mk (And.intro e1 e2)
    have HGC : Hd (∀ (u v : Value) (w : World), BigAt w u m → BigAt w v (k : Int) → Calls Tryz.prog 78 #[u, v] w fun e w' => ∃ x, e = .returned x ∧ BigAt w' x (g : Int) ∧ Below w.heap.size w w') := ⟨fun u v w h1 h2 => by
      have h := rgcd_any m (k : Int) u v HM.out (by rw [ab_nat]; exact HK.out.2) w h1 h2
      rw [ab_nat, ← hg] at h
      exact h⟩
    have hgne : (g : Int) ≠ 0 := by omega
    have HL := Hd.mk (And.intro hgne (And.intro hgd (And.intro hml hkl)))
    clear h1 hg hg0 hgl hgd hml hkl e1 e2 hgne
    go_wp2_with fail
    refine (HGC.out _ _ _ (big_of g1 HD2.out.1) (big_of g3 HD2.out.2)).mono ?_
    rintro e1 w3 ⟨v3, rfl, ⟨C, f, rfl, g5, g6⟩, hb⟩
    have y0 := heap_below hb x0
    have y1 := heap_below hb x1
    have y2 := heap_below hb x2
    have HD3 := Hd.mk (And.intro (HD2.out.1.below hb) (And.intro (HD2.out.2.below hb) g6))
    have hB3 := below_on hB2 hb
    clear hb x0 x1 x2 HD2 hB2 c0 c1 g6 HGC
    have s3 := lt_of_block y2
    go_upto_region 6 with (fail)
    refine abs_wp (fun W => W.heap[w.heap.size]? = some (.cells #[.bool (ng (m)), .slice A (dd (ab (m))).length c] 53 (0, 0)) ∧ W.heap[w.heap.size + 1]? = some (.cells #[.bool (ng ((k : Int))), .slice B (dd (ab ((k : Int)))).length e] 53 (0, 0)) ∧ W.heap[w.heap.size + 1 + 1]? = some (.cells #[.bool false, .slice none 0 0, .bool false, .slice none 0 0] 55 (0, 0)) ∧ W.heap[w3.heap.size]? = some (.cells #[.bool (ng ((g : Int))), .slice C (dd (ab ((g : Int)))).length f] 53 (0, 0)) ∧ (DigAt W A (dd (ab m)) ∧ DigAt W B (dd (ab (k : Int))) ∧ DigAt W C (dd (ab (g : Int)))) ∧ Below w.heap.size w W) ⟨heap_old y0 _, heap_old y1 _, heap_old y2 _, heap_new _ _, ⟨HD3.out.1.below (by focus (repeat (first | (with_reducible exact Below.refl _ _) | (with_reducible assumption) | ((with_reducible refine Below.setCell ?_ ?_ _); rotate_left; (focus (first | omega | (simp; done) | (simp; omega)))) | ((with_reducible refine Below.alloc ?_ ?_ _); rotate_left; (focus (first | omega | (simp; done) | (simp; omega)))) | (with_reducible refine Below.drew ?_) | (refine below_on ?_ (by assumption))))), HD3.out.2.1.below (by focus (repeat (first | (with_reducible exact Below.refl _ _) | (with_reducible assumption) | ((with_reducible refine Below.setCell ?_ ?_ _); rotate_left; (focus (first | omega | (simp; done) | (simp; omega)))) | ((with_reducible refine Below.alloc ?_ ?_ _); rotate_left; (focus (first | omega | (simp; done) | (simp; omega)))) | (with_reducible refine Below.drew ?_) | (refine below_on ?_ (by assumption))))), HD3.out.2.2.below (by focus (repeat (first | (with_reducible exact Below.refl _ _) | (with_reducible assumption) | ((with_reducible refine Below.setCell ?_ ?_ _); rotate_left; (focus (first | omega | (simp; done) | (simp; omega)))) | ((with_reducible refine Below.alloc ?_ ?_ _); rotate_left; (focus (first | omega | (simp; done) | (simp; omega)))) | (with_reducible refine Below.drew ?_) | (refine below_on ?_ (by assumption)))))⟩, by have := hB3.size; focus (repeat (first | (with_reducible exact Below.refl _ _) | (with_reducible assumption) | ((with_reducible refine Below.setCell ?_ ?_ _); rotate_left; (focus (first | omega | (simp; done) | (simp; omega)))) | ((with_reducible refine Below.alloc ?_ ?_ _); rotate_left; (focus (first | omega | (simp; done) | (simp; omega)))) | (with_reducible refine Below.drew ?_) | (refine below_on ?_ (by assumption))))⟩ fun W4 ⟨x0, x1, x2, x3, hd, hB4⟩ => ?_
    have HD4 := Hd.mk hd
    obtain ⟨b3, hb3⟩ : ∃ b3, b3 = w3.heap.size := ⟨_, rfl⟩
    rw [← hb3] at x3 s3 ⊢
    clear y0 y1 y2 HD3 hB3 hd hb3
    have c0 := cell_at x0
    have c3 := cell_at x3
    go_wp2_with fail
    refine (rquo_any m (g : Int) HL.out.1 _ _ HL.out.2.2.1 HL.out.2.1 _ (big_of g1 HD4.out.1) (big_of g5 HD4.out.2.2)).mono ?_
    rintro e1 w5 ⟨q5, r5, rfl, hq5, hr5, hb⟩
    rw [HE.out.1] at hq5
    obtain ⟨A5, c5, rfl, g7, g8⟩ := hq5
    obtain ⟨R5, f5, rfl, _, _⟩ := hr5
    have y1 := heap_below hb x1
    have y2 := heap_below hb x2
    have y3 := heap_below hb x3
    have HD5 := Hd.mk (And.intro g8 (And.intro (HD4.out.2.1.below hb) (HD4.out.2.2.below hb)))
    have hB5 := below_on hB4 hb
    clear hb x0 x1 x2 x3 HD4 hB4 g8 c0 c3
    have s5 := lt_of_block y3
    go_upto_region 7 with (fail)
    refine abs_wp (fun W => W.heap[w.heap.size + 1]? = some (.cells #[.bool (ng ((k : Int))), .slice B (dd (ab ((k : Int)))).length e] 53 (0, 0)) ∧ W.heap[w.heap.size + 1 + 1]? = some (.cells #[.bool false, .slice none 0 0, .bool false, .slice none 0 0] 55 (0, 0)) ∧ W.heap[b3]? = some (.cells #[.bool (ng ((g : Int))), .slice C (dd (ab ((g : Int)))).length f] 53 (0, 0)) ∧ W.heap[w5.heap.size]? = some (.cells #[.bool (ng (rz m k)), .slice A5 (dd (ab (rz m k))).length c5] 53 (0, 0)) ∧ (DigAt W A5 (dd (ab (rz m k))) ∧ DigAt W B (dd (ab (k : Int))) ∧ DigAt W C (dd (ab (g : Int)))) ∧ Below w.heap.size w W) ⟨heap_old (heap_old y1 _) _, heap_old (heap_old y2 _) _, heap_old (heap_old y3 _) _, heap_old (heap_new _ _) _, ⟨HD5.out.1.below (by focus (repeat (first | (with_reducible exact Below.refl _ _) | (with_reducible assumption) | ((with_reducible refine Below.setCell ?_ ?_ _); rotate_left; (focus (first | omega | (simp; done) | (simp; omega)))) | ((with_reducible refine Below.alloc ?_ ?_ _); rotate_left; (focus (first | omega | (simp; done) | (simp; omega)))) | (with_reducible refine Below.drew ?_) | (refine below_on ?_ (by assumption))))), HD5.out.2.1.below (by focus (repeat (first | (with_reducible exact Below.refl _ _) | (with_reducible assumption) | ((with_reducible refine Below.setCell ?_ ?_ _); rotate_left; (focus (first | omega | (simp; done) | (simp; omega)))) | ((with_reducible refine Below.alloc ?_ ?_ _); rotate_left; (focus (first | omega | (simp; done) | (simp; omega)))) | (with_reducible refine Below.drew ?_) | (refine below_on ?_ (by assumption))))), HD5.out.2.2.below (by focus (repeat (first | (with_reducible exact Below.refl _ _) | (with_reducible assumption) | ((with_reducible refine Below.setCell ?_ ?_ _); rotate_left; (focus (first | omega | (simp; done) | (simp; omega)))) | ((with_reducible refine Below.alloc ?_ ?_ _); rotate_left; (focus (first | omega | (simp; done) | (simp; omega)))) | (with_reducible refine Below.drew ?_) | (refine below_on ?_ (by assumption)))))⟩, by have := hB5.size; focus (repeat (first | (with_reducible exact Below.refl _ _) | (with_reducible assumption) | ((with_reducible refine Below.setCell ?_ ?_ _); rotate_left; (focus (first | omega | (simp; done) | (simp; omega)))) | ((with_reducible refine Below.alloc ?_ ?_ _); rotate_left; (focus (first | omega | (simp; done) | (simp; omega)))) | (with_reducible refine Below.drew ?_) | (refine below_on ?_ (by assumption))))⟩ fun W6 ⟨x1, x2, x3, x5, hd, hB6⟩ => ?_
    have HD6 := Hd.mk hd
    obtain ⟨b5, hb5⟩ : ∃ b5, b5 = w5.heap.size := ⟨_, rfl⟩
    rw [← hb5] at x5 s5 ⊢
    clear y1 y2 y3 HD5 hB5 hd hb5
    have c1 := cell_at x1
    have c3 := cell_at x3
    go_wp2_with fail
    refine (rquo_any ((k : Nat) : Int) (g : Int) HL.out.1 _ _ HL.out.2.2.2 HL.out.2.1 _ (big_of g3 HD6.out.2.1) (big_of g5 HD6.out.2.2)).mono ?_
    rintro e1 w7 ⟨q7, r7, rfl, hq7, hr7, hb⟩
    rw [HE.out.2] at hq7
    obtain ⟨A7, c7, rfl, g9, g10⟩ := hq7
    obtain ⟨R7, f7, rfl, _, _⟩ := hr7
    have y2 := heap_below hb x2
    have y5 := heap_below hb x5
    have HD7 := Hd.mk (And.intro (HD6.out.1.below hb) g10)
    have hB7 := below_on hB6 hb
    clear hb x1 x2 x3 x5 HD6 hB6 g10 c1 c3
    have s7 := lt_of_block y5
    go_upto_region 8 with (fail)
    refine abs_wp (fun W => W.heap[w.heap.size + 1 + 1]? = some (.cells #[.bool false, .slice none 0 0, .bool false, .slice none 0 0] 55 (0, 0)) ∧ W.heap[b5]? = some (.cells #[.bool (ng (rz m k)), .slice A5 (dd (ab (rz m k))).length c5] 53 (0, 0)) ∧ W.heap[w7.heap.size]? = some (.cells #[.bool (ng (((rd m k : Nat) : Int))), .slice A7 (dd (ab (((rd m k : Nat) : Int)))).length c7] 53 (0, 0)) ∧ (DigAt W A5 (dd (ab (rz m k))) ∧ DigAt W A7 (dd (ab ((rd m k : Nat) : Int)))) ∧ Below w.heap.size w W) ⟨heap_old (heap_old y2 _) _, heap_old (heap_old y5 _) _, heap_old (heap_new _ _) _, ⟨HD7.out.1.below (by focus (repeat (first | (with_reducible exact Below.refl _ _) | (with_reducible assumption) | ((with_reducible refine Below.setCell ?_ ?_ _); rotate_left; (focus (first | omega | (simp; done) | (simp; omega)))) | ((with_reducible refine Below.alloc ?_ ?_ _); rotate_left; (focus (first | omega | (simp; done) | (simp; omega)))) | (with_reducible refine Below.drew ?_) | (refine below_on ?_ (by assumption))))), HD7.out.2.below (by focus (repeat (first | (with_reducible exact Below.refl _ _) | (with_reducible assumption) | ((with_reducible refine Below.setCell ?_ ?_ _); rotate_left; (focus (first | omega | (simp; done) | (simp; omega)))) | ((with_reducible refine Below.alloc ?_ ?_ _); rotate_left; (focus (first | omega | (simp; done) | (simp; omega)))) | (with_reducible refine Below.drew ?_) | (refine below_on ?_ (by assumption)))))⟩, by have := hB7.size; focus (repeat (first | (with_reducible exact Below.refl _ _) | (with_reducible assumption) | ((with_reducible refine Below.setCell ?_ ?_ _); rotate_left; (focus (first | omega | (simp; done) | (simp; omega)))) | ((with_reducible refine Below.alloc ?_ ?_ _); rotate_left; (focus (first | omega | (simp; done) | (simp; omega)))) | (with_reducible refine Below.drew ?_) | (refine below_on ?_ (by assumption))))⟩ fun W8 ⟨x2, x5, x7, hd, hB8⟩ => ?_
    have HD8 := Hd.mk hd
    obtain ⟨b7, hb7⟩ : ∃ b7, b7 = w7.heap.size := ⟨_, rfl⟩
    rw [← hb7] at x7 s7 ⊢
    clear y2 y5 HD7 hB7 hd hb7
    have c5 := cell_at x5
    have c7 := cell_at x7
    go_wp2_with (refine wpList_store_block rfl 55 (.tmp 4) (.tmp 40) rfl (w.heap.size + 1 + 1) #[.bool (ng (rz m k)), .slice A5 (dd (ab (rz m k))).length _, .bool (ng ((rd m k : Nat) : Int)), .slice A7 (dd (ab ((rd m k : Nat) : Int))).length _] rfl rfl x2 rfl (by kernel_rfl) rfl ?_; rintro W2 ⟨k1, k2, k3⟩; have hF := hB8.trans (k3 _ (by omega)); have HN := Hd.mk (And.intro (HD8.out.1.other x2 no_int4 k2) (HD8.out.2.other x2 no_int4 k2)); clear x2 x5 x7 hB8 k2 k3 c5 c7)
    refine bodyPost_ret (by simp [results, Tryz.results42, asAddr, Act.put, load_rrat k1 rfl] <;> rfl) rfl ⟨_, rfl, ⟨A5, _, A7, _, rfl, g7, HN.out.1, g9, HN.out.2⟩, hF⟩
end Go.Proofs.YtbhfnfokihdjjaaGreatDoor
