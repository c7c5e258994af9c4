/-
  Fractions of the references: in lowest terms. Conditions stand in each theorem.
-/
import Derived.Test.YtfchmikbebdflaaGreatDoorBk
import Derived.Test.YtfchmikbebdflaaGreatDoorWg1
import Derived.Test.YtfchmikbebdflaaGreatDoorRf8
import Derived.Test.YtfchmikbebdflaaGreatDoorRab
namespace Go.Proofs.YtfchmikbebdflaaGreatDoor
open Go.RowKit Go.BigFrame

/-- Digits are left alone by who writes a block that holds no number. -/
theorem DigAt.other {W W' : World} {A : Option Addr} {ds : List Int} {b : Nat} {c : Array Value} {t : TypeId} {f : Nat × Nat} (h : DigAt W A ds) (hb : W.heap[b]? = some (.cells c t f)) (hn : ∀ (o : Nat) (x : Int), c[o]? ≠ some (Value.int .i64 x)) (ho : ∀ k o, k ≠ b → W.heap[k]? = some o → W'.heap[k]? = some o) : DigAt W' A ds := by
  refine ⟨h.1, fun h0 => ?_⟩
  obtain ⟨g, off, e, hc⟩ := h.2 h0
  refine ⟨g, off, e, fun k x hk => ?_⟩
  have h1 := hc k x hk
  have hg : g ≠ b := by
    rintro rfl
    rw [cell_at hb] at h1
    exact hn _ _ h1
  cases hW : W.heap[g]? with
  | none => rw [show W.cell? ⟨g, off + k, none⟩ = none by simp [World.cell?, hW]] at h1; cases h1
  | some o =>
    have h2 := ho g o hg hW
    have e2 : W'.cell? ⟨g, off + k, none⟩ = W.cell? ⟨g, off + k, none⟩ := by unfold World.cell?; simp only [h2, hW]
    rw [e2]
    exact h1
/-- A fraction of the references. -/
def RatAt (W : World) (v : Value) (n d : Int) : Prop := ∃ (A : Option Addr) (c : Nat) (B : Option Addr) (e : Nat), v = .agg #[.bool (ng n), .slice A (dd (ab n)).length c, .bool (ng d), .slice B (dd (ab d)).length e] ∧ (dd (ab n)).length ≤ c ∧ DigAt W A (dd (ab n)) ∧ (dd (ab d)).length ≤ e ∧ DigAt W B (dd (ab d))
theorem RatAt.below {W W1 : World} {v : Value} {n d : Int} (h : RatAt W v n d) (hb : Below W.heap.size W W1) : RatAt W1 v n d := by
  obtain ⟨A, c, B, e, h1, h2, h3, h4, h5⟩ := h
  exact ⟨A, c, B, e, h1, h2, h3.below hb, h4, h5.below hb⟩
theorem no_int2 {s : Bool} {A : Option Addr} {n c : Nat} : ∀ (o : Nat) (x : Int), (#[Value.bool s, .slice A n c] : Array Value)[o]? ≠ some (Value.int .i64 x)
  | 0, _, h => by simp at h
  | 1, _, h => by simp at h
  | _ + 2, _, h => by simp at h
theorem no_int4 {s t : Bool} {A B : Option Addr} {n c m e : Nat} : ∀ (o : Nat) (x : Int), (#[Value.bool s, .slice A n c, .bool t, .slice B m e] : Array Value)[o]? ≠ some (Value.int .i64 x)
  | 0, _, h => by simp at h
  | 1, _, h => by simp at h
  | 2, _, h => by simp at h
  | 3, _, h => by simp at h
  | _ + 4, _, h => by simp at h
theorem load_rrat {W : World} {b : Nat} {cs : Array Value} {t : TypeId} {f : Nat × Nat} (h : W.heap[b]? = some (.cells cs t f)) (hs : cs.size = 4) : (loadVar 125 ⟨b, 0, none⟩).run Tryz.prog W = .ok (.agg cs) W :=
  run_loadVar_row W b t _ cs f _ h Tryz.underlying125 rfl (by rw [hs]; kernel_rfl)
end Go.Proofs.YtfchmikbebdflaaGreatDoor

namespace Go.Proofs.YtfchmikbebdflaaGreatDoor
open Go.RowKit Go.BigFrame

theorem tdiv_zof (z : Int) (g : Nat) : z.tdiv (g : Int) = zof (ng z) (ab z / g) := by
  unfold zof ng ab
  rcases Int.lt_or_le z 0 with h | h
  · obtain ⟨n, rfl⟩ : ∃ n : Nat, z = -(n : Int) := ⟨z.natAbs, by omega⟩
    rw [Int.neg_tdiv, Int.natAbs_neg, Int.natAbs_natCast, if_pos (by simpa using h)]
    congr 1
  · obtain ⟨n, rfl⟩ : ∃ n : Nat, z = (n : Int) := ⟨z.toNat, by omega⟩
    rw [Int.natAbs_natCast, if_neg (by simp)]
    rfl
theorem tdiv_rz (z : Int) (k : Nat) : z.tdiv ((Nat.gcd (ab z) k : Nat) : Int) = rz z k := tdiv_zof _ _
theorem tdiv_rd (z : Int) (k : Nat) : ((k : Nat) : Int).tdiv ((Nat.gcd (ab z) k : Nat) : Int) = ((rd z k : Nat) : Int) := rfl
theorem rz_one (z : Int) : rz z 1 = z := by unfold rz; rw [Nat.gcd_one_right, Nat.div_one, zof_ng_ab]
theorem rd_one (z : Int) : rd z 1 = 1 := by unfold rd; rw [Nat.gcd_one_right]
theorem big_in {W : World} {b : Nat} {z : Int} {A : Option Addr} {c : Nat} (h1 : W.heap[b]? = some (.cells #[.bool (ng (z)), .slice A (dd (ab (z))).length c] 123 (0, 0))) (h2 : (dd (ab z)).length ≤ c) (h3 : DigAt W A (dd (ab z))) : BigIn W b z := ⟨A, c, h1, h2, h3⟩
theorem big_of {W : World} {z : Int} {A : Option Addr} {c : Nat} (h2 : (dd (ab z)).length ≤ c) (h3 : DigAt W A (dd (ab z))) : BigAt W (.agg #[.bool (ng z), .slice A (dd (ab z)).length c]) z := ⟨A, c, rfl, h2, h3⟩
theorem sgn_one (k : Nat) : (sgn ((k : Int) - 1) == 0) = decide (k = 1) := by
  rw [Bool.eq_iff_iff]
  simp only [beq_iff_eq, decide_eq_true_eq]
  unfold sgn
  split
  · omega
  · split <;> omega
end Go.Proofs.YtfchmikbebdflaaGreatDoor
