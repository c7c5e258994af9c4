/-
  The walk of LimbOrders. Conditions stand in each theorem.
-/
import Derived.Deep.RegionHeld3
import Derived.Test.YtfchmikbebdflaaGreatDoorRf6
namespace Go.Proofs.YtfchmikbebdflaaGreatDoor
open Go.RowKit Go.BigFrame

theorem from_z (z : Int) (hz : ab z < 2 ^ 256) (w : World) :
    Calls Tryz.prog 114 #[.agg #[.bool (ng (z)), .int .u64 (dg (ab (z)) 0), .int .u64 (dg (ab (z)) 1), .int .u64 (dg (ab (z)) 2), .int .u64 (dg (ab (z)) 3)]] w fun e w' => ∃ v, e = .returned v ∧ BigAt w' v z ∧ Below w.heap.size w w' := by
  have h := from_any (ng z, ab z) hz w
  rw [zof_ng_ab] at h
  exact h
def ZAt (W : World) (b : Nat) (z : Int) : Prop :=
  W.cell? ⟨b, 0, none⟩ = some (.bool (ng z)) ∧ W.cell? ⟨b, 1, none⟩ = some (.int .u64 (dg (ab z) 0)) ∧ W.cell? ⟨b, 2, none⟩ = some (.int .u64 (dg (ab z) 1)) ∧
    W.cell? ⟨b, 3, none⟩ = some (.int .u64 (dg (ab z) 2)) ∧ W.cell? ⟨b, 4, none⟩ = some (.int .u64 (dg (ab z) 3))
theorem z_at {W : World} {b : Nat} {z : Int} {t : TypeId} {f : Nat × Nat} (h : W.heap[b]? = some (.cells #[.bool (ng (z)), .int .u64 (dg (ab (z)) 0), .int .u64 (dg (ab (z)) 1), .int .u64 (dg (ab (z)) 2), .int .u64 (dg (ab (z)) 3)] t f)) : ZAt W b z := ⟨cell_at h 0, cell_at h 1, cell_at h 2, cell_at h 3, cell_at h 4⟩
theorem ZAt.below {W W1 : World} {b : Nat} {z : Int} (h : ZAt W b z) (hb : Below W.heap.size W W1) : ZAt W1 b z := by
  obtain ⟨h0, h1, h2, h3, h4⟩ := h
  exact ⟨(hb.cell (World.block_lt_of_cell? W _ h0)).trans h0, (hb.cell (World.block_lt_of_cell? W _ h1)).trans h1, (hb.cell (World.block_lt_of_cell? W _ h2)).trans h2, (hb.cell (World.block_lt_of_cell? W _ h3)).trans h3, (hb.cell (World.block_lt_of_cell? W _ h4)).trans h4⟩
theorem ng_okP {p : Bool × Nat} (h : okP p) : ng (zof p.1 p.2) = p.1 := by
  obtain ⟨s, n⟩ := p
  rw [ng_zof]
  cases s
  · rfl
  · simp [okP] at h; simp [h]
theorem rright_any (p : Bool × Nat) (hp : p.2 < 2 ^ 256) (w : World) :
    Calls Tryz.prog 113 #[.agg #[.bool (p.1), .int .u64 (dg (p.2) 0), .int .u64 (dg (p.2) 1), .int .u64 (dg (p.2) 2), .int .u64 (dg (p.2) 3)]] w fun e w' => e = .returned (.bool (decide (okP p))) ∧ Below w.heap.size w w' := by
  obtain ⟨s, n⟩ := p
  by_cases h : okP (s, n)
  · have h1 : ng (zof s n) = s := by
      rw [ng_zof]
      cases s
      · rfl
      · simp [okP] at h; simp [h]
    have h2 := rright_ok (zof s n) (by rw [ab_zof]; exact hp) w
    rw [h1, ab_zof] at h2
    rw [decide_eq_true h]
    exact h2
  · rw [decide_eq_false h]
    obtain ⟨rfl, rfl⟩ : s = true ∧ n = 0 := by simpa [okP] using h
    exact rright_bad w
end Go.Proofs.YtfchmikbebdflaaGreatDoor
