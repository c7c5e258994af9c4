/-
  Walks of ratio: sums and differences of wide magnitudes. Conditions stand in each theorem.
-/
import Derived.Test.YtfchmikbebdflaaGreatDoorLm3
import Derived.Test.YtfchmikbebdflaaGreatDoorWd0
namespace Go.Proofs.YtfchmikbebdflaaGreatDoor
open Go.RowKit Go.BigFrame

theorem lessW_digit (a b k : Nat) (hb : b < 2 ^ (64 * 9)) (hk : k < 9) (w : World) : (callFunc 163 #[.int .u64 (dg a k), .int .u64 (dg b k), .int .u64 (bor a b k)]).run Tryz.prog w =
    .ok (.value (.tuple #[.int .u64 (dg (a + 2 ^ (64 * 9) - b) k), .int .u64 (bor a b (k + 1))])) w := by
  have h1 := dg_lessW 9 a b k hb hk
  have hc := bor_le a b k
  obtain ⟨x, hx⟩ := Int.eq_ofNat_of_zero_le (dg_nonneg a k)
  obtain ⟨y, hy⟩ := Int.eq_ofNat_of_zero_le (dg_nonneg b k)
  obtain ⟨z, hz⟩ := Int.eq_ofNat_of_zero_le (dg_nonneg (a + 2 ^ (64 * 9) - b) k)
  rw [hx, hy, hz] at h1 ⊢
  simp only [Int.toNat_natCast] at h1
  rw [sub64 _ _ _ hc, h1.1, h1.2]

end Go.Proofs.YtfchmikbebdflaaGreatDoor
