/-
  Walks over the references' numbers: digits to the base 65536 in a slice; cut. Conditions stand in each theorem.
-/
import Derived.Test.YteibcklcegkbcaaLm29
namespace Go.Proofs.Yteibcklcegkbcaa
open Go.RowKit Go.BigFrame

/-- A slice of digits that is read. -/
def DigAt (W : World) (A : Option Addr) (ds : List Int) : Prop :=
  ds.length ≤ 1000000 ∧ (0 < ds.length → ∃ b off, A = some ⟨b, off, none⟩ ∧ ∀ k x, ds[k]? = some x → W.cell? ⟨b, off + k, none⟩ = some (.int .i64 x))
theorem DigAt.below {W W1 : World} {A : Option Addr} {ds : List Int} (h : DigAt W A ds) (hb : Below W.heap.size W W1) : DigAt W1 A ds :=
  ⟨h.1, fun h0 => by
    obtain ⟨b, off, e, hc⟩ := h.2 h0
    exact ⟨b, off, e, fun k x hk => (hb.cell (World.block_lt_of_cell? W _ (hc k x hk))).trans (hc k x hk)⟩⟩
theorem DigAt.take {W : World} {A : Option Addr} {ds : List Int} (h : DigAt W A ds) (n : Nat) : DigAt W A (ds.take n) :=
  ⟨by have := h.1; rw [List.length_take]; omega, fun h0 => by
    have h1 : 0 < ds.length := by rw [List.length_take] at h0; omega
    obtain ⟨b, off, e, hc⟩ := h.2 h1
    refine ⟨b, off, e, fun k x hk => hc k x ?_⟩
    rw [List.getElem?_take] at hk
    split at hk
    · exact hk
    · cases hk⟩
/-- Digits without noughts behind: how many are left. -/
def keepN (ds : List Int) : Nat → Nat
  | 0 => 0
  | n + 1 => if ds[n]? = some 0 then keepN ds n else n + 1
theorem keepN_le (ds : List Int) : ∀ n, keepN ds n ≤ n
  | 0 => Nat.le_refl _
  | n + 1 => by
    unfold keepN
    split
    · have := keepN_le ds n; omega
    · exact Nat.le_refl _
def strip (ds : List Int) : List Int := ds.take (keepN ds ds.length)
theorem strip_length (ds : List Int) : (strip ds).length = keepN ds ds.length := by
  unfold strip
  rw [List.length_take]
  have := keepN_le ds ds.length
  omega
theorem DigAt.strip {W : World} {A A' : Option Addr} {ds : List Int} (h : DigAt W A ds) (hA : 0 < (strip ds).length → A' = A) : DigAt W A' (strip ds) := by
  refine ⟨(h.take _).1, fun h0 => ?_⟩
  rw [hA h0]
  exact (h.take _).2 h0
set_option maxHeartbeats 1000000 in
theorem cut_any (A : Option Addr) (c : Nat) (ds : List Int) (hc : ds.length ≤ c) (w : World) (h : DigAt w A ds) :
    Calls Try.prog 53 #[.slice A ds.length c] w fun e w' => (∃ A' : Option Addr, e = .returned (.slice A' (strip ds).length c) ∧ (0 < (strip ds).length → A' = A)) ∧ w' = w := by
  have hl := h.1
  have HH := Hd.mk h
  clear h
  go_enter Try.func53, Try.ntmps53
  go_wp2
  go_loopw [0] (fun v wr => ∃ (n : Nat) (A' : Option Addr), n ≤ ds.length ∧ v = .slice A' n c ∧ keepN ds n = keepN ds ds.length ∧ (0 < n → A' = A) ∧ wr = w) (fun v _ => match v with | .slice _ n _ => n | _ => 0)
  case atStart => exact ⟨ds.length, A, Nat.le_refl _, rfl, rfl, fun _ => rfl, rfl⟩
  case round =>
    obtain ⟨n, A', hn, rfl, hk, hA, rfl⟩ := hrel
    match n, hn, hk, hA with
    | 0, hn, hk, hA =>
      have HK := Hd.mk hk
      clear hk hA
      go_wp2
      go_ret
      refine ⟨⟨A', ?_, ?_⟩, rfl⟩
      · rw [strip_length, ← HK.out]; rfl
      · intro h0; rw [strip_length, ← HK.out] at h0; exact absurd h0 (by simp [keepN])
    | m + 1, hn, hk, hA =>
      obtain rfl : A' = A := hA (by omega)
      obtain ⟨b, off, rfl, hcell⟩ := HH.out.2 (by omega)
      obtain ⟨x, hx⟩ : ∃ x, ds[m]? = some x := ⟨_, List.getElem?_eq_getElem (by omega)⟩
      have e0 := hcell m x hx
      have hmc : m + 1 ≤ c := by omega
      have hmi : (m : Int) ≤ 1000000 := by omega
      by_cases h0 : x = 0
      · have hk2 : keepN ds m = keepN ds ds.length := by rw [← hk, keepN, if_pos (by rw [hx, h0])]
        have HK := Hd.mk hk2
        subst h0
        clear hk hA hcell hk2 hx
        go_wp2
        exact ⟨⟨m, _, by omega, rfl, HK.out, fun _ => rfl, trivial⟩, Nat.lt_succ_self m⟩
      · have hk2 : m + 1 = keepN ds ds.length := by rw [← hk, keepN, if_neg (by rw [hx]; simpa using h0)]
        have HK := Hd.mk hk2
        have hx0 : (x == 0) = false := by simpa using h0
        clear hk hA hcell hk2 hx h0
        go_wp2
        go_ret
        refine ⟨⟨some ⟨b, off, none⟩, ?_, fun _ => rfl⟩, rfl⟩
        rw [strip_length, ← HK.out]
        rfl
end Go.Proofs.Yteibcklcegkbcaa
