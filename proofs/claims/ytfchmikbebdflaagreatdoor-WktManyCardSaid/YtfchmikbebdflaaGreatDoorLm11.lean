/-
  Walks: right (are all of a list Ints that may be?). Conditions stand in each theorem.
-/
import Derived.Test.YtfchmikbebdflaaGreatDoorBase4
import Derived.Test.YtfchmikbebdflaaGreatDoorLm9
namespace Go.Proofs.YtfchmikbebdflaaGreatDoor
open Go.RowKit Go.BigFrame

/-- The sign and the magnitude of a number. -/
def ng (z : Int) : Bool := decide (z < 0)
def ab (z : Int) : Nat := z.natAbs
theorem ng_nat (n : Nat) : ng (n : Int) = false := by unfold ng; simp
theorem ab_nat (n : Nat) : ab (n : Int) = n := by unfold ab; simp
theorem ng_neg (n : Nat) : ng (-(n : Int)) = decide (n ≠ 0) := by unfold ng; rw [Bool.eq_iff_iff]; simp; omega
theorem ab_neg (n : Nat) : ab (-(n : Int)) = n := by unfold ab; simp
theorem ng_zero_iff (z : Int) : ng z = true → ab z ≠ 0 := by unfold ng ab; simp; omega
/-- The number of a sign and a magnitude. -/
def zof (b : Bool) (n : Nat) : Int := if b then -(n : Int) else n
theorem zof_ng_ab (z : Int) : zof (ng z) (ab z) = z := by unfold zof ng ab; by_cases h : z < 0 <;> simp [h] <;> omega
theorem ng_zof (b : Bool) (n : Nat) : ng (zof b n) = (b && decide (n ≠ 0)) := by cases b <;> simp [zof, ng_nat, ng_neg]
theorem ab_zof (b : Bool) (n : Nat) : ab (zof b n) = n := by cases b <;> simp [zof, ab_nat, ab_neg]

/-- 'of', by value. -/
theorem of_z (b : Bool) (n : Nat) (hn : n < 2 ^ 256) (w : World) :
    Calls Tryz.prog 140 #[.bool b, .agg #[.int .u64 (dg (n) 0), .int .u64 (dg (n) 1), .int .u64 (dg (n) 2), .int .u64 (dg (n) 3)]] w fun e w' => e = .returned (.agg #[.bool (ng (zof b n)), .int .u64 (dg (ab (zof b n)) 0), .int .u64 (dg (ab (zof b n)) 1), .int .u64 (dg (ab (zof b n)) 2), .int .u64 (dg (ab (zof b n)) 3)]) ∧ Below w.heap.size w w' := by
  have h := of_any b n hn w
  rw [ng_zof, ab_zof]
  exact h

theorem mag_zero {n : Nat} (hn : n < 2 ^ 256) : (dg n 0 == 0 && (dg n 1 == 0 && (dg n 2 == 0 && dg n 3 == 0))) = decide (n = 0) := by
  rw [Bool.eq_iff_iff]
  simp only [Bool.and_eq_true, beq_iff_eq, decide_eq_true_eq]
  exact dg_eq_zero hn

set_option maxHeartbeats 400000 in
theorem check_ok (z : Int) (hz : ab z < 2 ^ 256) (w : World) :
    Calls Tryz.prog 108 #[.agg #[.bool (ng (z)), .int .u64 (dg (ab (z)) 0), .int .u64 (dg (ab (z)) 1), .int .u64 (dg (ab (z)) 2), .int .u64 (dg (ab (z)) 3)]] w fun e w' => e = .returned (.int .i64 0) ∧ Below w.heap.size w w' := by
  have h1 := mag_zero hz
  have h2 := ng_zero_iff z
  clear hz
  cases hs : ng z
  · clear h1 h2 hs
    go_enter Tryz.func108, Tryz.ntmps108
    go_wp2
    go_ret
    refine ⟨rfl, ?_⟩
    focus (repeat (first | (with_reducible exact Below.refl _ _) | (with_reducible assumption) | ((with_reducible refine Below.setCell ?_ ?_ _); rotate_left; (focus (first | omega | (simp; done) | (simp; omega)))) | ((with_reducible refine Below.alloc ?_ ?_ _); rotate_left; (focus (first | omega | (simp; done) | (simp; omega)))) | (with_reducible refine Below.drew ?_) | (refine below_on ?_ (by assumption))))
  · have h3 : (dg (ab z) 0 == 0 && (dg (ab z) 1 == 0 && (dg (ab z) 2 == 0 && dg (ab z) 3 == 0))) = false := by rw [h1]; simpa using h2 hs
    clear h1 h2 hs
    go_enter Tryz.func108, Tryz.ntmps108
    go_wp2
    go_ret
    refine ⟨rfl, ?_⟩
    focus (repeat (first | (with_reducible exact Below.refl _ _) | (with_reducible assumption) | ((with_reducible refine Below.setCell ?_ ?_ _); rotate_left; (focus (first | omega | (simp; done) | (simp; omega)))) | ((with_reducible refine Below.alloc ?_ ?_ _); rotate_left; (focus (first | omega | (simp; done) | (simp; omega)))) | (with_reducible refine Below.drew ?_) | (refine below_on ?_ (by assumption))))
set_option maxHeartbeats 400000 in
theorem check_bad (w : World) :
    Calls Tryz.prog 108 #[.agg #[.bool (true), .int .u64 (dg (0) 0), .int .u64 (dg (0) 1), .int .u64 (dg (0) 2), .int .u64 (dg (0) 3)]] w fun e w' => e = .returned (.int .i64 2) ∧ Below w.heap.size w w' := by
  simp only [dg_zero]
  go_enter Tryz.func108, Tryz.ntmps108
  go_wp2
  go_ret
  refine ⟨rfl, ?_⟩
  focus (repeat (first | (with_reducible exact Below.refl _ _) | (with_reducible assumption) | ((with_reducible refine Below.setCell ?_ ?_ _); rotate_left; (focus (first | omega | (simp; done) | (simp; omega)))) | ((with_reducible refine Below.alloc ?_ ?_ _); rotate_left; (focus (first | omega | (simp; done) | (simp; omega)))) | (with_reducible refine Below.drew ?_) | (refine below_on ?_ (by assumption))))

def SumPost (x y : Int) (w : World) (e : Ending) (w' : World) : Prop :=
  e = (if ab (x + y) < 2 ^ 256 then .returned (.agg #[.bool (ng (x + y)), .int .u64 (dg (ab (x + y)) 0), .int .u64 (dg (ab (x + y)) 1), .int .u64 (dg (ab (x + y)) 2), .int .u64 (dg (ab (x + y)) 3)]) else .panicked [{ v := .iface 31 (.int .i64 110), recovered := false }]) ∧ Below w.heap.size w w'
theorem sum_alike (x y : Int) (hs : ng x = ng y) : ab (x + y) = ab x + ab y ∧ zof (ng x) (ab x + ab y) = x + y := by
  unfold zof ng ab at *
  have h : (x < 0) ↔ (y < 0) := by simpa using hs
  by_cases h1 : x < 0
  · have h2 := h.1 h1
    simp [h1]; omega
  · have h2 : ¬ y < 0 := fun h3 => h1 (h.2 h3)
    simp [h1]; omega
theorem sum_apart (x y : Int) (hs : ng x ≠ ng y) : (ab y ≤ ab x → zof (ng x) (ab x - ab y) = x + y) ∧ (ab x < ab y → zof (ng y) (ab y - ab x) = x + y) ∧ (ab (x + y) ≤ ab x ∨ ab (x + y) ≤ ab y) := by
  unfold zof ng ab at *
  have h : ¬ ((x < 0) ↔ (y < 0)) := by simpa using hs
  by_cases h1 : x < 0
  · have h2 : ¬ y < 0 := fun h3 => h ⟨fun _ => h3, fun _ => h1⟩
    simp [h1, h2]; omega
  · have h2 : y < 0 := by
      rcases Int.lt_or_le y 0 with h3 | h3
      · exact h3
      · exact absurd ⟨fun h4 => absurd h4 h1, fun h4 => absurd h4 (by omega)⟩ h
    simp [h1, h2]; omega

end Go.Proofs.YtfchmikbebdflaaGreatDoor

namespace Go.Proofs.YtfchmikbebdflaaGreatDoor
open Go.RowKit Go.BigFrame

/-- A pair of a sign and a magnitude that may be. -/
def okP (p : Bool × Nat) : Prop := p.1 = true → p.2 ≠ 0
instance (p : Bool × Nat) : Decidable (okP p) := by unfold okP; infer_instance
/-- A row of Ints that is read. -/
def IntsAt (W : World) (A : Option Addr) (ps : List (Bool × Nat)) : Prop :=
  (∀ p ∈ ps, p.2 < 2 ^ 256) ∧ ps.length ≤ 28147497670246 ∧ (0 < ps.length → ∃ b off, A = some ⟨b, off, none⟩ ∧ ∀ j p, ps[j]? = some p → ∀ i, i < 5 → W.cell? ⟨b, off + j * 5 + i, none⟩ = (#[.bool (p.1), .int .u64 (dg (p.2) 0), .int .u64 (dg (p.2) 1), .int .u64 (dg (p.2) 2), .int .u64 (dg (p.2) 3)])[i]?)
theorem IntsAt.below {W W1 : World} {A : Option Addr} {ps : List (Bool × Nat)} (h : IntsAt W A ps) (hb : Below W.heap.size W W1) : IntsAt W1 A ps := by
  refine ⟨h.1, h.2.1, fun h0 => ?_⟩
  obtain ⟨b, off, e, hc⟩ := h.2.2 h0
  refine ⟨b, off, e, fun j p hj i hi => ?_⟩
  have h1 := hc j p hj i hi
  refine (hb.cell ?_).trans h1
  obtain ⟨v, hv⟩ : ∃ v, (#[.bool (p.1), .int .u64 (dg (p.2) 0), .int .u64 (dg (p.2) 1), .int .u64 (dg (p.2) 2), .int .u64 (dg (p.2) 3)] : Array Value)[i]? = some v := ⟨_, Array.getElem?_eq_getElem (by simpa using hi)⟩
  exact World.block_lt_of_cell? W ⟨b, off + j * 5 + i, none⟩ (h1.trans hv)

def errC (p : Bool × Nat) : Int := if okP p then 0 else 2
theorem check_any (p : Bool × Nat) (hp : p.2 < 2 ^ 256) (w : World) :
    Calls Tryz.prog 108 #[.agg #[.bool (p.1), .int .u64 (dg (p.2) 0), .int .u64 (dg (p.2) 1), .int .u64 (dg (p.2) 2), .int .u64 (dg (p.2) 3)]] w fun e w' => e = .returned (.int .i64 (errC p)) ∧ Below w.heap.size w w' := by
  obtain ⟨s, n⟩ := p
  by_cases h : okP (s, n)
  · have h1 : ng (zof s n) = s := by
      rw [ng_zof]
      cases s
      · rfl
      · simp [okP] at h; simp [h]
    have h2 := check_ok (zof s n) (by rw [ab_zof]; exact hp) w
    rw [h1, ab_zof] at h2
    unfold errC
    rw [if_pos h]
    exact h2
  · obtain ⟨rfl, rfl⟩ : s = true ∧ n = 0 := by simpa [okP] using h
    unfold errC
    rw [if_neg h]
    exact check_bad w

def RightPost (ps : List (Bool × Nat)) (w : World) (e : Ending) (w' : World) : Prop :=
  e = (if (∀ p ∈ ps, okP p) then .returned (.tuple #[]) else .panicked [{ v := .iface 31 (.int .i64 2), recovered := false }]) ∧ Below w.heap.size w w'
set_option maxHeartbeats 1000000 in
theorem right_any (A : Option Addr) (c : Nat) (ps : List (Bool × Nat)) (w : World) (hI : IntsAt w A ps) :
    Calls Tryz.prog 159 #[.slice A ps.length c] w (RightPost ps w) := by
  have hl := hI.2.1
  have HI := Hd.mk hI
  clear hI
  go_enter Tryz.func159, Tryz.ntmps159
  go_wp2
  go_loopw [3, 6] (fun _ ci wr => ∃ k : Nat, k ≤ ps.length ∧ ci = .int .i64 k ∧ (∀ j p, j < k → ps[j]? = some p → okP p) ∧ Below w.heap.size w wr) (fun _ ci _ => ps.length - (intOf ci).toNat)
  case atStart => exact ⟨0, by omega, rfl, fun j p hj => absurd hj (by omega), Below.refl _ _⟩
  case round =>
    obtain ⟨k, hk, rfl, hok, hB⟩ := hrel
    have hsz := hB.size
    by_cases hlt : k < ps.length
    · obtain ⟨h1, h2, h3⟩ := HI.out.below hB
      obtain ⟨b, off, hA, hc⟩ := h3 (by omega)
      obtain ⟨p, hp⟩ : ∃ p, ps[k]? = some p := ⟨_, List.getElem?_eq_getElem hlt⟩
      have hcc := hc k p hp
      subst hA
      have e0 : wr.cell? ⟨b, off + k * 5, none⟩ = some (.bool p.1) := hcc 0 (by omega)
      have e1 : wr.cell? ⟨b, off + k * 5 + 1, none⟩ = some (.int .u64 (dg p.2 0)) := hcc 1 (by omega)
      have e2 : wr.cell? ⟨b, off + k * 5 + 2, none⟩ = some (.int .u64 (dg p.2 1)) := hcc 2 (by omega)
      have e3 : wr.cell? ⟨b, off + k * 5 + 3, none⟩ = some (.int .u64 (dg p.2 2)) := hcc 3 (by omega)
      have e4 : wr.cell? ⟨b, off + k * 5 + 4, none⟩ = some (.int .u64 (dg p.2 3)) := hcc 4 (by omega)
      have HP := Hd.mk hp
      have HN := Hd.mk (h1 p (List.mem_of_getElem? hp))
      have HK := Hd.mk hok
      by_cases hgo : okP p
      · have HG := Hd.mk hgo
        have hE : errC p = 0 := by unfold errC; rw [if_pos hgo]
        have HE := Hd.mk hE
        clear hcc hc hp h3 h1 h2 hok hgo hE
        go_wp2_with fail
        refine (check_any p HN.out _).mono ?_
        rintro e w1 ⟨rfl, hb1⟩
        rw [HE.out]
        go_wp2_with (go_at_call 175; refine (must_ok _ _).mono ?_; rintro e w' ⟨rfl, rfl⟩)
        go_roundw
        case rel =>
          refine ⟨k + 1, by omega, by go_num, fun j q hj hq => ?_, ?_⟩
          · rcases Nat.lt_succ_iff_lt_or_eq.1 hj with h | h
            · exact HK.out j q h hq
            · subst h
              rw [HP.out] at hq
              injection hq with hq
              subst hq
              exact HG.out
          focus (repeat (first | (with_reducible exact Below.refl _ _) | (with_reducible assumption) | ((with_reducible refine Below.setCell ?_ ?_ _); rotate_left; (focus (first | omega | (simp; done) | (simp; omega)))) | ((with_reducible refine Below.alloc ?_ ?_ _); rotate_left; (focus (first | omega | (simp; done) | (simp; omega)))) | (with_reducible refine Below.drew ?_) | (refine below_on ?_ (by assumption))))
        case measure => simp [intOf]; omega
      · have HG := Hd.mk hgo
        have hE : errC p = 2 := by unfold errC; rw [if_neg hgo]
        have HE := Hd.mk hE
        clear hcc hc hp h3 h1 h2 hok hgo hE
        go_wp2_with fail
        refine (check_any p HN.out _).mono ?_
        rintro e w1 ⟨rfl, hb1⟩
        rw [HE.out]
        go_wp2_with (go_at_call 175; refine (must_no _ _).mono ?_; rintro e w' ⟨rfl, rfl⟩)
        refine ⟨rfl, ?_, ?_⟩
        · rw [if_neg fun h => HG.out (h p (List.mem_of_getElem? HP.out))]
        focus (repeat (first | (with_reducible exact Below.refl _ _) | (with_reducible assumption) | ((with_reducible refine Below.setCell ?_ ?_ _); rotate_left; (focus (first | omega | (simp; done) | (simp; omega)))) | ((with_reducible refine Below.alloc ?_ ?_ _); rotate_left; (focus (first | omega | (simp; done) | (simp; omega)))) | (with_reducible refine Below.drew ?_) | (refine below_on ?_ (by assumption))))
    · obtain rfl : k = ps.length := by omega
      have HK := Hd.mk hok
      clear hok
      go_wp2
      go_end0
      refine ⟨?_, hB⟩
      rw [if_pos]
      intro p hp
      obtain ⟨j, hj, he⟩ := List.mem_iff_getElem.1 hp
      exact HK.out j p hj (by rw [List.getElem?_eq_getElem hj, he])

theorem right_ok (A : Option Addr) (c : Nat) (ps : List (Bool × Nat)) (w : World) (hI : IntsAt w A ps) (h : ∀ p ∈ ps, okP p) :
    Calls Tryz.prog 159 #[.slice A ps.length c] w fun e w' => e = .returned (.tuple #[]) ∧ Below w.heap.size w w' :=
  (right_any A c ps w hI).mono fun e w' ⟨he, hw⟩ => ⟨by rw [he, if_pos h], hw⟩
theorem right_no (A : Option Addr) (c : Nat) (ps : List (Bool × Nat)) (w : World) (hI : IntsAt w A ps) (h : ¬ ∀ p ∈ ps, okP p) :
    Calls Tryz.prog 159 #[.slice A ps.length c] w fun e w' => e = .panicked [{ v := .iface 31 (.int .i64 2), recovered := false }] ∧ Below w.heap.size w w' :=
  (right_any A c ps w hI).mono fun e w' ⟨he, hw⟩ => ⟨by rw [he, if_neg h], hw⟩
/-- A row just made. -/
theorem ints_one {W : World} {b : Nat} {t : TypeId} {f : Nat × Nat} {p : Bool × Nat} (hp : p.2 < 2 ^ 256) (h : W.heap[b]? = some (.cells #[.bool (p.1), .int .u64 (dg (p.2) 0), .int .u64 (dg (p.2) 1), .int .u64 (dg (p.2) 2), .int .u64 (dg (p.2) 3)] t f)) : IntsAt W (some ⟨b, 0, none⟩) [p] := by
  refine ⟨by simpa using hp, by simp, fun _ => ⟨b, 0, rfl, fun j q hj i hi => ?_⟩⟩
  cases j with
  | zero =>
    obtain rfl : p = q := by simpa using hj
    rw [cell_at h]
    simp
  | succ j => simp at hj
theorem ints_two {W : World} {b : Nat} {t : TypeId} {f : Nat × Nat} {p q : Bool × Nat} (hp : p.2 < 2 ^ 256) (hq : q.2 < 2 ^ 256)
    (h : W.heap[b]? = some (.cells #[.bool p.1, .int .u64 (dg p.2 0), .int .u64 (dg p.2 1), .int .u64 (dg p.2 2), .int .u64 (dg p.2 3), .bool q.1, .int .u64 (dg q.2 0), .int .u64 (dg q.2 1), .int .u64 (dg q.2 2), .int .u64 (dg q.2 3)] t f)) :
    IntsAt W (some ⟨b, 0, none⟩) [p, q] := by
  refine ⟨by intro r hr; simp at hr; rcases hr with rfl | rfl <;> assumption, by simp, fun _ => ⟨b, 0, rfl, fun j r hj i hi => ?_⟩⟩
  rw [cell_at h]
  obtain rfl | rfl | rfl | rfl | rfl : i = 0 ∨ i = 1 ∨ i = 2 ∨ i = 3 ∨ i = 4 := by omega
  all_goals
    cases j with
    | zero =>
      obtain rfl : p = r := by simpa using hj
      simp
    | succ j =>
      cases j with
      | zero =>
        obtain rfl : q = r := by simpa using hj
        simp
      | succ j => simp at hj
end Go.Proofs.YtfchmikbebdflaaGreatDoor
