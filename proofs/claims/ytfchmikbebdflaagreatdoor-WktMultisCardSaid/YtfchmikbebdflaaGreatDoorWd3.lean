/-
  Walks: must and caught of ratio, point, seg. Conditions stand in each theorem.
-/
import Derived.Defers
import Derived.Recover
import Derived.Test.YtfchmikbebdflaaGreatDoorBase4
import Derived.Test.YtfchmikbebdflaaGreatDoorWd2
namespace Go.Proofs.YtfchmikbebdflaaGreatDoor
open Go.RowKit Go.BigFrame

/-- The sign and the magnitude of a number. -/
def ng (z : Int) : Bool := decide (z < 0)
def ab (z : Int) : Nat := z.natAbs
theorem ng_nat (n : Nat) : ng (n : Int) = false := by unfold ng; simp
theorem ab_nat (n : Nat) : ab (n : Int) = n := by unfold ab; simp
theorem ng_neg (n : Nat) : ng (-(n : Int)) = decide (n ≠ 0) := by unfold ng; rw [Bool.eq_iff_iff]; simp; omega
theorem ab_neg (n : Nat) : ab (-(n : Int)) = n := by unfold ab; simp
theorem ng_zero_iff (z : Int) : ng z = true → ab z ≠ 0 := by unfold ng ab; simp; omega
/-- The number of a sign and a magnitude. -/
def zof (b : Bool) (n : Nat) : Int := if b then -(n : Int) else n
theorem zof_ng_ab (z : Int) : zof (ng z) (ab z) = z := by unfold zof ng ab; by_cases h : z < 0 <;> simp [h] <;> omega
theorem ng_zof (b : Bool) (n : Nat) : ng (zof b n) = (b && decide (n ≠ 0)) := by cases b <;> simp [zof, ng_nat, ng_neg]
theorem ab_zof (b : Bool) (n : Nat) : ab (zof b n) = n := by cases b <;> simp [zof, ab_nat, ab_neg]

/-- 'of', by value. -/
theorem of_z (b : Bool) (n : Nat) (hn : n < 2 ^ 256) (w : World) :
    Calls Tryz.prog 140 #[.bool b, .agg #[.int .u64 (dg (n) 0), .int .u64 (dg (n) 1), .int .u64 (dg (n) 2), .int .u64 (dg (n) 3)]] w fun e w' => e = .returned (.agg #[.bool (ng (zof b n)), .int .u64 (dg (ab (zof b n)) 0), .int .u64 (dg (ab (zof b n)) 1), .int .u64 (dg (ab (zof b n)) 2), .int .u64 (dg (ab (zof b n)) 3)]) ∧ Below w.heap.size w w' := by
  have h := of_any b n hn w
  rw [ng_zof, ab_zof]
  exact h

theorem mag_zero {n : Nat} (hn : n < 2 ^ 256) : (dg n 0 == 0 && (dg n 1 == 0 && (dg n 2 == 0 && dg n 3 == 0))) = decide (n = 0) := by
  rw [Bool.eq_iff_iff]
  simp only [Bool.and_eq_true, beq_iff_eq, decide_eq_true_eq]
  exact dg_eq_zero hn

set_option maxHeartbeats 400000 in
theorem check_ok (z : Int) (hz : ab z < 2 ^ 256) (w : World) :
    Calls Tryz.prog 108 #[.agg #[.bool (ng (z)), .int .u64 (dg (ab (z)) 0), .int .u64 (dg (ab (z)) 1), .int .u64 (dg (ab (z)) 2), .int .u64 (dg (ab (z)) 3)]] w fun e w' => e = .returned (.int .i64 0) ∧ Below w.heap.size w w' := by
  have h1 := mag_zero hz
  have h2 := ng_zero_iff z
  clear hz
  cases hs : ng z
  · clear h1 h2 hs
    go_enter Tryz.func108, Tryz.ntmps108
    go_wp2
    go_ret
    refine ⟨rfl, ?_⟩
    focus (repeat (first | (with_reducible exact Below.refl _ _) | (with_reducible assumption) | ((with_reducible refine Below.setCell ?_ ?_ _); rotate_left; (focus (first | omega | (simp; done) | (simp; omega)))) | ((with_reducible refine Below.alloc ?_ ?_ _); rotate_left; (focus (first | omega | (simp; done) | (simp; omega)))) | (with_reducible refine Below.drew ?_) | (refine below_on ?_ (by assumption))))
  · have h3 : (dg (ab z) 0 == 0 && (dg (ab z) 1 == 0 && (dg (ab z) 2 == 0 && dg (ab z) 3 == 0))) = false := by rw [h1]; simpa using h2 hs
    clear h1 h2 hs
    go_enter Tryz.func108, Tryz.ntmps108
    go_wp2
    go_ret
    refine ⟨rfl, ?_⟩
    focus (repeat (first | (with_reducible exact Below.refl _ _) | (with_reducible assumption) | ((with_reducible refine Below.setCell ?_ ?_ _); rotate_left; (focus (first | omega | (simp; done) | (simp; omega)))) | ((with_reducible refine Below.alloc ?_ ?_ _); rotate_left; (focus (first | omega | (simp; done) | (simp; omega)))) | (with_reducible refine Below.drew ?_) | (refine below_on ?_ (by assumption))))
set_option maxHeartbeats 400000 in
theorem check_bad (w : World) :
    Calls Tryz.prog 108 #[.agg #[.bool (true), .int .u64 (dg (0) 0), .int .u64 (dg (0) 1), .int .u64 (dg (0) 2), .int .u64 (dg (0) 3)]] w fun e w' => e = .returned (.int .i64 2) ∧ Below w.heap.size w w' := by
  simp only [dg_zero]
  go_enter Tryz.func108, Tryz.ntmps108
  go_wp2
  go_ret
  refine ⟨rfl, ?_⟩
  focus (repeat (first | (with_reducible exact Below.refl _ _) | (with_reducible assumption) | ((with_reducible refine Below.setCell ?_ ?_ _); rotate_left; (focus (first | omega | (simp; done) | (simp; omega)))) | ((with_reducible refine Below.alloc ?_ ?_ _); rotate_left; (focus (first | omega | (simp; done) | (simp; omega)))) | (with_reducible refine Below.drew ?_) | (refine below_on ?_ (by assumption))))

def SumPost (x y : Int) (w : World) (e : Ending) (w' : World) : Prop :=
  e = (if ab (x + y) < 2 ^ 256 then .returned (.agg #[.bool (ng (x + y)), .int .u64 (dg (ab (x + y)) 0), .int .u64 (dg (ab (x + y)) 1), .int .u64 (dg (ab (x + y)) 2), .int .u64 (dg (ab (x + y)) 3)]) else .panicked [{ v := .iface 31 (.int .i64 110), recovered := false }]) ∧ Below w.heap.size w w'
theorem sum_alike (x y : Int) (hs : ng x = ng y) : ab (x + y) = ab x + ab y ∧ zof (ng x) (ab x + ab y) = x + y := by
  unfold zof ng ab at *
  have h : (x < 0) ↔ (y < 0) := by simpa using hs
  by_cases h1 : x < 0
  · have h2 := h.1 h1
    simp [h1]; omega
  · have h2 : ¬ y < 0 := fun h3 => h1 (h.2 h3)
    simp [h1]; omega
theorem sum_apart (x y : Int) (hs : ng x ≠ ng y) : (ab y ≤ ab x → zof (ng x) (ab x - ab y) = x + y) ∧ (ab x < ab y → zof (ng y) (ab y - ab x) = x + y) ∧ (ab (x + y) ≤ ab x ∨ ab (x + y) ≤ ab y) := by
  unfold zof ng ab at *
  have h : ¬ ((x < 0) ↔ (y < 0)) := by simpa using hs
  by_cases h1 : x < 0
  · have h2 : ¬ y < 0 := fun h3 => h ⟨fun _ => h3, fun _ => h1⟩
    simp [h1, h2]; omega
  · have h2 : y < 0 := by
      rcases Int.lt_or_le y 0 with h3 | h3
      · exact h3
      · exact absurd ⟨fun h4 => absurd h4 h1, fun h4 => absurd h4 (by omega)⟩ h
    simp [h1, h2]; omega

end Go.Proofs.YtfchmikbebdflaaGreatDoor

namespace Go.Proofs.YtfchmikbebdflaaGreatDoor
open Go.RowKit Go.BigFrame

/-- A pair of a sign and a magnitude that may be. -/
def okP (p : Bool × Nat) : Prop := p.1 = true → p.2 ≠ 0
instance (p : Bool × Nat) : Decidable (okP p) := by unfold okP; infer_instance
/-- A row of Ints that is read. -/
def IntsAt (W : World) (A : Option Addr) (ps : List (Bool × Nat)) : Prop :=
  (∀ p ∈ ps, p.2 < 2 ^ 256) ∧ ps.length ≤ 28147497670246 ∧ (0 < ps.length → ∃ b off, A = some ⟨b, off, none⟩ ∧ ∀ j p, ps[j]? = some p → ∀ i, i < 5 → W.cell? ⟨b, off + j * 5 + i, none⟩ = (#[.bool (p.1), .int .u64 (dg (p.2) 0), .int .u64 (dg (p.2) 1), .int .u64 (dg (p.2) 2), .int .u64 (dg (p.2) 3)])[i]?)
theorem IntsAt.below {W W1 : World} {A : Option Addr} {ps : List (Bool × Nat)} (h : IntsAt W A ps) (hb : Below W.heap.size W W1) : IntsAt W1 A ps := by
  refine ⟨h.1, h.2.1, fun h0 => ?_⟩
  obtain ⟨b, off, e, hc⟩ := h.2.2 h0
  refine ⟨b, off, e, fun j p hj i hi => ?_⟩
  have h1 := hc j p hj i hi
  refine (hb.cell ?_).trans h1
  obtain ⟨v, hv⟩ : ∃ v, (#[.bool (p.1), .int .u64 (dg (p.2) 0), .int .u64 (dg (p.2) 1), .int .u64 (dg (p.2) 2), .int .u64 (dg (p.2) 3)] : Array Value)[i]? = some v := ⟨_, Array.getElem?_eq_getElem (by simpa using hi)⟩
  exact World.block_lt_of_cell? W ⟨b, off + j * 5 + i, none⟩ (h1.trans hv)

def errC (p : Bool × Nat) : Int := if okP p then 0 else 2
theorem check_any (p : Bool × Nat) (hp : p.2 < 2 ^ 256) (w : World) :
    Calls Tryz.prog 108 #[.agg #[.bool (p.1), .int .u64 (dg (p.2) 0), .int .u64 (dg (p.2) 1), .int .u64 (dg (p.2) 2), .int .u64 (dg (p.2) 3)]] w fun e w' => e = .returned (.int .i64 (errC p)) ∧ Below w.heap.size w w' := by
  obtain ⟨s, n⟩ := p
  by_cases h : okP (s, n)
  · have h1 : ng (zof s n) = s := by
      rw [ng_zof]
      cases s
      · rfl
      · simp [okP] at h; simp [h]
    have h2 := check_ok (zof s n) (by rw [ab_zof]; exact hp) w
    rw [h1, ab_zof] at h2
    unfold errC
    rw [if_pos h]
    exact h2
  · obtain ⟨rfl, rfl⟩ : s = true ∧ n = 0 := by simpa [okP] using h
    unfold errC
    rw [if_neg h]
    exact check_bad w

def RightPost (ps : List (Bool × Nat)) (w : World) (e : Ending) (w' : World) : Prop :=
  e = (if (∀ p ∈ ps, okP p) then .returned (.tuple #[]) else .panicked [{ v := .iface 31 (.int .i64 2), recovered := false }]) ∧ Below w.heap.size w w'
set_option maxHeartbeats 1000000 in
theorem right_any (A : Option Addr) (c : Nat) (ps : List (Bool × Nat)) (w : World) (hI : IntsAt w A ps) :
    Calls Tryz.prog 159 #[.slice A ps.length c] w (RightPost ps w) := by
  have hl := hI.2.1
  have HI := Hd.mk hI
  clear hI
  go_enter Tryz.func159, Tryz.ntmps159
  go_wp2
  go_loopw [3, 6] (fun _ ci wr => ∃ k : Nat, k ≤ ps.length ∧ ci = .int .i64 k ∧ (∀ j p, j < k → ps[j]? = some p → okP p) ∧ Below w.heap.size w wr) (fun _ ci _ => ps.length - (intOf ci).toNat)
  case atStart => exact ⟨0, by omega, rfl, fun j p hj => absurd hj (by omega), Below.refl _ _⟩
  case round =>
    obtain ⟨k, hk, rfl, hok, hB⟩ := hrel
    have hsz := hB.size
    by_cases hlt : k < ps.length
    · obtain ⟨h1, h2, h3⟩ := HI.out.below hB
      obtain ⟨b, off, hA, hc⟩ := h3 (by omega)
      obtain ⟨p, hp⟩ : ∃ p, ps[k]? = some p := ⟨_, List.getElem?_eq_getElem hlt⟩
      have hcc := hc k p hp
      subst hA
      have e0 : wr.cell? ⟨b, off + k * 5, none⟩ = some (.bool p.1) := hcc 0 (by omega)
      have e1 : wr.cell? ⟨b, off + k * 5 + 1, none⟩ = some (.int .u64 (dg p.2 0)) := hcc 1 (by omega)
      have e2 : wr.cell? ⟨b, off + k * 5 + 2, none⟩ = some (.int .u64 (dg p.2 1)) := hcc 2 (by omega)
      have e3 : wr.cell? ⟨b, off + k * 5 + 3, none⟩ = some (.int .u64 (dg p.2 2)) := hcc 3 (by omega)
      have e4 : wr.cell? ⟨b, off + k * 5 + 4, none⟩ = some (.int .u64 (dg p.2 3)) := hcc 4 (by omega)
      have HP := Hd.mk hp
      have HN := Hd.mk (h1 p (List.mem_of_getElem? hp))
      have HK := Hd.mk hok
      by_cases hgo : okP p
      · have HG := Hd.mk hgo
        have hE : errC p = 0 := by unfold errC; rw [if_pos hgo]
        have HE := Hd.mk hE
        clear hcc hc hp h3 h1 h2 hok hgo hE
        go_wp2_with fail
        refine (check_any p HN.out _).mono ?_
        rintro e w1 ⟨rfl, hb1⟩
        rw [HE.out]
        go_wp2_with (go_at_call 175; refine (must_ok _ _).mono ?_; rintro e w' ⟨rfl, rfl⟩)
        go_roundw
        case rel =>
          refine ⟨k + 1, by omega, by go_num, fun j q hj hq => ?_, ?_⟩
          · rcases Nat.lt_succ_iff_lt_or_eq.1 hj with h | h
            · exact HK.out j q h hq
            · subst h
              rw [HP.out] at hq
              injection hq with hq
              subst hq
              exact HG.out
          focus (repeat (first | (with_reducible exact Below.refl _ _) | (with_reducible assumption) | ((with_reducible refine Below.setCell ?_ ?_ _); rotate_left; (focus (first | omega | (simp; done) | (simp; omega)))) | ((with_reducible refine Below.alloc ?_ ?_ _); rotate_left; (focus (first | omega | (simp; done) | (simp; omega)))) | (with_reducible refine Below.drew ?_) | (refine below_on ?_ (by assumption))))
        case measure => simp [intOf]; omega
      · have HG := Hd.mk hgo
        have hE : errC p = 2 := by unfold errC; rw [if_neg hgo]
        have HE := Hd.mk hE
        clear hcc hc hp h3 h1 h2 hok hgo hE
        go_wp2_with fail
        refine (check_any p HN.out _).mono ?_
        rintro e w1 ⟨rfl, hb1⟩
        rw [HE.out]
        go_wp2_with (go_at_call 175; refine (must_no _ _).mono ?_; rintro e w' ⟨rfl, rfl⟩)
        refine ⟨rfl, ?_, ?_⟩
        · rw [if_neg fun h => HG.out (h p (List.mem_of_getElem? HP.out))]
        focus (repeat (first | (with_reducible exact Below.refl _ _) | (with_reducible assumption) | ((with_reducible refine Below.setCell ?_ ?_ _); rotate_left; (focus (first | omega | (simp; done) | (simp; omega)))) | ((with_reducible refine Below.alloc ?_ ?_ _); rotate_left; (focus (first | omega | (simp; done) | (simp; omega)))) | (with_reducible refine Below.drew ?_) | (refine below_on ?_ (by assumption))))
    · obtain rfl : k = ps.length := by omega
      have HK := Hd.mk hok
      clear hok
      go_wp2
      go_end0
      refine ⟨?_, hB⟩
      rw [if_pos]
      intro p hp
      obtain ⟨j, hj, he⟩ := List.mem_iff_getElem.1 hp
      exact HK.out j p hj (by rw [List.getElem?_eq_getElem hj, he])

theorem right_ok (A : Option Addr) (c : Nat) (ps : List (Bool × Nat)) (w : World) (hI : IntsAt w A ps) (h : ∀ p ∈ ps, okP p) :
    Calls Tryz.prog 159 #[.slice A ps.length c] w fun e w' => e = .returned (.tuple #[]) ∧ Below w.heap.size w w' :=
  (right_any A c ps w hI).mono fun e w' ⟨he, hw⟩ => ⟨by rw [he, if_pos h], hw⟩
theorem right_no (A : Option Addr) (c : Nat) (ps : List (Bool × Nat)) (w : World) (hI : IntsAt w A ps) (h : ¬ ∀ p ∈ ps, okP p) :
    Calls Tryz.prog 159 #[.slice A ps.length c] w fun e w' => e = .panicked [{ v := .iface 31 (.int .i64 2), recovered := false }] ∧ Below w.heap.size w w' :=
  (right_any A c ps w hI).mono fun e w' ⟨he, hw⟩ => ⟨by rw [he, if_neg h], hw⟩
/-- A row just made. -/
theorem ints_one {W : World} {b : Nat} {t : TypeId} {f : Nat × Nat} {p : Bool × Nat} (hp : p.2 < 2 ^ 256) (h : W.heap[b]? = some (.cells #[.bool (p.1), .int .u64 (dg (p.2) 0), .int .u64 (dg (p.2) 1), .int .u64 (dg (p.2) 2), .int .u64 (dg (p.2) 3)] t f)) : IntsAt W (some ⟨b, 0, none⟩) [p] := by
  refine ⟨by simpa using hp, by simp, fun _ => ⟨b, 0, rfl, fun j q hj i hi => ?_⟩⟩
  cases j with
  | zero =>
    obtain rfl : p = q := by simpa using hj
    rw [cell_at h]
    simp
  | succ j => simp at hj
theorem ints_two {W : World} {b : Nat} {t : TypeId} {f : Nat × Nat} {p q : Bool × Nat} (hp : p.2 < 2 ^ 256) (hq : q.2 < 2 ^ 256)
    (h : W.heap[b]? = some (.cells #[.bool p.1, .int .u64 (dg p.2 0), .int .u64 (dg p.2 1), .int .u64 (dg p.2 2), .int .u64 (dg p.2 3), .bool q.1, .int .u64 (dg q.2 0), .int .u64 (dg q.2 1), .int .u64 (dg q.2 2), .int .u64 (dg q.2 3)] t f)) :
    IntsAt W (some ⟨b, 0, none⟩) [p, q] := by
  refine ⟨by intro r hr; simp at hr; rcases hr with rfl | rfl <;> assumption, by simp, fun _ => ⟨b, 0, rfl, fun j r hj i hi => ?_⟩⟩
  rw [cell_at h]
  obtain rfl | rfl | rfl | rfl | rfl : i = 0 ∨ i = 1 ∨ i = 2 ∨ i = 3 ∨ i = 4 := by omega
  all_goals
    cases j with
    | zero =>
      obtain rfl : p = r := by simpa using hj
      simp
    | succ j =>
      cases j with
      | zero =>
        obtain rfl : q = r := by simpa using hj
        simp
      | succ j => simp at hj
end Go.Proofs.YtfchmikbebdflaaGreatDoor

namespace Go.Proofs.YtfchmikbebdflaaGreatDoor
open Go.RowKit Go.BigFrame

theorem assert_errno (xT : TypeId) (v : Value) (w : World) : (Instr.typeAssert (.iface 31 v) xT 31 false).run Tryz.prog w = .ok v w := by
  have h : Tryz.prog.underlying 31 = some (.int .i64) := by kernel_rfl
  simp [Instr.typeAssert, run_underlying h, go_sem, Result.andThen]

theorem caught_idle (p : Addr) (f : Value) (w : World) :
    CallsD Tryz.prog 157 #[.pointer (some p), f] .returning w fun e u' w' => e = .returned (.tuple #[]) ∧ u' = .returning ∧ w' = w := by
  refine callsD_of_wpS Tryz.func157 rfl fun c₀ cs hu => ?_
  apply wpS_seq
  apply wpS_region
  simp [wpOpsS, go_sem, recoverD, hu, Tryz.ntmps157, Exit.thenS]
  refine wpS_of_wp ?_
  go_wp2
  cases c₀
  simp_all [bodyPostS, results, Tryz.results157]

set_option maxRecDepth 4096 in
theorem caught_full (p : Addr) (x n : Int) (fn : FuncId) (cap : Array Value) (older : List PanicEntry) (w : World) (w2 : World → Prop) (hc : w.cell? p = some (.int .i64 x)) (hz : w.frozen? p = false)
    (hin : ∀ w, (callFunc fn cap).run Tryz.prog w = .ok (.enter fn cap) w) (hcl : Calls Tryz.prog fn cap (w.setCell p (.int .i64 n)) fun e w' => e = .returned (.tuple #[]) ∧ w2 w') :
    CallsD Tryz.prog 157 #[.pointer (some p), .func (.func fn) #[] cap] (.panicking ({ v := .iface 31 (.int .i64 n), recovered := false } :: older)) w fun e u' w' =>
      e = .returned (.tuple #[]) ∧ u' = .panicking ({ v := .iface 31 (.int .i64 n), recovered := true } :: older) ∧ w2 w' := by
  refine callsD_of_wpS Tryz.func157 rfl fun c₀ cs hu => ?_
  apply wpS_seq
  apply wpS_region
  simp [wpOpsS, go_sem, recoverD, hu, Tryz.ntmps157, Exit.thenS]
  refine wpS_of_wp ?_
  generalize HM : ({ v := .iface 31 (.int .i64 n), recovered := true } : PanicEntry) = pe
  have HA := fun v w => assert_errno v w
  go_wp2_with fail
  refine hcl.mono ?_
  rintro e w' ⟨rfl, h2⟩
  go_wp2
  cases c₀
  simp_all [bodyPostS, results, Tryz.results157]
end Go.Proofs.YtfchmikbebdflaaGreatDoor

namespace Go.Proofs.YtfchmikbebdflaaGreatDoor
open Go.RowKit Go.BigFrame

/-- Five cells of a block are laid. -/
def Laid (b : Nat) (v : Array Value) (W w' : World) : Prop :=
  (∀ {c : Array Value} {t : TypeId}, W.heap[b]? = some (.cells c t (0, 0)) → c.size = 5 → w'.heap[b]? = some (.cells v t (0, 0))) ∧ (∀ k o, k ≠ b → W.heap[k]? = some o → w'.heap[k]? = some o) ∧ ∀ n, n ≤ b → Below n W w'
theorem five_of {c : Array Value} (hs : c.size = 5) : ∃ c0 c1 c2 c3 c4, c = #[c0, c1, c2, c3, c4] := by
  obtain ⟨l⟩ := c
  match l, hs with
  | [a, b, c, d, e], _ => exact ⟨a, b, c, d, e, rfl⟩
theorem laid_five (b : Nat) (W : World) (v0 v1 v2 v3 v4 : Value) : Laid b #[v0, v1, v2, v3, v4] W (((((W.setCell ⟨b, 0, none⟩ v0).setCell ⟨b, 1, none⟩ v1).setCell ⟨b, 2, none⟩ v2).setCell ⟨b, 3, none⟩ v3).setCell ⟨b, 4, none⟩ v4) := by
  refine ⟨fun {c t} h hs => ?_, fun k o hk h => ?_, fun n hn => ?_⟩
  · obtain ⟨c0, c1, c2, c3, c4, rfl⟩ := five_of hs
    have := heap_set (heap_set (heap_set (heap_set (heap_set h 0 v0) 1 v1) 2 v2) 3 v3) 4 v4
    simpa using this
  · repeat (refine heap_set_other ?_ hk _)
    exact h
  · repeat (refine Below.setCell ?_ hn _)
    exact Below.refl _ _
/-- One cell of a block is laid. -/
def Laid1 (b : Nat) (v : Value) (W w' : World) : Prop :=
  (∀ {c : Array Value} {t : TypeId}, W.heap[b]? = some (.cells c t (0, 0)) → c.size = 1 → w'.heap[b]? = some (.cells #[v] t (0, 0))) ∧ (∀ k o, k ≠ b → W.heap[k]? = some o → w'.heap[k]? = some o) ∧ ∀ n, n ≤ b → Below n W w'
theorem laid_one (b : Nat) (W : World) (v : Value) : Laid1 b v W (W.setCell ⟨b, 0, none⟩ v) := by
  refine ⟨fun {c t} h hs => ?_, fun k o hk h => heap_set_other h hk _, fun n hn => Below.setCell (Below.refl _ _) hn _⟩
  obtain ⟨c0, rfl⟩ : ∃ c0, c = #[c0] := Array.size_eq_one_iff.1 hs
  simpa using heap_set h 0 v
theorem zero_cells : (#[.bool (ng (0)), .int .u64 (dg (ab (0)) 0), .int .u64 (dg (ab (0)) 1), .int .u64 (dg (ab (0)) 2), .int .u64 (dg (ab (0)) 3)] : Array Value) = #[.bool false, .int .u64 0, .int .u64 0, .int .u64 0, .int .u64 0] := by simp [ng, ab, dg]
theorem abs_leaves {P : Program} {fn : Func} {t : Array Value} {R : Ending → World → Prop} {ds : List Deferred} {u : FrameMode} {w : World} (I : World → Prop) (h0 : I w) (h : ∀ W, I W → Leaves P fn t R ds u W) : Leaves P fn t R ds u w := h w h0
/-- What two named results hold. -/
def OutAt (w : World) (b d : Nat) (z : Int) (n : Int) (W : World) : Prop :=
  W.heap[b]? = some (.cells #[.bool (ng (z)), .int .u64 (dg (ab (z)) 0), .int .u64 (dg (ab (z)) 1), .int .u64 (dg (ab (z)) 2), .int .u64 (dg (ab (z)) 3)] 89 (0, 0)) ∧ W.heap[d]? = some (.cells #[.int .i64 n] 31 (0, 0)) ∧ Below w.heap.size w W
theorem out_stored {w W : World} {b d : Nat} {z n : Int} {c e : Array Value} (hb : w.heap.size ≤ b) (hd : b < d) (h : W.heap[b]? = some (.cells c 89 (0, 0))) (k : W.heap[d]? = some (.cells e 31 (0, 0))) (hc : c.size = 5) (he : e.size = 1) (hB : Below w.heap.size w W) :
    OutAt w b d z n ((((((W.setCell ⟨b, 0, none⟩ (.bool (ng z))).setCell ⟨b, 1, none⟩ (.int .u64 (dg (ab z) 0))).setCell ⟨b, 2, none⟩ (.int .u64 (dg (ab z) 1))).setCell ⟨b, 3, none⟩ (.int .u64 (dg (ab z) 2))).setCell ⟨b, 4, none⟩ (.int .u64 (dg (ab z) 3))).setCell ⟨d, 0, none⟩ (.int .i64 n)) := by
  obtain ⟨l1, l2, l3⟩ := laid_five b W (.bool (ng z)) (.int .u64 (dg (ab z) 0)) (.int .u64 (dg (ab z) 1)) (.int .u64 (dg (ab z) 2)) (.int .u64 (dg (ab z) 3))
  obtain ⟨k1, k2, k3⟩ := laid_one d (((((W.setCell ⟨b, 0, none⟩ (.bool (ng z))).setCell ⟨b, 1, none⟩ (.int .u64 (dg (ab z) 0))).setCell ⟨b, 2, none⟩ (.int .u64 (dg (ab z) 1))).setCell ⟨b, 3, none⟩ (.int .u64 (dg (ab z) 2))).setCell ⟨b, 4, none⟩ (.int .u64 (dg (ab z) 3))) (.int .i64 n)
  exact ⟨k2 _ _ (by omega) (l1 h hc), k1 (l2 _ _ (by omega) k) he, hB.trans ((l3 _ hb).trans (k3 _ (by omega)))⟩
theorem out_cleared {w W W' : World} {b d : Nat} {n : Int} {c e : Array Value} (hb : w.heap.size ≤ b) (hd : b < d) (h : W.heap[b]? = some (.cells c 89 (0, 0))) (k : W.heap[d]? = some (.cells e 31 (0, 0))) (hc : c.size = 5) (he : e.size = 1) (hB : Below w.heap.size w W)
    (hL : Laid b (#[.bool (ng (0)), .int .u64 (dg (ab (0)) 0), .int .u64 (dg (ab (0)) 1), .int .u64 (dg (ab (0)) 2), .int .u64 (dg (ab (0)) 3)]) (W.setCell ⟨d, 0, none⟩ (.int .i64 n)) W') : OutAt w b d 0 n W' := by
  obtain ⟨k1, k2, k3⟩ := laid_one d W (.int .i64 n)
  exact ⟨hL.1 (k2 _ _ (by omega) h) hc, hL.2.1 _ _ (by omega) (k1 k he), hB.trans ((k3 _ (by omega)).trans (hL.2.2 _ hb))⟩
def negV (p : Bool × Nat) : Int := if okP p then -zof p.1 p.2 else 0
end Go.Proofs.YtfchmikbebdflaaGreatDoor

namespace Go.Proofs.YtfchmikbebdflaaGreatDoor
open Go.RowKit Go.BigFrame

theorem below_upw {n : Nat} {w S W1 : World} (hn : n ≤ w.heap.size) (h : Below n w S) (k : Below S.heap.size S W1) : Below n w W1 := h.trans (k.mono (Nat.le_trans hn h.size))
def LaidK (n b : Nat) (v : Array Value) (W w' : World) : Prop :=
  (∀ {c : Array Value} {t : TypeId}, W.heap[b]? = some (.cells c t (0, 0)) → c.size = n → w'.heap[b]? = some (.cells v t (0, 0))) ∧ (∀ k o, k ≠ b → W.heap[k]? = some o → w'.heap[k]? = some o) ∧ ∀ n, n ≤ b → Below n W w'
theorem laid_9 (b : Nat) (W : World) (v0 v1 v2 v3 v4 v5 v6 v7 v8 : Value) : LaidK 9 b #[v0, v1, v2, v3, v4, v5, v6, v7, v8] W (((((((((W.setCell ⟨b, 0, none⟩ v0).setCell ⟨b, 1, none⟩ v1).setCell ⟨b, 2, none⟩ v2).setCell ⟨b, 3, none⟩ v3).setCell ⟨b, 4, none⟩ v4).setCell ⟨b, 5, none⟩ v5).setCell ⟨b, 6, none⟩ v6).setCell ⟨b, 7, none⟩ v7).setCell ⟨b, 8, none⟩ v8) := by
  refine ⟨fun {c t} h hs => ?_, fun k o hk h => ?_, fun n hn => ?_⟩
  · obtain ⟨c0, c1, c2, c3, c4, c5, c6, c7, c8, rfl⟩ : ∃ c0 c1 c2 c3 c4 c5 c6 c7 c8, c = #[c0, c1, c2, c3, c4, c5, c6, c7, c8] := by
      obtain ⟨l⟩ := c
      match l, hs with
      | [c0, c1, c2, c3, c4, c5, c6, c7, c8], _ => exact ⟨c0, c1, c2, c3, c4, c5, c6, c7, c8, rfl⟩
    have := (heap_set (heap_set (heap_set (heap_set (heap_set (heap_set (heap_set (heap_set (heap_set h 0 v0) 1 v1) 2 v2) 3 v3) 4 v4) 5 v5) 6 v6) 7 v7) 8 v8)
    simpa using this
  · repeat (refine heap_set_other ?_ hk _)
    exact h
  · repeat (refine Below.setCell ?_ hn _)
    exact Below.refl _ _
theorem laid_10 (b : Nat) (W : World) (v0 v1 v2 v3 v4 v5 v6 v7 v8 v9 : Value) : LaidK 10 b #[v0, v1, v2, v3, v4, v5, v6, v7, v8, v9] W ((((((((((W.setCell ⟨b, 0, none⟩ v0).setCell ⟨b, 1, none⟩ v1).setCell ⟨b, 2, none⟩ v2).setCell ⟨b, 3, none⟩ v3).setCell ⟨b, 4, none⟩ v4).setCell ⟨b, 5, none⟩ v5).setCell ⟨b, 6, none⟩ v6).setCell ⟨b, 7, none⟩ v7).setCell ⟨b, 8, none⟩ v8).setCell ⟨b, 9, none⟩ v9) := by
  refine ⟨fun {c t} h hs => ?_, fun k o hk h => ?_, fun n hn => ?_⟩
  · obtain ⟨c0, c1, c2, c3, c4, c5, c6, c7, c8, c9, rfl⟩ : ∃ c0 c1 c2 c3 c4 c5 c6 c7 c8 c9, c = #[c0, c1, c2, c3, c4, c5, c6, c7, c8, c9] := by
      obtain ⟨l⟩ := c
      match l, hs with
      | [c0, c1, c2, c3, c4, c5, c6, c7, c8, c9], _ => exact ⟨c0, c1, c2, c3, c4, c5, c6, c7, c8, c9, rfl⟩
    have := (heap_set (heap_set (heap_set (heap_set (heap_set (heap_set (heap_set (heap_set (heap_set (heap_set h 0 v0) 1 v1) 2 v2) 3 v3) 4 v4) 5 v5) 6 v6) 7 v7) 8 v8) 9 v9)
    simpa using this
  · repeat (refine heap_set_other ?_ hk _)
    exact h
  · repeat (refine Below.setCell ?_ hn _)
    exact Below.refl _ _

set_option maxHeartbeats 1000000 in
theorem eq_nine {P : Program} (w : World) (d : Nat) {t e : TypeId} {i : TypeInfo} (hu : P.underlying t = some (.array 9 e)) (hi : P.info? e = some i) (hc : P.cellsOf e = 1) (he : P.underlying e = some (.int .u64)) (a0 a1 a2 a3 a4 a5 a6 a7 a8 b0 b1 b2 b3 b4 b5 b6 b7 b8 : Int) :
    (Op.equalIn (d + 2) t (.agg #[.int .u64 a0, .int .u64 a1, .int .u64 a2, .int .u64 a3, .int .u64 a4, .int .u64 a5, .int .u64 a6, .int .u64 a7, .int .u64 a8]) (.agg #[.int .u64 b0, .int .u64 b1, .int .u64 b2, .int .u64 b3, .int .u64 b4, .int .u64 b5, .int .u64 b6, .int .u64 b7, .int .u64 b8])).run P w = .ok (a0 == b0 && (a1 == b1 && (a2 == b2 && (a3 == b3 && (a4 == b4 && (a5 == b5 && (a6 == b6 && (a7 == b7 && (a8 == b8))))))))) w := by
  have hs : ∀ w : World, (sizeOf e).run P w = .ok 1 w := fun w => by rw [run_sizeOf w hi, hc]
  have hg : ∀ w : World, (isAgg e).run P w = .ok false w := fun w => by simp [isAgg, run_underlying he]
  have hp : ∀ (w : World) (xs : Array Value) (k : Nat) (v : Value), xs[k]? = some v → (part e xs k).run P w = .ok v w := fun w xs k v hv => by
    simp [part, hg, hv]
  rw [run_equalIn_array w (d + 1) _ _ hu hi, hc]
  simp only [List.range_succ, List.range_zero, List.nil_append, List.cons_append, Op.eqItems, Sem.run_bind]
  rw [hp w _ _ (.int .u64 a0) (by simp)]
  simp only [Result.andThen_ok]
  rw [hp w _ _ (.int .u64 b0) (by simp)]
  simp only [Result.andThen_ok]
  rw [run_equalIn_int w d e .u64 .u64 a0 b0 he]
  simp only [Result.andThen_ok]
  cases h0 : (a0 == b0)
  · simp
  simp only [Bool.not_true, Bool.false_eq_true, if_false, Sem.run_bind]
  rw [hp w _ _ (.int .u64 a1) (by simp)]
  simp only [Result.andThen_ok]
  rw [hp w _ _ (.int .u64 b1) (by simp)]
  simp only [Result.andThen_ok]
  rw [run_equalIn_int w d e .u64 .u64 a1 b1 he]
  simp only [Result.andThen_ok]
  cases h1 : (a1 == b1)
  · simp
  simp only [Bool.not_true, Bool.false_eq_true, if_false, Sem.run_bind]
  rw [hp w _ _ (.int .u64 a2) (by simp)]
  simp only [Result.andThen_ok]
  rw [hp w _ _ (.int .u64 b2) (by simp)]
  simp only [Result.andThen_ok]
  rw [run_equalIn_int w d e .u64 .u64 a2 b2 he]
  simp only [Result.andThen_ok]
  cases h2 : (a2 == b2)
  · simp
  simp only [Bool.not_true, Bool.false_eq_true, if_false, Sem.run_bind]
  rw [hp w _ _ (.int .u64 a3) (by simp)]
  simp only [Result.andThen_ok]
  rw [hp w _ _ (.int .u64 b3) (by simp)]
  simp only [Result.andThen_ok]
  rw [run_equalIn_int w d e .u64 .u64 a3 b3 he]
  simp only [Result.andThen_ok]
  cases h3 : (a3 == b3)
  · simp
  simp only [Bool.not_true, Bool.false_eq_true, if_false, Sem.run_bind]
  rw [hp w _ _ (.int .u64 a4) (by simp)]
  simp only [Result.andThen_ok]
  rw [hp w _ _ (.int .u64 b4) (by simp)]
  simp only [Result.andThen_ok]
  rw [run_equalIn_int w d e .u64 .u64 a4 b4 he]
  simp only [Result.andThen_ok]
  cases h4 : (a4 == b4)
  · simp
  simp only [Bool.not_true, Bool.false_eq_true, if_false, Sem.run_bind]
  rw [hp w _ _ (.int .u64 a5) (by simp)]
  simp only [Result.andThen_ok]
  rw [hp w _ _ (.int .u64 b5) (by simp)]
  simp only [Result.andThen_ok]
  rw [run_equalIn_int w d e .u64 .u64 a5 b5 he]
  simp only [Result.andThen_ok]
  cases h5 : (a5 == b5)
  · simp
  simp only [Bool.not_true, Bool.false_eq_true, if_false, Sem.run_bind]
  rw [hp w _ _ (.int .u64 a6) (by simp)]
  simp only [Result.andThen_ok]
  rw [hp w _ _ (.int .u64 b6) (by simp)]
  simp only [Result.andThen_ok]
  rw [run_equalIn_int w d e .u64 .u64 a6 b6 he]
  simp only [Result.andThen_ok]
  cases h6 : (a6 == b6)
  · simp
  simp only [Bool.not_true, Bool.false_eq_true, if_false, Sem.run_bind]
  rw [hp w _ _ (.int .u64 a7) (by simp)]
  simp only [Result.andThen_ok]
  rw [hp w _ _ (.int .u64 b7) (by simp)]
  simp only [Result.andThen_ok]
  rw [run_equalIn_int w d e .u64 .u64 a7 b7 he]
  simp only [Result.andThen_ok]
  cases h7 : (a7 == b7)
  · simp
  simp only [Bool.not_true, Bool.false_eq_true, if_false, Sem.run_bind]
  rw [hp w _ _ (.int .u64 a8) (by simp)]
  simp only [Result.andThen_ok]
  rw [hp w _ _ (.int .u64 b8) (by simp)]
  simp only [Result.andThen_ok]
  rw [run_equalIn_int w d e .u64 .u64 a8 b8 he]
  simp only [Result.andThen_ok]
  cases h8 : (a8 == b8)
  · simp
  simp
theorem infoU64 : ∃ i, Tryz.prog.info? 86 = some i := by
  cases h : Tryz.prog.info? 86 with
  | some i => exact ⟨i, rfl⟩
  | none => exact absurd h (by
      have h1 : (Tryz.prog.info? 86).isSome = true := by kernel_rfl
      intro h2
      rw [h2] at h1
      cases h1)
end Go.Proofs.YtfchmikbebdflaaGreatDoor

namespace Go.Proofs.YtfchmikbebdflaaGreatDoor
open Go.RowKit Go.BigFrame

/-- must, where it is so. -/
theorem seg_must_ok (x : Int) (w : World) :
    Calls Tryz.prog 80 #[.bool true, .int .i64 x] w fun e w' => e = .returned (.tuple #[]) ∧ w' = w := by
  go_enter Tryz.func80, Tryz.ntmps80
  go_wp2
  go_end0
  exact ⟨rfl, rfl⟩
/-- must, where it is not so. -/
theorem seg_must_no (x : Int) (w : World) :
    Calls Tryz.prog 80 #[.bool false, .int .i64 x] w fun e w' => e = .panicked [{ v := .iface 31 (.int .i64 x), recovered := false }] ∧ w' = w := by
  go_enter Tryz.func80, Tryz.ntmps80
  go_wp2
  exact ⟨rfl, rfl, rfl⟩

theorem seg_caught_idle (p : Addr) (f : Value) (w : World) :
    CallsD Tryz.prog 77 #[.pointer (some p), f] .returning w fun e u' w' => e = .returned (.tuple #[]) ∧ u' = .returning ∧ w' = w := by
  refine callsD_of_wpS Tryz.func77 rfl fun c₀ cs hu => ?_
  apply wpS_seq
  apply wpS_region
  simp [wpOpsS, go_sem, recoverD, hu, Tryz.ntmps77, Exit.thenS]
  refine wpS_of_wp ?_
  go_wp2
  cases c₀
  simp_all [bodyPostS, results, Tryz.results77]

set_option maxRecDepth 4096 in
theorem seg_caught_full (p : Addr) (x n : Int) (fn : FuncId) (cap : Array Value) (older : List PanicEntry) (w : World) (w2 : World → Prop) (hc : w.cell? p = some (.int .i64 x)) (hz : w.frozen? p = false)
    (hin : ∀ w, (callFunc fn cap).run Tryz.prog w = .ok (.enter fn cap) w) (hcl : Calls Tryz.prog fn cap (w.setCell p (.int .i64 n)) fun e w' => e = .returned (.tuple #[]) ∧ w2 w') :
    CallsD Tryz.prog 77 #[.pointer (some p), .func (.func fn) #[] cap] (.panicking ({ v := .iface 31 (.int .i64 n), recovered := false } :: older)) w fun e u' w' =>
      e = .returned (.tuple #[]) ∧ u' = .panicking ({ v := .iface 31 (.int .i64 n), recovered := true } :: older) ∧ w2 w' := by
  refine callsD_of_wpS Tryz.func77 rfl fun c₀ cs hu => ?_
  apply wpS_seq
  apply wpS_region
  simp [wpOpsS, go_sem, recoverD, hu, Tryz.ntmps77, Exit.thenS]
  refine wpS_of_wp ?_
  generalize HM : ({ v := .iface 31 (.int .i64 n), recovered := true } : PanicEntry) = pe
  have HA := fun v w => assert_errno v w
  go_wp2_with fail
  refine hcl.mono ?_
  rintro e w' ⟨rfl, h2⟩
  go_wp2
  cases c₀
  simp_all [bodyPostS, results, Tryz.results77]
end Go.Proofs.YtfchmikbebdflaaGreatDoor
