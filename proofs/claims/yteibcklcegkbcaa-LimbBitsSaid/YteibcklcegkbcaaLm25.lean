/-
  Walks: Parse's closure, slices.IndexFunc and ContainsFunc with it. Conditions stand in each theorem.
-/
import Derived.Test.YteibcklcegkbcaaLm24
namespace Go.Proofs.Yteibcklcegkbcaa
open Go.RowKit Go.BigFrame

/-- Is a byte a digit? -/
def isDig (c : Int) : Bool := decide (48 ≤ c) && decide (c ≤ 57)
theorem odd_any (c : Int) (w : World) :
    Calls Try.prog 60 #[.int .u8 c] w fun e w' => e = .returned (.bool (!isDig c)) ∧ w' = w := by
  by_cases h1 : c < 48
  · have hr : isDig c = false := by unfold isDig; simp; omega
    rw [hr]
    clear hr
    go_enter Try.func60, Try.ntmps60
    go_wp2
    go_ret
    exact ⟨rfl, rfl⟩
  · by_cases h2 : 57 < c
    · have hr : isDig c = false := by unfold isDig; simp; omega
      rw [hr]
      clear hr
      go_enter Try.func60, Try.ntmps60
      go_wp2
      go_ret
      exact ⟨rfl, rfl⟩
    · have hr : isDig c = true := by unfold isDig; simp; omega
      rw [hr]
      clear hr
      go_enter Try.func60, Try.ntmps60
      go_wp2
      go_ret
      exact ⟨rfl, rfl⟩
/-- Bytes that are read. -/
def BytesAt (W : World) (b off : Nat) (l : List Int) : Prop := l.length ≤ 1000000 ∧ ∀ k c, l[k]? = some c → W.cell? ⟨b, off + k, none⟩ = some (.int .u8 c)
def IndexPost (l : List Int) (W : World) (e : Ending) (w' : World) : Prop := ∃ r : Int, e = .returned (.int .i64 r) ∧ w' = W ∧ (r ≥ 0 ↔ l.all isDig = false)
set_option maxHeartbeats 1000000 in
theorem index_any (b off cap : Nat) (l : List Int) (W : World) (h : BytesAt W b off l) :
    Calls Try.prog 77 #[.slice (some ⟨b, off, none⟩) l.length cap, .func (.func 60) #[] #[]] W (IndexPost l W) := by
  have hl := h.1
  have HC := Hd.mk h.2
  clear h
  go_enter Try.func77, Try.ntmps77
  go_wp2
  go_loopw [8] (fun ci wr => ∃ k : Nat, k ≤ l.length ∧ ci = .int .i64 k ∧ (∀ j c, j < k → l[j]? = some c → isDig c = true) ∧ wr = W) (fun ci _ => l.length - (intOf ci).toNat)
  case atStart => exact ⟨0, by omega, rfl, fun j c hj => absurd hj (by omega), rfl⟩
  case round =>
    obtain ⟨k, hk, rfl, hok, rfl⟩ := hrel
    have HK := Hd.mk hok
    clear hok
    by_cases hlt : k < l.length
    · obtain ⟨c, hc⟩ : ∃ c, l[k]? = some c := ⟨_, List.getElem?_eq_getElem hlt⟩
      have e0 := HC.out k c hc
      have HL := Hd.mk hc
      have hkn : (k : Int) < l.length := by omega
      clear hc
      cases hd : isDig c
      · have HD := Hd.mk hd
        clear hd
        go_wp2_with fail
        refine (odd_any c _).mono ?_
        rw [HD.out]
        rintro e w' ⟨rfl, rfl⟩
        go_wp2
        go_ret
        refine ⟨k, rfl, rfl, ⟨fun _ => ?_, fun _ => by omega⟩⟩
        rw [List.all_eq_false]
        exact ⟨c, List.mem_of_getElem? HL.out, by rw [HD.out]; simp⟩
      · have HD := Hd.mk hd
        clear hd
        go_wp2_with fail
        refine (odd_any c _).mono ?_
        rw [HD.out]
        rintro e w' ⟨rfl, rfl⟩
        go_wp2
        go_roundw
        case rel =>
          refine ⟨k + 1, by omega, by go_num, fun j q hj hq => ?_, trivial⟩
          rcases Nat.lt_succ_iff_lt_or_eq.1 hj with h | h
          · exact HK.out j q h hq
          · subst h
            rw [HL.out] at hq
            injection hq with hq
            subst hq
            exact HD.out
        case measure => simp [intOf]; omega
    · obtain rfl : k = l.length := by omega
      go_wp2
      go_ret
      refine ⟨-1, rfl, rfl, ⟨fun h => absurd h (by omega), fun h => ?_⟩⟩
      rw [List.all_eq_false] at h
      obtain ⟨c, h1, h2⟩ := h
      obtain ⟨j, hj, rfl⟩ := List.mem_iff_getElem.1 h1
      exact absurd (HK.out j _ hj (List.getElem?_eq_getElem hj)) h2
theorem contains_any (b off cap : Nat) (l : List Int) (W : World) (h : BytesAt W b off l) :
    Calls Try.prog 59 #[.slice (some ⟨b, off, none⟩) l.length cap, .func (.func 60) #[] #[]] W fun e w' => e = .returned (.bool (!l.all isDig)) ∧ w' = W := by
  have HH := Hd.mk h
  clear h
  go_enter Try.func59, Try.ntmps59
  go_wp2_with fail
  refine (index_any b off cap l _ HH.out).mono ?_
  rintro e w' ⟨r, rfl, rfl, hr⟩
  cases ha : l.all isDig
  · have h2 : decide (0 ≤ r) = true := by have := hr.2 ha; simpa using this
    have HA := Hd.mk ha
    clear hr ha
    go_wp2
    go_ret
    exact ⟨by rw [HA.out]; rfl, rfl⟩
  · have h2 : decide (0 ≤ r) = false := decide_eq_false fun h => by rw [hr.1 h] at ha; cases ha
    have HA := Hd.mk ha
    clear hr ha
    go_wp2
    go_ret
    exact ⟨by rw [HA.out]; rfl, rfl⟩
end Go.Proofs.Yteibcklcegkbcaa
