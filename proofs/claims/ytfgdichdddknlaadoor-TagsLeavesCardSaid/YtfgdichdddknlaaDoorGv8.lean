/-
  The law package of tags: the chapter's rows are so. Conditions stand in each theorem.
-/
import Derived.Test.YtfgdichdddknlaaDoorGv3
import Derived.Test.YtfgdichdddknlaaDoorGv7
namespace Go.Proofs.YtfgdichdddknlaaDoor
open Go.RowKit Go.BigFrame Go.Shelf

theorem nums_row {W : World} {b : Nat} {t : TypeId} {l : List Int} (h : W.heap[b]? = some (.cells (numsC l).toArray t (0, 0))) : NumsIn W (some ⟨b, 0, none⟩) l := fun _ =>
  ⟨b, 0, rfl, fun j x hj => by
    rw [Nat.zero_add, cell_at h]
    unfold numsC
    simp [hj]⟩
theorem tw_new1 (A : Option Addr) (c : Nat) (w : World) (hN : NumsIn w A [3, 1, 3]) : Calls Tryd.prog 5 #[.slice A 3 c] w fun e w' => ∃ A' c', e = .returned (.tuple #[.agg #[.slice A' 2 c'], .int .i64 0]) ∧ CtsIn w' A' [(1, 1), (3, 2)] ∧ Below w.heap.size w w' := by
  have h := tg_new [3, 1, 3] (by decide) A c w hN
  have h0 : ∀ x ∈ [(3 : Int), 1, 3], rightB x = true := by simp [rightB]
  have e1 : newV [3, 1, 3] = [(1, 1), (3, 2)] := by unfold newV; rw [if_pos h0]; decide
  have e2 : newE [3, 1, 3] = 0 := by unfold newE; rw [if_pos h0]
  unfold NewPost at h
  rw [e1, e2] at h
  exact h
theorem tw_new2 (A : Option Addr) (c : Nat) (w : World) (hN : NumsIn w A [0]) : Calls Tryd.prog 5 #[.slice A 1 c] w fun e w' => ∃ A' c', e = .returned (.tuple #[.agg #[.slice A' 0 c'], .int .i64 2]) ∧ Below w.heap.size w w' := by
  have h := tg_new [0] (by decide) A c w hN
  have h0 : ¬ ∀ x ∈ [(0 : Int)], rightB x = true := fun h => absurd (h 0 (by simp)) (by decide)
  have e1 : newV [0] = [] := by unfold newV; rw [if_neg h0]
  have e2 : newE [0] = 2 := by unfold newE; rw [if_neg h0]
  unfold NewPost at h
  rw [e1, e2] at h
  refine h.mono ?_
  rintro e w' ⟨A', c', rfl, _, hb⟩
  exact ⟨A', c', rfl, hb⟩
theorem tw_new3 (A : Option Addr) (c : Nat) (w : World) (hN : NumsIn w A [1]) : Calls Tryd.prog 5 #[.slice A 1 c] w fun e w' => ∃ A' c', e = .returned (.tuple #[.agg #[.slice A' 1 c'], .int .i64 0]) ∧ CtsIn w' A' [(1, 1)] ∧ Below w.heap.size w w' := by
  have h := tg_new [1] (by decide) A c w hN
  have h0 : ∀ x ∈ [(1 : Int)], rightB x = true := by simp [rightB]
  have e1 : newV [1] = [(1, 1)] := by unfold newV; rw [if_pos h0]; decide
  have e2 : newE [1] = 0 := by unfold newE; rw [if_pos h0]
  unfold NewPost at h
  rw [e1, e2] at h
  exact h
theorem tw_less (A : Option Addr) (c : Nat) (w : World) (hN : CtsIn w A [(1, 1)]) : Calls Tryd.prog 9 #[.agg #[.slice A 1 c], .int .i64 2] w fun e w' => ∃ A' c', e = .returned (.tuple #[.agg #[.slice A' 0 c'], .int .i64 5]) ∧ Below w.heap.size w w' := by
  refine (tl_less A c w hN).mono ?_
  rintro e w' ⟨A', c', rfl, _, hb⟩
  exact ⟨A', c', rfl, hb⟩
theorem tw_back (w : World) (hV : VarsT w) : Calls Tryd.prog 10 #[.string ⟨#[50, 32, 49]⟩] w fun e w' => ∃ A' c', e = .returned (.tuple #[.agg #[.slice A' 0 c'], .int .i64 200]) ∧ Below w.heap.size w w' := by
  refine (tp_back w hV).mono ?_
  rintro e w' ⟨A', c', rfl, _, hb⟩
  exact ⟨A', c', rfl, hb⟩
theorem tw_none (w : World) : Calls Tryd.prog 10 #[.string ⟨#[]⟩] w fun e w' => ∃ A' c', e = .returned (.tuple #[.agg #[.slice A' 0 c'], .int .i64 0]) ∧ Below w.heap.size w w' := by
  refine (tp_none w).mono ?_
  rintro e w' ⟨A', c', rfl, _, hb⟩
  exact ⟨A', c', rfl, hb⟩
theorem tw_text (A : Option Addr) (c : Nat) (w : World) (hN : CtsIn w A [(1, 1), (3, 2)]) : Calls Tryd.prog 11 #[.agg #[.slice A 2 c]] w fun e w' => e = .returned (.string ⟨#[49, 32, 51, 32, 51]⟩) ∧ Below w.heap.size w w' := by
  have h := tg_text [(1, 1), (3, 2)] (by decide) (by decide) (fun pre hp => by
    have h1 : pre = [] ∨ pre = [(1, 1)] ∨ pre = [(1, 1), (3, 2)] := by
      rw [List.prefix_cons_iff] at hp
      rcases hp with rfl | ⟨t, rfl, hp⟩
      · exact .inl rfl
      · rw [List.prefix_cons_iff] at hp
        rcases hp with rfl | ⟨t, rfl, hp⟩
        · exact .inr (.inl rfl)
        · rw [List.prefix_nil] at hp
          subst hp
          exact .inr (.inr rfl)
    rcases h1 with rfl | rfl | rfl <;> decide) (by decide) (by rw [show (Lib.join (strsT [(1, 1), (3, 2)]) [32]).length = 5 by kernel_rfl]; decide) A c w hN
  rw [show bsT (Lib.join (strsT [(1, 1), (3, 2)]) [32]) = ⟨#[49, 32, 51, 32, 51]⟩ by kernel_rfl] at h
  exact h
theorem tw_odd (A : Option Addr) (c : Nat) (w : World) (hN : CtsIn w A [(1, 1), (3, 2)]) : Calls Tryd.prog 15 #[.agg #[.slice A 2 c]] w fun e w' => ∃ A' c', e = .returned (.slice A' 1 c') ∧ NumsIn w' A' [1] ∧ Below w.heap.size w w' := by
  have h := tg_odd [(1, 1), (3, 2)] (by decide) (by decide) A c w hN
  rw [show oddK [(1, 1), (3, 2)] = [1] by decide] at h
  exact h
end Go.Proofs.YtfgdichdddknlaaDoor
