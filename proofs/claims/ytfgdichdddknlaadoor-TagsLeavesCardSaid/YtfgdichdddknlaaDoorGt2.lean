/-
  Tags: rows of counts; the place of a number. Conditions stand in each theorem.
-/
import Derived.ArgAppend
import Derived.Test.YtfgdichdddknlaaDoorBk
import Derived.Test.YtfgdichdddknlaaDoorGt1
import Derived.Test.YtfgdichdddknlaaDoorLm24
namespace Go.Proofs.YtfgdichdddknlaaDoor
open Go.RowKit Go.BigFrame

/-- A row of counts that is read. -/
def CtsIn (W : World) (A : Option Addr) (L : List Ct) : Prop := 0 < L.length → ∃ b off, A = some ⟨b, off, none⟩ ∧ ∀ j c, L[j]? = some c → W.cell? ⟨b, off + j * 2, none⟩ = some (.int .i64 c.1) ∧ W.cell? ⟨b, off + j * 2 + 1, none⟩ = some (.int .i64 c.2)
theorem CtsIn.below {W W' : World} {A : Option Addr} {l : List Ct} (h : CtsIn W A l) (hb : Below W.heap.size W W') : CtsIn W' A l := fun h0 => by
  obtain ⟨b, off, e, hc⟩ := h h0
  exact ⟨b, off, e, fun j p hj => ⟨(hb.cell (World.block_lt_of_cell? W ⟨b, off + j * 2, none⟩ (hc j p hj).1)).trans (hc j p hj).1, (hb.cell (World.block_lt_of_cell? W ⟨b, off + j * 2 + 1, none⟩ (hc j p hj).2)).trans (hc j p hj).2⟩⟩
set_option maxHeartbeats 1000000 in
theorem tg_isnan (x : Int) (w : World) : Calls Tryd.prog 51 #[.int .i64 x] w fun e w' => e = .returned (.bool false) ∧ w' = w := by
  go_enter Tryd.func51, Tryd.ntmps51
  go_wp2
  go_ret
  exact ⟨rfl, rfl⟩
def cmpT (x y : Int) : Int := if x < y then -1 else if y < x then 1 else 0
set_option maxHeartbeats 1000000 in
theorem tg_compare (x y : Int) (w : World) : Calls Tryd.prog 41 #[.int .i64 x, .int .i64 y] w fun e w' => e = .returned (.int .i64 (cmpT x y)) ∧ w' = w := by
  have HE := Hd.mk (show cmpT x y = (if x < y then -1 else if y < x then 1 else 0) from rfl)
  generalize cmpT x y = r at HE ⊢
  by_cases h1 : x < y
  · have hd1 : decide (x < y) = true := decide_eq_true h1
    have HE2 : Hd (r = -1) := ⟨by rw [HE.out, if_pos h1]⟩
    clear HE
    go_enter Tryd.func41, Tryd.ntmps41
    go_wp2_with (go_at_call 51; refine (tg_isnan _ _).mono ?_; rintro e w4 ⟨rfl, rfl⟩)
    go_ret
    exact ⟨by rw [HE2.out]; rfl, rfl⟩
  · have hd1 : decide (x < y) = false := decide_eq_false h1
    by_cases h2 : y < x
    · have hd2 : decide (y < x) = true := decide_eq_true h2
      have HE2 : Hd (r = 1) := ⟨by rw [HE.out, if_neg h1, if_pos h2]⟩
      clear HE
      go_enter Tryd.func41, Tryd.ntmps41
      go_wp2_with (go_at_call 51; refine (tg_isnan _ _).mono ?_; rintro e w4 ⟨rfl, rfl⟩)
      go_ret
      exact ⟨by rw [HE2.out]; rfl, rfl⟩
    · have hd2 : decide (y < x) = false := decide_eq_false h2
      have HE2 : Hd (r = 0) := ⟨by rw [HE.out, if_neg h1, if_neg h2]⟩
      clear HE
      go_enter Tryd.func41, Tryd.ntmps41
      go_wp2_with (go_at_call 51; refine (tg_isnan _ _).mono ?_; rintro e w4 ⟨rfl, rfl⟩)
      go_ret
      exact ⟨by rw [HE2.out]; rfl, rfl⟩
set_option maxHeartbeats 1000000 in
theorem tg_findc (k m n : Int) (w : World) : Calls Tryd.prog 40 #[.agg #[.int .i64 k, .int .i64 m], .int .i64 n] w fun e w' => e = .returned (.int .i64 (cmpT k n)) ∧ Below w.heap.size w w' := by
  go_enter Tryd.func40, Tryd.ntmps40
  go_wp2_with fail
  refine (tg_compare _ _ _).mono ?_
  rintro e w1 ⟨rfl, rfl⟩
  go_wp2
  go_ret
  exact ⟨rfl, (Below.refl _ _).alloc (Nat.le_refl _) _⟩
/-- Is the number there? -/
def isAt (L : List Ct) (n : Int) (i : Nat) : Bool := match L[i]? with
  | some c => decide (c.1 = n)
  | none => false
theorem isAt_some {L : List Ct} {n : Int} {i : Nat} (h : isAt L n i = true) : ∃ m, L[i]? = some (n, m) := by
  unfold isAt at h
  split at h
  · rename_i c hc
    obtain ⟨k, m⟩ := c
    obtain rfl : k = n := by simpa using h
    exact ⟨m, hc⟩
  · cases h
theorem isAt_none {L : List Ct} {n : Int} {i : Nat} (h : isAt L n i = false) : ∀ m, L[i]? ≠ some (n, m) := fun m e => by
  unfold isAt at h
  rw [e] at h
  simp at h
theorem isAt_is {L : List Ct} {n k m : Int} {i : Nat} (h : L[i]? = some (k, m)) : isAt L n i = decide (k = n) := by
  unfold isAt
  rw [h]
theorem isAt_end {L : List Ct} {n : Int} : isAt L n L.length = false := by
  unfold isAt
  rw [List.getElem?_eq_none (Nat.le_refl _)]
theorem cmpT_lt (x y : Int) : decide (cmpT x y < 0) = decide (x < y) := by
  unfold cmpT
  split
  · rename_i h; simp [h]
  · rename_i h
    split <;> simp [h]
theorem cmpT_eq (x y : Int) : (cmpT x y == 0) = decide (x = y) := by
  unfold cmpT
  split
  · rename_i h
    have : ¬ x = y := by omega
    simp [this]
  · rename_i h
    split
    · have : ¬ x = y := by omega
      simp [this]
    · have : x = y := by omega
      simp [this]
set_option maxRecDepth 100000 in
set_option maxHeartbeats 2000000 in
/-- The search for a number's place. -/
theorem tg_search (L : List Ct) (n : Int) (A : Option Addr) (c : Nat) (hr : Rise (keys L)) (hl : L.length ≤ 1000) (w : World) (hN : CtsIn w A L) :
    Calls Tryd.prog 39 #[.slice A L.length c, .int .i64 n, .func (.func 40) #[] #[]] w fun e w' => ∃ i, Place L n i ∧ e = .returned (.tuple #[.int .i64 (i : Nat), .bool (isAt L n i)]) ∧ Below w.heap.size w w' := by
  have HN := Hd.mk hN
  have HR := Hd.mk hr
  clear hN hr
  go_enter Tryd.func39, Tryd.ntmps39
  go_wp2
  go_loopw [9, 10] (fun iv jv wr => ∃ i j : Nat, iv = .int .i64 i ∧ jv = .int .i64 j ∧ i ≤ j ∧ j ≤ L.length ∧ Hd (∀ (k : Nat) c, L[k]? = some c → k < i → c.1 < n) ∧ Hd (∀ (k : Nat) c, L[k]? = some c → j ≤ k → n ≤ c.1) ∧ Below w.heap.size w wr) (fun iv jv _ => (intOf jv).toNat - (intOf iv).toNat)
  case atStart => exact ⟨0, L.length, rfl, rfl, Nat.zero_le _, Nat.le_refl _, ⟨fun k c _ h => by omega⟩, ⟨fun k c hc h => by have := (List.getElem?_eq_some_iff.1 hc).1; omega⟩, Below.refl _ _⟩
  case round =>
    obtain ⟨i, j, rfl, rfl, hij, hj, HI, HJ, hB⟩ := hrel
    by_cases hlt : i < j
    · have hd1 : decide ((i : Int) < (j : Int)) = true := by simp; omega
      have hd2 : decide (i < j) = true := by simp; omega
      obtain ⟨h, hh⟩ : ∃ h : Nat, h = (i + j) / 2 := ⟨_, rfl⟩
      have e2 : ((i : Int) + (j : Int)) / 2 = (h : Int) := by omega
      have hhi : i ≤ h := by omega
      have hhj : h < j := by omega
      have hhL : h < L.length := by omega
      obtain ⟨⟨k, m⟩, hk⟩ : ∃ p, L[h]? = some p := ⟨_, List.getElem?_eq_getElem hhL⟩
      obtain ⟨b, off, rfl, hcc⟩ := HN.out.below hB (by omega)
      have q1 := (hcc h _ hk).1
      have q2 := (hcc h _ hk).2
      simp only at q1 q2
      have HKK := Hd.mk hk
      clear hcc hk hh
      go_wp2_with fail
      refine (tg_findc k m n _).mono ?_
      rintro e w1 ⟨rfl, hb⟩
      have hB1 := below_on hB hb
      have hc := cmpT_lt k n
      clear hb q1 q2
      by_cases hkn : k < n
      · rw [decide_eq_true hkn] at hc
        have HI2 : Hd (∀ (q : Nat) c, L[q]? = some c → q < h + 1 → c.1 < n) := ⟨fun q c hq hl2 => by
          rcases Nat.lt_or_ge q h with h1 | h1
          · have := rise_lt HR.out hq HKK.out h1
            simp only at this
            omega
          · obtain rfl : q = h := by omega
            rw [HKK.out] at hq
            obtain rfl : (k, m) = c := Option.some.inj hq
            exact hkn⟩
        clear hkn
        go_wp2
        go_roundw
        case rel => exact ⟨h + 1, j, by go_num, rfl, by omega, hj, HI2, HJ, hB1⟩
        case measure => simp [intOf]; omega
      · rw [decide_eq_false hkn] at hc
        have HJ2 : Hd (∀ (q : Nat) c, L[q]? = some c → h ≤ q → n ≤ c.1) := ⟨fun q c hq hl2 => by
          rcases Nat.lt_or_ge h q with h1 | h1
          · have := rise_lt HR.out HKK.out hq h1
            simp only at this
            omega
          · obtain rfl : q = h := by omega
            rw [HKK.out] at hq
            obtain rfl : (k, m) = c := Option.some.inj hq
            show n ≤ k
            omega⟩
        clear hkn
        go_wp2
        go_roundw
        case rel => exact ⟨i, h, rfl, rfl, hhi, by omega, HI, HJ2, hB1⟩
        case measure => simp [intOf]; omega
    · obtain rfl : i = j := by omega
      have hd1 : decide ((i : Int) < (i : Int)) = false := by simp
      have HP : Hd (Place L n i) := ⟨⟨hj, HI.out, HJ.out⟩⟩
      by_cases hend : i < L.length
      · obtain ⟨⟨k, m⟩, hk⟩ : ∃ p, L[i]? = some p := ⟨_, List.getElem?_eq_getElem hend⟩
        obtain ⟨b, off, rfl, hcc⟩ := HN.out.below hB (by omega)
        have q1 := (hcc i _ hk).1
        have q2 := (hcc i _ hk).2
        simp only at q1 q2
        have hd2 : decide ((i : Int) < (L.length : Int)) = true := by simp; omega
        have hd3 : decide (i < L.length) = true := by simp; omega
        have HA := Hd.mk (isAt_is (n := n) hk)
        have hc := cmpT_eq k n
        clear hcc hk
        go_wp2_with fail
        refine (tg_findc k m n _).mono ?_
        rintro e w1 ⟨rfl, hb⟩
        have hB1 := below_on hB hb
        clear hb q1 q2
        go_wp2
        go_ret2
        exact ⟨i, HP.out, by rw [HA.out]; rfl, hB1⟩
      · obtain rfl : i = L.length := by omega
        have hd2 : decide ((L.length : Int) < (L.length : Int)) = false := by simp
        have HA := Hd.mk (isAt_end (L := L) (n := n))
        go_wp2
        go_ret2
        exact ⟨L.length, HP.out, by rw [HA.out]; rfl, hB⟩
end Go.Proofs.YtfgdichdddknlaaDoor
