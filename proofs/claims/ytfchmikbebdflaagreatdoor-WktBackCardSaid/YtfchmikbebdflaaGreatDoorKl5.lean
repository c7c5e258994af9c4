/-
  wkt.Same of the same shapes; the law WktBack. Conditions stand in each theorem.
-/
import Derived.Test.YtfchmikbebdflaaGreatDoorKl4
namespace Go.Proofs.YtfchmikbebdflaaGreatDoor
open Go.RowKit Go.BigFrame Go.Shelf

theorem shV_mk (is : Bool) (g0 g1 g2 g3 : Int) (Ls : List (List Nd)) (A : Option Addr) (c : Nat) : shV ⟨is, ((g0, g1), (g2, g3)), Ls⟩ A c = #[.bool is, .int .i64 g0, .int .i64 g1, .int .i64 g2, .int .i64 g3, .slice A Ls.length c] := rfl
set_option maxRecDepth 100000 in
set_option maxHeartbeats 4000000 in
/-- Same, of the same shapes that may be. -/
theorem wsame_eq (is : Bool) (g0 g1 g2 g3 : Int) (Ls : List (List Nd)) (h : checkV ⟨is, ((g0, g1), (g2, g3)), Ls⟩ = 0) (A A' : Option Addr) (c c' : Nat) (w : World) (hV : Vars w) (hR : RingsIn w A Ls) (hR' : RingsIn w A' Ls) :
    Calls Tryz.prog 18 #[.agg #[.bool is, .int .i64 g0, .int .i64 g1, .int .i64 g2, .int .i64 g3, .slice A Ls.length c], .agg #[.bool is, .int .i64 g0, .int .i64 g1, .int .i64 g2, .int .i64 g3, .slice A' Ls.length c']] w fun e w' => e = .returned (.bool true) ∧ Below w.heap.size w w' := by
  have HV := Hd.mk hV
  have HT : Hd (∀ B d W, Vars W → RingsIn W B Ls → Calls Tryz.prog 8 #[.agg #[.bool is, .int .i64 g0, .int .i64 g1, .int .i64 g2, .int .i64 g3, .slice B Ls.length d]] W fun e w' => e = .returned (.tuple #[.string (bs (textL ⟨is, ((g0, g1), (g2, g3)), Ls⟩)), .int .i64 0]) ∧ Below W.heap.size W w') := ⟨fun B d W hv hr => wtext_any _ h B d W hv hr⟩
  generalize bs (textL ⟨is, ((g0, g1), (g2, g3)), Ls⟩) = T at HT
  clear h hV
  go_enter Tryz.func18, Tryz.ntmps18
  go_upto_region 1 with (fail)
  refine abs_wp (fun W => W.heap[w.heap.size]? = some (.cells #[.bool is, .int .i64 g0, .int .i64 g1, .int .i64 g2, .int .i64 g3, .slice A Ls.length c] 29 (0, 0)) ∧ W.heap[w.heap.size + 1]? = some (.cells #[.bool is, .int .i64 g0, .int .i64 g1, .int .i64 g2, .int .i64 g3, .slice A' Ls.length c'] 29 (0, 0)) ∧ Below w.heap.size w W) ⟨heap_old (heap_new _ _) _, heap_at (by simp) _, below_two w _ _⟩ fun W0 ⟨z0, z1, hB⟩ => ?_
  have c0 := cell_at z0
  go_wp2_with fail
  refine (HT.out A c _ (HV.out.below hB) (hR.below hB)).mono ?_
  rintro e w1 ⟨rfl, hb⟩
  have hB1 := below_on hB hb
  have y1 := heap_below hb z1
  clear hb hB z0 z1 c0
  have c1 := cell_at y1
  go_wp2_with fail
  refine (HT.out A' c' _ (HV.out.below hB1) (hR'.below hB1)).mono ?_
  rintro e w2 ⟨rfl, hb⟩
  have hB2 := below_on hB1 hb
  clear hb hB1 y1 c1
  go_wp2
  go_ret
  exact ⟨rfl, hB2⟩
set_option maxRecDepth 100000 in
set_option maxHeartbeats 8000000 in
/-- The law WktBack. -/
theorem wktback_any (is : Bool) (g0 g1 g2 g3 : Int) (Ls : List (List Nd)) (hl : (Ls.length : Int) ≤ 9223372036854775807) (A : Option Addr) (c : Nat) (s : ByteArray) (hs : (s.size : Int) ≤ 9223372036854775807) (w : World) (hV : Vars w) (hR : RingsIn w A Ls) :
    Calls Tryz.prog 6 #[.agg #[.bool is, .int .i64 g0, .int .i64 g1, .int .i64 g2, .int .i64 g3, .slice A Ls.length c], .string s] w fun e w' => e = .returned (.bool true) ∧ Below w.heap.size w w' := by
  have HV := Hd.mk hV
  have HR := Hd.mk hR
  have HF : Hd (∀ W, Below w.heap.size w W → Calls Tryz.prog 17 #[.agg #[.bool is, .int .i64 g0, .int .i64 g1, .int .i64 g2, .int .i64 g3, .slice A Ls.length c]] W fun e w' => ∃ b, e = .returned (.bool b) ∧ (b = true ↔ Few Ls) ∧ Below W.heap.size W w') := ⟨fun W hB => few_any is g0 g1 g2 g3 Ls hl A c W (hR.below hB)⟩
  clear hV hR
  have hlen : ∀ W : World, (Builtin.len_ #[9] 3 #[.string s]).run Tryz.prog W = .ok (.int .i64 s.size) W := fun W => by simp [go_sem, Builtin.len_]
  go_enter Tryz.func6, Tryz.ntmps6
  go_upto_region 1 with (fail)
  refine abs_wp (fun W => W.heap[w.heap.size]? = some (.cells #[.bool is, .int .i64 g0, .int .i64 g1, .int .i64 g2, .int .i64 g3, .slice A Ls.length c] 29 (0, 0)) ∧ Below w.heap.size w W) ⟨heap_new _ _, (Below.refl _ _).alloc (Nat.le_refl _) _⟩ fun W0 ⟨z0, hB⟩ => ?_
  have c0 := cell_at z0
  by_cases hfew : ¬ Few Ls ∨ 600 < s.size
  · go_wp2_with fail
    refine (HF.out _ hB).mono ?_
    rintro e w1 ⟨b, rfl, hb1, hb⟩
    have hB1 := below_on hB hb
    clear hb hB z0 c0
    cases b with
    | false =>
      go_wp2_with fail
      refine (wkt_works _ (HV.out.below hB1)).mono ?_
      rintro e w2 ⟨rfl, hb⟩
      have hB2 := below_on hB1 hb
      go_wp2
      go_ret
      exact ⟨rfl, hB2⟩
    | true =>
      have hsz : 600 < s.size := by
        rcases hfew with h | h
        · exact absurd (hb1.1 rfl) h
        · exact h
      have hd : decide ((600 : Int) < (s.size : Int)) = true := by simp; omega
      go_wp2_with fail
      refine (wkt_works _ (HV.out.below hB1)).mono ?_
      rintro e w2 ⟨rfl, hb⟩
      have hB2 := below_on hB1 hb
      go_wp2
      go_ret
      exact ⟨rfl, hB2⟩
  · obtain ⟨hfw, hsz⟩ : Few Ls ∧ s.size ≤ 600 := ⟨Classical.byContradiction fun h => hfew (.inl h), Nat.not_lt.1 fun h => hfew (.inr h)⟩
    have hsl : s.data.toList.length ≤ 600 := by
      have : s.size = s.data.toList.length := (Array.length_toList (xs := s.data)).symm
      omega
    have HP : Hd (∀ W, Vars W → Calls Tryz.prog 9 #[.string s] W fun e w' => PaPost W (parseS s.data.toList).1 (parseS s.data.toList).2 e w') := ⟨fun W h => by
      have h1 := wparse_any s.data.toList (by omega) W h
      rw [← bs_self s] at h1
      exact h1⟩
    have HB : Hd ((parseS s.data.toList).2 = 0 → checkV (parseS s.data.toList).1 = 0 ∧ bs (textL (parseS s.data.toList).1) = s) := ⟨fun h => by
      have h1 := wparse_back (t := s.data.toList) (s := (parseS s.data.toList).1) (by rw [← h])
      rw [h1.2]
      exact ⟨h1.1, (bs_self s).symm⟩⟩
    generalize (parseS s.data.toList).2 = N at HP HB
    generalize (parseS s.data.toList).1 = S at HP HB
    obtain ⟨js, ⟨⟨h0, h1⟩, ⟨h2, h3⟩⟩, Ms⟩ := S
    have hd : decide ((600 : Int) < (s.size : Int)) = false := by simp; omega
    go_wp2_with fail
    refine (HF.out _ hB).mono ?_
    rintro e w1 ⟨b, rfl, hb1, hb⟩
    have hB1 := below_on hB hb
    have z1 := heap_below hb z0
    clear hb hB z0 c0
    obtain rfl : b = true := hb1.2 hfw
    clear hb1 hfew
    go_wp2_with fail
    refine (HP.out _ (HV.out.below hB1)).mono ?_
    rintro e w2 ⟨A1, c1, rfl, hR2, hb⟩
    have hB2 := below_on hB1 hb
    have v0 := heap_old (heap_below hb z1) (.cells #[.bool js, .int .i64 h0, .int .i64 h1, .int .i64 h2, .int .i64 h3, .slice A1 Ms.length c1] 29)
    have v1 := heap_new w2 (.cells #[.bool js, .int .i64 h0, .int .i64 h1, .int .i64 h2, .int .i64 h3, .slice A1 Ms.length c1] 29)
    have hBa := hB2.alloc hB2.size (.cells #[.bool js, .int .i64 h0, .int .i64 h1, .int .i64 h2, .int .i64 h3, .slice A1 Ms.length c1] 29)
    have hRa := hR2.below ((Below.refl _ _).alloc (Nat.le_refl _) (.cells #[.bool js, .int .i64 h0, .int .i64 h1, .int .i64 h2, .int .i64 h3, .slice A1 Ms.length c1] 29))
    clear hb hB1 z1 hB2 hR2
    unfold shV
    by_cases hN : N = 0
    · subst hN
      obtain ⟨hc1, ht1⟩ := HB.out rfl
      have HT1 : Hd (∀ W, Vars W → RingsIn W A1 Ms → Calls Tryz.prog 8 #[.agg #[.bool js, .int .i64 h0, .int .i64 h1, .int .i64 h2, .int .i64 h3, .slice A1 Ms.length c1]] W fun e w' => e = .returned (.tuple #[.string s, .int .i64 0]) ∧ Below W.heap.size W w') := ⟨fun W hv hr => by
        have h5 := wtext_any ⟨js, ((h0, h1), (h2, h3)), Ms⟩ hc1 A1 c1 W hv hr
        rw [ht1] at h5
        exact h5⟩
      clear hc1 ht1 HB
      have d1 := cell_at v1
      have HV0 := Hd.mk v0
      clear v0 v1
      go_wp2_with fail
      refine (numw_any _ _).mono ?_
      rintro e w7 ⟨rfl, rfl⟩
      go_wp2_with fail
      refine (HT1.out _ (HV.out.below hBa) hRa).mono ?_
      rintro e w3 ⟨rfl, hb⟩
      have hB3 := below_on hBa hb
      have HY0 := Hd.mk (heap_below hb HV0.out)
      have c0 := cell_at HY0.out
      clear hb hBa d1 hRa
      go_wp2_with fail
      refine (numw_any _ _).mono ?_
      rintro e w7 ⟨rfl, rfl⟩
      go_wp2_with fail
      have hR3 := HR.out.below hB3
      by_cases hck : checkV ⟨is, ((g0, g1), (g2, g3)), Ls⟩ = 0
      · have HTX : Hd (∀ W, Vars W → RingsIn W A Ls → Calls Tryz.prog 8 #[.agg #[.bool is, .int .i64 g0, .int .i64 g1, .int .i64 g2, .int .i64 g3, .slice A Ls.length c]] W fun e w' => e = .returned (.tuple #[.string (bs (textL ⟨is, ((g0, g1), (g2, g3)), Ls⟩)), .int .i64 0]) ∧ Below W.heap.size W w') := ⟨fun W hv hr => wtext_any _ hck A c W hv hr⟩
        have HPX : Hd (∀ W, Vars W → Calls Tryz.prog 9 #[.string (bs (textL ⟨is, ((g0, g1), (g2, g3)), Ls⟩))] W fun e w' => PaPost W ⟨is, ((g0, g1), (g2, g3)), Ls⟩ 0 e w') := ⟨fun W hv => by
          have hlen := few_text hck hfw
          have h1 := wparse_any (textL ⟨is, ((g0, g1), (g2, g3)), Ls⟩) (by omega) W hv
          rw [wparse_text hck (by omega)] at h1
          exact h1⟩
        have HCK := Hd.mk hck
        generalize bs (textL ⟨is, ((g0, g1), (g2, g3)), Ls⟩) = T at HTX HPX
        clear hck
        refine (HTX.out _ (HV.out.below hB3) hR3).mono ?_
        rintro e w4 ⟨rfl, hb⟩
        have hB4 := below_on hB3 hb
        have x0 := heap_below hb HY0.out
        clear hb hB3 c0 hR3
        have HX0 := Hd.mk x0
        clear x0
        go_wp2_with fail
        refine (numw_any _ _).mono ?_
        rintro e w7 ⟨rfl, rfl⟩
        go_wp2_with fail
        refine (HPX.out _ (HV.out.below hB4)).mono ?_
        rintro e w5 ⟨A2, c2, rfl, hR5, hb⟩
        have hB5 := below_on hB4 hb
        have u0 := heap_old (heap_below hb HX0.out) (.cells #[.bool is, .int .i64 g0, .int .i64 g1, .int .i64 g2, .int .i64 g3, .slice A2 Ls.length c2] 29)
        have u1 := heap_new w5 (.cells #[.bool is, .int .i64 g0, .int .i64 g1, .int .i64 g2, .int .i64 g3, .slice A2 Ls.length c2] 29)
        have hB6 := hB5.alloc hB5.size (.cells #[.bool is, .int .i64 g0, .int .i64 g1, .int .i64 g2, .int .i64 g3, .slice A2 Ls.length c2] 29)
        have hR6 := hR5.below ((Below.refl _ _).alloc (Nat.le_refl _) (.cells #[.bool is, .int .i64 g0, .int .i64 g1, .int .i64 g2, .int .i64 g3, .slice A2 Ls.length c2] 29))
        have d0 := cell_at u0
        have d1 := cell_at u1
        clear hb hB4 hB5 hR5 u0 u1
        unfold shV
        go_wp2_with fail
        refine (numw_any _ _).mono ?_
        rintro e w7 ⟨rfl, rfl⟩
        go_wp2_with fail
        refine (wsame_eq is g0 g1 g2 g3 Ls HCK.out A2 A c2 c _ (HV.out.below hB6) hR6 (HR.out.below hB6)).mono ?_
        rintro e w8 ⟨rfl, hb⟩
        have hB8 := below_on hB6 hb
        clear hb hB6 hR6 d0 d1
        go_wp2_with fail
        refine (wkt_works _ (HV.out.below hB8)).mono ?_
        rintro e w9 ⟨rfl, hb⟩
        have hB9 := below_on hB8 hb
        go_wp2
        go_ret
        exact ⟨rfl, hB9⟩
      · have HTX : Hd (∀ W, RingsIn W A Ls → Calls Tryz.prog 8 #[.agg #[.bool is, .int .i64 g0, .int .i64 g1, .int .i64 g2, .int .i64 g3, .slice A Ls.length c]] W fun e w' => e = .returned (.tuple #[.string ⟨#[]⟩, .int .i64 (checkV ⟨is, ((g0, g1), (g2, g3)), Ls⟩)]) ∧ Below W.heap.size W w') := ⟨fun W hr => by
          have ht := Few.total hfw.1
          have hl := hfw.2
          exact wtext_no _ _ rfl hck A c W hr (by simp only; omega) (by simp only; omega)⟩
        generalize checkV ⟨is, ((g0, g1), (g2, g3)), Ls⟩ = E at HTX hck
        have hne : (E != 0) = true := by simpa using hck
        refine (HTX.out _ hR3).mono ?_
        rintro e w4 ⟨rfl, hb⟩
        have hB4 := below_on hB3 hb
        clear hb hB3 c0 hR3
        go_wp2_with fail
        refine (numw_any _ _).mono ?_
        rintro e w7 ⟨rfl, rfl⟩
        go_wp2_with fail
        refine (wkt_works _ (HV.out.below hB4)).mono ?_
        rintro e w9 ⟨rfl, hb⟩
        have hB9 := below_on hB4 hb
        go_wp2
        go_ret
        exact ⟨rfl, hB9⟩
    · have hne : (N == 0) = false := by simpa using hN
      have hB3 := hBa
      have HY0 := Hd.mk v0
      have c0 := cell_at v0
      clear hBa v0 v1 hRa
      go_wp2_with fail
      refine (numw_any _ _).mono ?_
      rintro e w7 ⟨rfl, rfl⟩
      go_wp2_with fail
      have hR3 := HR.out.below hB3
      by_cases hck : checkV ⟨is, ((g0, g1), (g2, g3)), Ls⟩ = 0
      · have HTX : Hd (∀ W, Vars W → RingsIn W A Ls → Calls Tryz.prog 8 #[.agg #[.bool is, .int .i64 g0, .int .i64 g1, .int .i64 g2, .int .i64 g3, .slice A Ls.length c]] W fun e w' => e = .returned (.tuple #[.string (bs (textL ⟨is, ((g0, g1), (g2, g3)), Ls⟩)), .int .i64 0]) ∧ Below W.heap.size W w') := ⟨fun W hv hr => wtext_any _ hck A c W hv hr⟩
        have HPX : Hd (∀ W, Vars W → Calls Tryz.prog 9 #[.string (bs (textL ⟨is, ((g0, g1), (g2, g3)), Ls⟩))] W fun e w' => PaPost W ⟨is, ((g0, g1), (g2, g3)), Ls⟩ 0 e w') := ⟨fun W hv => by
          have hlen := few_text hck hfw
          have h1 := wparse_any (textL ⟨is, ((g0, g1), (g2, g3)), Ls⟩) (by omega) W hv
          rw [wparse_text hck (by omega)] at h1
          exact h1⟩
        have HCK := Hd.mk hck
        generalize bs (textL ⟨is, ((g0, g1), (g2, g3)), Ls⟩) = T at HTX HPX
        clear hck
        refine (HTX.out _ (HV.out.below hB3) hR3).mono ?_
        rintro e w4 ⟨rfl, hb⟩
        have hB4 := below_on hB3 hb
        have x0 := heap_below hb HY0.out
        clear hb hB3 c0 hR3
        have HX0 := Hd.mk x0
        clear x0
        go_wp2_with fail
        refine (numw_any _ _).mono ?_
        rintro e w7 ⟨rfl, rfl⟩
        go_wp2_with fail
        refine (HPX.out _ (HV.out.below hB4)).mono ?_
        rintro e w5 ⟨A2, c2, rfl, hR5, hb⟩
        have hB5 := below_on hB4 hb
        have u0 := heap_old (heap_below hb HX0.out) (.cells #[.bool is, .int .i64 g0, .int .i64 g1, .int .i64 g2, .int .i64 g3, .slice A2 Ls.length c2] 29)
        have u1 := heap_new w5 (.cells #[.bool is, .int .i64 g0, .int .i64 g1, .int .i64 g2, .int .i64 g3, .slice A2 Ls.length c2] 29)
        have hB6 := hB5.alloc hB5.size (.cells #[.bool is, .int .i64 g0, .int .i64 g1, .int .i64 g2, .int .i64 g3, .slice A2 Ls.length c2] 29)
        have hR6 := hR5.below ((Below.refl _ _).alloc (Nat.le_refl _) (.cells #[.bool is, .int .i64 g0, .int .i64 g1, .int .i64 g2, .int .i64 g3, .slice A2 Ls.length c2] 29))
        have d0 := cell_at u0
        have d1 := cell_at u1
        clear hb hB4 hB5 hR5 u0 u1
        unfold shV
        go_wp2_with fail
        refine (numw_any _ _).mono ?_
        rintro e w7 ⟨rfl, rfl⟩
        go_wp2_with fail
        refine (wsame_eq is g0 g1 g2 g3 Ls HCK.out A2 A c2 c _ (HV.out.below hB6) hR6 (HR.out.below hB6)).mono ?_
        rintro e w8 ⟨rfl, hb⟩
        have hB8 := below_on hB6 hb
        clear hb hB6 hR6 d0 d1
        go_wp2_with fail
        refine (wkt_works _ (HV.out.below hB8)).mono ?_
        rintro e w9 ⟨rfl, hb⟩
        have hB9 := below_on hB8 hb
        go_wp2
        go_ret
        exact ⟨rfl, hB9⟩
      · have HTX : Hd (∀ W, RingsIn W A Ls → Calls Tryz.prog 8 #[.agg #[.bool is, .int .i64 g0, .int .i64 g1, .int .i64 g2, .int .i64 g3, .slice A Ls.length c]] W fun e w' => e = .returned (.tuple #[.string ⟨#[]⟩, .int .i64 (checkV ⟨is, ((g0, g1), (g2, g3)), Ls⟩)]) ∧ Below W.heap.size W w') := ⟨fun W hr => by
          have ht := Few.total hfw.1
          have hl := hfw.2
          exact wtext_no _ _ rfl hck A c W hr (by simp only; omega) (by simp only; omega)⟩
        generalize checkV ⟨is, ((g0, g1), (g2, g3)), Ls⟩ = E at HTX hck
        have hne : (E != 0) = true := by simpa using hck
        refine (HTX.out _ hR3).mono ?_
        rintro e w4 ⟨rfl, hb⟩
        have hB4 := below_on hB3 hb
        clear hb hB3 c0 hR3
        go_wp2_with fail
        refine (numw_any _ _).mono ?_
        rintro e w7 ⟨rfl, rfl⟩
        go_wp2_with fail
        refine (wkt_works _ (HV.out.below hB4)).mono ?_
        rintro e w9 ⟨rfl, hb⟩
        have hB9 := below_on hB4 hb
        go_wp2
        go_ret
        exact ⟨rfl, hB9⟩
end Go.Proofs.YtfchmikbebdflaaGreatDoor
