/-
  Multi, of any multipolygon that is short. Conditions stand in each theorem.
-/
import Derived.Test.YtfchmikbebdflaaGreatDoorKl2
import Derived.Test.YtfchmikbebdflaaGreatDoorKu6
namespace Go.Proofs.YtfchmikbebdflaaGreatDoor
open Go.RowKit Go.BigFrame Go.Shelf

/-- A ring's text; which ring may be. -/
def ringT (l : List Pq) : Bs := 40 :: (Lib.join ((l ++ l.take 1).map ptL) [44] ++ [41])
def ringOkP (l : List Pq) : Prop := 3 ≤ l.length ∧ ∀ x ∈ l, okX x
/-- A part's text; which part may be. -/
def partT (L : List (List Pq)) : Bs := 40 :: (Lib.join (L.map ringT) [44] ++ [41])
def partOkP (L : List (List Pq)) : Prop := L ≠ [] ∧ ∀ l ∈ L, ringOkP l
/-- Rows that are as short as the law lets in. -/
def ShortR (l : List Pq) : Prop := l.length ≤ 12 ∧ ∀ x ∈ l, ltX x
def ShortP (L : List (List Pq)) : Prop := L.length ≤ 5 ∧ ∀ l ∈ L, ShortR l
theorem ringT_len {l : List Pq} (h : ShortR l) : (ringT l).length ≤ 5000 := by
  have h1 := join_le (B := 319) (ps := (l ++ l.take 1).map ptL) (fun p hp => by
    obtain ⟨q, hq, rfl⟩ := List.mem_map.1 hp
    rcases List.mem_append.1 hq with h2 | h2
    · exact ptL_len (h.2 q h2)
    · exact ptL_len (h.2 q (List.mem_of_mem_take h2)))
  rw [List.length_map, List.length_append, List.length_take] at h1
  have h3 := h.1
  unfold ringT
  rw [List.length_cons, List.length_append, List.length_singleton]
  omega
theorem partT_len {L : List (List Pq)} (h : ShortP L) : (partT L).length ≤ 30000 := by
  have h1 := join_le (B := 5000) (ps := L.map ringT) (fun p hp => by
    obtain ⟨q, hq, rfl⟩ := List.mem_map.1 hp
    exact ringT_len (h.2 q hq))
  rw [List.length_map] at h1
  have h3 := h.1
  unfold partT
  rw [List.length_cons, List.length_append, List.length_singleton]
  omega
/-- Parts and their rings, in memory. -/
def PartIn (W : World) (v : Value) (L : List (List Pq)) : Prop := ∃ A c vs, v = .slice A L.length c ∧ CellsIn W A vs ∧ vs.length = L.length ∧ ∀ (j : Nat) v l, vs[j]? = some v → L[j]? = some l → RingP W v l
theorem PartIn.below {W W' : World} {v : Value} {L : List (List Pq)} (h : PartIn W v L) (hb : Below W.heap.size W W') : PartIn W' v L := by
  obtain ⟨A, c, vs, e, h1, h2, h3⟩ := h
  exact ⟨A, c, vs, e, h1.below hb, h2, fun j v l hv hl => (h3 j v l hv hl).below hb⟩
def MultiIn (W : World) (A : Option Addr) (M : List (List (List Pq))) : Prop := ∃ vs, CellsIn W A vs ∧ vs.length = M.length ∧ ∀ (j : Nat) v L, vs[j]? = some v → M[j]? = some L → PartIn W v L
theorem MultiIn.below {W W' : World} {A : Option Addr} {M : List (List (List Pq))} (h : MultiIn W A M) (hb : Below W.heap.size W W') : MultiIn W' A M := by
  obtain ⟨vs, h1, h2, h3⟩ := h
  exact ⟨vs, h1.below hb, h2, fun j v l hv hl => (h3 j v l hv hl).below hb⟩
def atF : Value := .func (.func 43) #[] #[]
def roundF (b : Nat) : Value := .func (.func 45) #[] #[.pointer (some ⟨b, 0, none⟩)]
/-- What a text's closure answers. -/
def TextPost (good : Prop) (t : Bs) (W : World) (e : Ending) (w' : World) : Prop := (good → e = .returned (.string (bs t))) ∧ (¬ good → e = GiveUp 2) ∧ Below W.heap.size W w'
set_option maxRecDepth 100000 in
set_option maxHeartbeats 4000000 in
theorem round_any (v : Value) (l : List Pq) (h : ShortR l) (b : Nat) (w : World) (hb : w.cell? ⟨b, 0, none⟩ = some atF) (hN : RingP w v l) :
    Calls Tryz.prog 45 #[v, .pointer (some ⟨b, 0, none⟩)] w (TextPost (ringOkP l) (ringT l) w) := by
  obtain ⟨hl, hlt⟩ := h
  obtain ⟨A, c, rfl, hc, _, hnd⟩ := hN
  have HB := Hd.mk hb
  unfold TextPost
  unfold GiveUp
  unfold atF at HB
  by_cases h3 : 3 ≤ l.length
  · have hd1 : decide ((3 : Int) ≤ (l.length : Int)) = true := by simp; omega
    have HC : Hd (∀ W, Below w.heap.size w W → Calls Tryz.prog 47 #[.slice A l.length c] W fun e w' => ∃ A' c', e = .returned (.slice A' (l ++ l.take 1).length c') ∧ PqsIn w' A' (l ++ l.take 1) ∧ Below W.heap.size W w') := ⟨fun W hB => closed_pqs A c l (by omega) (by omega) hc W (hnd.below hB)⟩
    have hne : l ++ l.take 1 ≠ [] := fun e => by have := congrArg List.length e; rw [List.length_append, List.length_nil] at this; omega
    have hlm : (l ++ l.take 1).length ≤ 9000 := by rw [List.length_append, List.length_take]; omega
    have hltm : ∀ x ∈ l ++ l.take 1, ltX x := fun x hx => by
      rcases List.mem_append.1 hx with h | h
      · exact hlt x h
      · exact hlt x (List.mem_of_mem_take h)
    have hall : (∀ x ∈ l ++ l.take 1, okX x) ↔ ∀ x ∈ l, okX x := ⟨fun h x hx => h x (List.mem_append_left _ hx), fun h x hx => by
      rcases List.mem_append.1 hx with h4 | h4
      · exact h x h4
      · exact h x (List.mem_of_mem_take h4)⟩
    have HJ : Hd (∀ A' c' W, PqsIn W A' (l ++ l.take 1) → Calls Tryz.prog 46 #[.slice A' (l ++ l.take 1).length c', .func (.func 43) #[] #[]] W (JoinPost (∀ x ∈ l ++ l.take 1, okX x) (ringT l) W)) := ⟨fun A' c' W hn => joined_pqs A' c' (l ++ l.take 1) hne hlm hltm W hn⟩
    by_cases hok : ∀ x ∈ l, okX x
    · have HG : Hd (ringOkP l) := ⟨⟨h3, hok⟩⟩
      have HJ2 : Hd (∀ A' c' W, PqsIn W A' (l ++ l.take 1) → Calls Tryz.prog 46 #[.slice A' (l ++ l.take 1).length c', .func (.func 43) #[] #[]] W fun e w' => e = .returned (.string (bs (ringT l))) ∧ Below W.heap.size W w') := ⟨fun A' c' W hn => (HJ.out A' c' W hn).mono fun e w' h => ⟨h.1 (hall.2 hok), h.2.2⟩⟩
      clear hb hl hlt hc hnd h3 hne hlm hltm hall HJ hok
      generalize l ++ l.take 1 = m at HC HJ2
      go_enter Tryz.func45, Tryz.ntmps45
      go_upto_region 2 with (go_at_call 28; refine (wkt_must_ok _ _).mono ?_; rintro e w4 ⟨rfl, rfl⟩)
      have hD0 : Below w4.heap.size w4 w4.drew := Below.drew (Below.refl _ _)
      have HS : Hd (∀ W', Below w4.heap.size w4 W' → W'.cell? ⟨b, 0, none⟩ = some (.func (.func 43) #[] #[])) := ⟨fun W' h => (h.cell (World.block_lt_of_cell? w4 _ HB.out)).trans HB.out⟩
      go_region_held3 (fun W' => W'.cell? ⟨b, 0, none⟩ = some (.func (.func 43) #[] #[])) ((exact HS.out _ (by focus (repeat (first | (with_reducible exact Below.refl _ _) | (with_reducible assumption) | ((with_reducible refine Below.setCell ?_ ?_ _); rotate_left; (focus (first | omega | (simp; done) | (simp; omega)))) | ((with_reducible refine Below.alloc ?_ ?_ _); rotate_left; (focus (first | omega | (simp; done) | (simp; omega)))) | (with_reducible refine Below.drew ?_) | (refine below_on ?_ (by assumption)))))))
        ((first
          | (go_at_call 47; refine (HC.out _ hD0).mono ?_; rintro e1 wa ⟨A', c', rfl, hn, hb⟩; have hD1 := below_on hD0 hb; clear hb)
          | (go_at_call 46; refine (HJ2.out _ _ _ hn).mono ?_; rintro e1 wb ⟨rfl, hb⟩; have hD2 := below_on hD1 hb; clear hb)))
      clear HS hD0 hn hD1
      go_wp2
      go_ret
      exact ⟨fun _ => rfl, fun h => absurd HG.out h, hD2⟩
    · have HG : Hd (¬ ringOkP l) := ⟨fun h => hok h.2⟩
      have HJ2 : Hd (∀ A' c' W, PqsIn W A' (l ++ l.take 1) → Calls Tryz.prog 46 #[.slice A' (l ++ l.take 1).length c', .func (.func 43) #[] #[]] W fun e w' => e = .panicked [{ v := .iface 31 (.int .i64 2), recovered := false }] ∧ Below W.heap.size W w') := ⟨fun A' c' W hn => (HJ.out A' c' W hn).mono fun e w' h => ⟨h.2.1 (fun h4 => hok (hall.1 h4)), h.2.2⟩⟩
      clear hb hl hlt hc hnd h3 hne hlm hltm hall HJ hok
      generalize l ++ l.take 1 = m at HC HJ2
      go_enter Tryz.func45, Tryz.ntmps45
      go_upto_region 2 with (go_at_call 28; refine (wkt_must_ok _ _).mono ?_; rintro e w4 ⟨rfl, rfl⟩)
      have hD0 : Below w4.heap.size w4 w4.drew := Below.drew (Below.refl _ _)
      have HS : Hd (∀ W', Below w4.heap.size w4 W' → W'.cell? ⟨b, 0, none⟩ = some (.func (.func 43) #[] #[])) := ⟨fun W' h => (h.cell (World.block_lt_of_cell? w4 _ HB.out)).trans HB.out⟩
      have c0 := HB.out
      have c1 := HS.out _ hD0
      refine wp_region_any (by kernel_rfl) ?_
      try (change wpAny _ _ _ _ _ _ _ (World.drew _))
      refine wpAny_take (i := 0) (v := ?v0) rfl (by kernel_rfl) (by kernel_rfl) (by kernel_rfl) (fun _ _ _ h => h) (Or.inl ⟨by rfl, ?h0⟩) ?g0
      case h0 =>
        intro w
        go_simp
        all_goals (with_reducible rfl)
      case g0 =>
        refine wpAny_ready (rs := [1, 2]) (by kernel_rfl) (by simp) ?_
        refine AllReady.cons rfl (fun K hK => ?_) (AllReady.cons rfl (fun K hK => ?_) AllReady.nil)
        · go_simp
          refine (HC.out _ hD0).mono ?_
          rintro e1 wa ⟨A', c', rfl, hn, hb⟩
          have hD1 := below_on hD0 hb
          have c2 := HS.out _ hD1
          clear hb
          refine hK _ _ ?_
          clear hK K
          refine wpAny_ready (rs := [2]) (by kernel_rfl) (by simp) ?_
          refine AllReady.cons rfl (fun K hK => ?_) AllReady.nil
          go_simp
          refine hK _ _ ?_
          clear hK K
          refine wpAny_ready (rs := [3]) (by kernel_rfl) (by simp) ?_
          refine AllReady.cons rfl (fun K hK => ?_) AllReady.nil
          go_simp
          refine (HJ2.out _ _ _ hn).mono ?_
          rintro e1 wb ⟨rfl, hb⟩
          exact ⟨rfl, fun h => absurd h HG.out, fun _ => rfl, below_on hD1 hb⟩
        · go_simp
          refine hK _ _ ?_
          clear hK K
          refine wpAny_ready (rs := [1]) (by kernel_rfl) (by simp) ?_
          refine AllReady.cons rfl (fun K hK => ?_) AllReady.nil
          go_simp
          refine (HC.out _ hD0).mono ?_
          rintro e1 wa ⟨A', c', rfl, hn, hb⟩
          have hD1 := below_on hD0 hb
          have c2 := HS.out _ hD1
          clear hb
          refine hK _ _ ?_
          clear hK K
          refine wpAny_ready (rs := [3]) (by kernel_rfl) (by simp) ?_
          refine AllReady.cons rfl (fun K hK => ?_) AllReady.nil
          go_simp
          refine (HJ2.out _ _ _ hn).mono ?_
          rintro e1 wb ⟨rfl, hb⟩
          exact ⟨rfl, fun h => absurd h HG.out, fun _ => rfl, below_on hD1 hb⟩
  · have hd1 : decide ((3 : Int) ≤ (l.length : Int)) = false := by simp; omega
    have HG : Hd (¬ ringOkP l) := ⟨fun h => h3 h.1⟩
    clear hb hl hlt hc hnd h3
    go_enter Tryz.func45, Tryz.ntmps45
    go_wp2_with (go_at_call 28; refine (wkt_must_no _ _).mono ?_; rintro e w4 ⟨rfl, rfl⟩)
    exact ⟨rfl, fun h => absurd h HG.out, fun _ => rfl, Below.refl _ _⟩
end Go.Proofs.YtfchmikbebdflaaGreatDoor

namespace Go.Proofs.YtfchmikbebdflaaGreatDoor
open Go.RowKit Go.BigFrame Go.Shelf

set_option maxRecDepth 100000 in
set_option maxHeartbeats 1000000 in
theorem part_any (v : Value) (L : List (List Pq)) (h : ShortP L) (b b4 : Nat) (w : World) (hb : w.cell? ⟨b, 0, none⟩ = some (roundF b4)) (hb4 : w.cell? ⟨b4, 0, none⟩ = some atF) (hP : PartIn w v L) :
    Calls Tryz.prog 49 #[v, .pointer (some ⟨b, 0, none⟩)] w (TextPost (partOkP L) (partT L) w) := by
  obtain ⟨A, c, vs, rfl, hcl, hvl, hrs⟩ := hP
  unfold TextPost
  unfold GiveUp
  unfold roundF at hb
  by_cases h0 : L = []
  · subst h0
    have HG : Hd (¬ partOkP []) := ⟨fun h => h.1 rfl⟩
    clear hb hb4 hcl hvl hrs h
    rw [List.length_nil]
    have hd1 : decide ((0 : Int) < ((0 : Nat) : Int)) = false := rfl
    go_enter Tryz.func49, Tryz.ntmps49
    go_wp2_with (go_at_call 28; refine (wkt_must_no _ _).mono ?_; rintro e w4 ⟨rfl, rfl⟩)
    exact ⟨rfl, fun h => absurd h HG.out, fun _ => rfl, Below.refl _ _⟩
  · have hpos := List.length_pos_iff.2 h0
    have hd1 : decide ((0 : Int) < (L.length : Int)) = true := by simp; omega
    have hd2 : decide (0 < L.length) = true := by simp; omega
    have HJ := joined_ringsP A c vs L ringT ringOkP b4 w h0 (by have := h.1; omega) (fun x hx => Nat.le_trans (ringT_len (h.2 x hx)) (by decide)) hvl hcl (fun j v x hv hx W hB => round_any v x (h.2 x (List.mem_of_getElem? hx)) b4 W ((hB.cell (World.block_lt_of_cell? w _ hb4)).trans hb4) ((hrs j v x hv hx).below hB))
    by_cases hok : ∀ l ∈ L, ringOkP l
    · have HG : Hd (partOkP L) := ⟨⟨h0, hok⟩⟩
      have HJ2 : Hd (Calls Tryz.prog 50 #[.slice A L.length c, .func (.func 45) #[] #[.pointer (some ⟨b4, 0, none⟩)]] w fun e w' => e = .returned (.string (bs (partT L))) ∧ Below w.heap.size w w') := ⟨HJ.mono fun e w' h => ⟨h.1 hok, h.2.2⟩⟩
      clear hb4 hcl hvl hrs h hpos HJ hok
      go_enter Tryz.func49, Tryz.ntmps49
      go_wp2_with (go_at_call 28; refine (wkt_must_ok _ _).mono ?_; rintro e w4 ⟨rfl, rfl⟩)
      refine HJ2.out.mono ?_
      rintro e w5 ⟨rfl, hb5⟩
      go_wp2
      go_ret
      exact ⟨fun _ => rfl, fun h => absurd HG.out h, hb5⟩
    · have HG : Hd (¬ partOkP L) := ⟨fun h => hok h.2⟩
      have HJ2 : Hd (Calls Tryz.prog 50 #[.slice A L.length c, .func (.func 45) #[] #[.pointer (some ⟨b4, 0, none⟩)]] w fun e w' => e = .panicked [{ v := .iface 31 (.int .i64 2), recovered := false }] ∧ Below w.heap.size w w') := ⟨HJ.mono fun e w' h => ⟨h.2.1 hok, h.2.2⟩⟩
      clear hb4 hcl hvl hrs h hpos HJ hok
      go_enter Tryz.func49, Tryz.ntmps49
      go_wp2_with (go_at_call 28; refine (wkt_must_ok _ _).mono ?_; rintro e w4 ⟨rfl, rfl⟩)
      refine HJ2.out.mono ?_
      rintro e w5 ⟨rfl, hb5⟩
      exact ⟨rfl, fun h => absurd h HG.out, fun _ => rfl, hb5⟩
/-- The deferred closure where something was given up with. -/
theorem multi_caught (ob eb : Nat) (s : Value) (x n : Int) (older : List PanicEntry) (w : World) (hne : ob ≠ eb) (ho : w.heap[ob]? = some (.cells #[s] 9 (0, 0))) (he : w.heap[eb]? = some (.cells #[.int .i64 x] 31 (0, 0))) :
    CallsD Tryz.prog 42 #[.pointer (some ⟨ob, 0, none⟩), .pointer (some ⟨eb, 0, none⟩)] (.panicking ({ v := .iface 31 (.int .i64 n), recovered := false } :: older)) w fun e u' w' =>
      e = .returned (.tuple #[]) ∧ u' = .panicking ({ v := .iface 31 (.int .i64 n), recovered := true } :: older) ∧
      w'.heap[ob]? = some (.cells #[.string ⟨#[]⟩] 9 (0, 0)) ∧ w'.heap[eb]? = some (.cells #[.int .i64 n] 31 (0, 0)) ∧ ∀ m, m ≤ ob → m ≤ eb → Below m w w' := by
  refine callsD_of_wpS Tryz.func42 rfl fun c₀ cs hu => ?_
  apply wpS_seq
  apply wpS_region
  simp [wpOpsS, go_sem, recoverD, hu, Tryz.ntmps42, Exit.thenS]
  refine wpS_of_wp ?_
  generalize HM : ({ v := .iface 31 (.int .i64 n), recovered := true } : PanicEntry) = pe
  have HA := fun v w => assert_errno v w
  have c1 := cell_at ho
  have f1 := frozen_at ho
  have c2 := cell_at he
  have f2 := frozen_at he
  simp only [Array.replicate_succ, Array.replicate_zero, List.push_toArray, List.append_toArray, List.nil_append, List.cons_append, List.setIfInBounds_toArray, List.set_cons_zero, List.set_cons_succ]
  go_wp2
  refine region_abs_w (fun a0 a' w' => ∃ vv : Nat → Value, (w'.heap[ob]? = some (.cells #[.string ⟨#[]⟩] 9 (0, 0)) ∧ w'.heap[eb]? = some (.cells #[.int .i64 n] 31 (0, 0)) ∧ ∀ m, m ≤ ob → m ≤ eb → Below m w w') ∧ (a' = Act.put (Act.put a0 (some 6) (vv 6)) (some 7) (vv 7))) (fun KR hKR => ?_) ?_
  · go_region
    refine ⟨rfl, hKR _ _ (ex_putw4 ⟨⟨?_, ?_, fun m h1 h2 => ?_⟩, by kernel_rfl⟩)⟩
    · exact heap_drewn (heap_set_other ((heap_set ho 0 _).trans (by rfl)) hne _)
    · exact heap_drewn ((heap_set (heap_set_other he hne.symm _) 0 _).trans (by rfl))
    · exact Below.drew (by focus (repeat (first | (with_reducible exact Below.refl _ _) | (with_reducible assumption) | ((with_reducible refine Below.setCell ?_ ?_ _); rotate_left; (focus (first | omega | (simp; done) | (simp; omega)))) | ((with_reducible refine Below.alloc ?_ ?_ _); rotate_left; (focus (first | omega | (simp; done) | (simp; omega)))) | (with_reducible refine Below.drew ?_) | (refine below_on ?_ (by assumption)))))
  rintro a' w9 ⟨vv, ⟨y0, y1, y2⟩, rfl⟩
  simp only [Act.put, List.setIfInBounds_toArray, List.set_cons_succ, List.set_cons_zero]
  go_wp2
  cases c₀
  simp_all [bodyPostS, results, Tryz.results42]
/-- A multipolygon's text; which one may be; what Multi tells. -/
def mulW : Bs := [77, 85, 76, 84, 73, 80, 79, 76, 89, 71, 79, 78]
def multiT (M : List (List (List Pq))) : Bs := mulW ++ 40 :: (Lib.join (M.map partT) [44] ++ [41])
def ShortM (M : List (List (List Pq))) : Prop := M.length ≤ 5 ∧ ∀ L ∈ M, ShortP L
def MultiPost (good : Prop) (t : Bs) (w : World) (e : Ending) (w' : World) : Prop := (good → e = .returned (.tuple #[.string (bs t), .int .i64 0])) ∧ (¬ good → e = .returned (.tuple #[.string ⟨#[]⟩, .int .i64 2])) ∧ Below w.heap.size w w'
theorem store_one {P : Program} {w : World} {b : Nat} {v v' : Value} {t : TypeId} (h : w.heap[b]? = some (.cells #[v] t (0, 0))) (h1 : v'.oneCell' = true) : (store ⟨b, 0, none⟩ v').run P w = .ok () (w.setCell ⟨b, 0, none⟩ v') := by
  rw [run_store P w ⟨b, 0, none⟩ v' .plain h1, cell_at h, frozen_at h]
  rfl
set_option maxRecDepth 100000 in
set_option maxHeartbeats 1000000 in
/-- Multi, of some parts. -/
theorem multi_some (A : Option Addr) (c : Nat) (M : List (List (List Pq))) (h0 : M ≠ []) (h : ShortM M) (w : World) (hM : MultiIn w A M) :
    Calls Tryz.prog 15 #[.slice A M.length c] w (MultiPost (∀ L ∈ M, partOkP L) (multiT M) w) := by
  have hmf : ∀ (fn : Fn) (first cap : Array Value) (w : World), (Instr.makeFunc fn first cap).run Tryz.prog w = .ok (.func fn first cap) w := fun _ _ _ _ => rfl
  obtain ⟨vs, hcl, hvl, hrs⟩ := hM
  have hpos := List.length_pos_iff.2 h0
  have HJ : Hd (∀ W b b4, Below w.heap.size w W → W.cell? ⟨b, 0, none⟩ = some (roundF b4) → W.cell? ⟨b4, 0, none⟩ = some atF → Calls Tryz.prog 48 #[.slice A M.length c, .func (.func 49) #[] #[.pointer (some ⟨b, 0, none⟩)]] W (JoinPost (∀ L ∈ M, partOkP L) (40 :: (Lib.join (M.map partT) [44] ++ [41])) W)) := ⟨fun W b b4 hB hb hb4 =>
    joined_partsP A c vs M partT partOkP b W h0 (by have := h.1; omega) (fun x hx => Nat.le_trans (partT_len (h.2 x hx)) (by decide)) hvl (hcl.below hB) (fun j v x hv hx W' hB' => part_any v x (h.2 x (List.mem_of_getElem? hx)) b b4 W' ((hB'.cell (World.block_lt_of_cell? W _ hb)).trans hb) ((hB'.cell (World.block_lt_of_cell? W _ hb4)).trans hb4) ((hrs j v x hv hx).below (hB.trans (hB'.mono hB.size))))⟩
  have HTL : Hd ((40 :: (Lib.join (M.map partT) [44] ++ [41])).length ≤ 1000000) := ⟨by
    have h1 := join_le (B := 30000) (ps := M.map partT) (fun p hp => by
      obtain ⟨q, hq, rfl⟩ := List.mem_map.1 hp
      exact partT_len (h.2 q hq))
    rw [List.length_map] at h1
    have h3 := h.1
    rw [List.length_cons, List.length_append, List.length_singleton]
    omega⟩
  have HE : Hd (multiT M = mulW ++ (40 :: (Lib.join (M.map partT) [44] ++ [41]))) := ⟨rfl⟩
  rw [HE.out]
  generalize 40 :: (Lib.join (M.map partT) [44] ++ [41]) = TT at HJ HTL ⊢
  have r1 := fun w => run_bs_add (P := Tryz.prog) [77, 85, 76, 84, 73, 80, 79, 76, 89, 71, 79, 78] TT (mulW ++ TT) (by have := HTL.out; rw [show ([77, 85, 76, 84, 73, 80, 79, 76, 89, 71, 79, 78] : Bs).length = 12 from rfl]; omega) rfl w
  unfold MultiPost
  unfold JoinPost GiveUp at HJ
  have hne : ((M.length : Int) == 0) = false := by simp; exact h0
  have hne2 : (M.length == 0) = false := by simp; exact h0
  clear hcl hvl hrs h HE hpos HTL
  generalize (∀ L ∈ M, partOkP L) = G at HJ ⊢
  have HOKQ : Hd (G ∨ ¬ G) := ⟨Classical.em _⟩
  go_enter_defers Tryz.func15, Tryz.ntmps15
  go_upto_region 4 with (fail)
  refine abs_wp (fun W => W.heap[w.heap.size]? = some (.cells #[.string ⟨#[]⟩] 9 (0, 0)) ∧ W.heap[w.heap.size + 1]? = some (.cells #[.int .i64 0] 31 (0, 0)) ∧ w.heap.size + 2 ≤ W.heap.size ∧ Below w.heap.size w W) ⟨heap_old (heap_new _ _) _, heap_at (by simp) _, by simp, ((Below.refl _ _).alloc (Nat.le_refl _) _).alloc (by simp) _⟩ fun W4 ⟨y0, y1, hs4, hB4⟩ => ?_
  have z2 := heap_new W4 (.cells #[.nilFunc] 95)
  have c2 := store_one (P := Tryz.prog) (v' := .func (.func 43) #[] #[]) z2 rfl
  have b1 : Below W4.heap.size W4 (W4.alloc (.cells #[.func (.func 43) #[] #[]] 95)) := (Below.refl _ _).alloc (Nat.le_refl _) _
  have z3 := heap_new W4 (.cells #[.func (.func 43) #[] #[]] 95)
  clear z2
  go_upto_region 5 with (fail)
  refine abs_wp (fun W => W.heap[W4.heap.size]? = some (.cells #[.func (.func 43) #[] #[]] 95 (0, 0)) ∧ W4.heap.size + 1 ≤ W.heap.size ∧ Below W4.heap.size W4 W) ⟨z3, by simp, b1⟩ fun W5 ⟨x4, hs5, hB5⟩ => ?_
  clear c2 z3 b1
  have z2 := heap_new W5 (.cells #[.nilFunc] 98)
  have c2 := store_one (P := Tryz.prog) (v' := .func (.func 45) #[] #[.pointer (some ⟨W4.heap.size, 0, none⟩)]) z2 rfl
  have b1 : Below W5.heap.size W5 (W5.alloc (.cells #[.func (.func 45) #[] #[.pointer (some ⟨W4.heap.size, 0, none⟩)]] 98)) := (Below.refl _ _).alloc (Nat.le_refl _) _
  have z3 := heap_new W5 (.cells #[.func (.func 45) #[] #[.pointer (some ⟨W4.heap.size, 0, none⟩)]] 98)
  clear z2
  go_upto_region 6 with (fail)
  refine abs_wp (fun W => W.heap[W5.heap.size]? = some (.cells #[.func (.func 45) #[] #[.pointer (some ⟨W4.heap.size, 0, none⟩)]] 98 (0, 0)) ∧ Below W5.heap.size W5 W) ⟨z3, b1⟩ fun W6 ⟨x5, hB6⟩ => ?_
  clear c2 z3 b1
  have x4 := heap_below hB6 x4
  have y0 := heap_below hB6 (heap_below hB5 y0)
  have y1 := heap_below hB6 (heap_below hB5 y1)
  have hB : Below w.heap.size w W6 := below_on (below_on hB4 hB5) hB6
  clear hB4 hB5 hB6
  have HC := Hd.mk (HJ.out W6 W5.heap.size W4.heap.size hB (cell_at x5 0) (cell_at x4 0))
  clear HJ x4 x5
  rcases HOKQ.out with hok | hok
  · have HC2 : Hd (Calls Tryz.prog 48 #[.slice A M.length c, .func (.func 49) #[] #[.pointer (some ⟨W5.heap.size, 0, none⟩)]] W6 fun e w' => e = .returned (.string (bs TT)) ∧ Below W6.heap.size W6 w') := ⟨HC.out.mono fun e w' h => ⟨h.1 hok, h.2.2⟩⟩
    have HG := Hd.mk hok
    clear HC hok HOKQ
    go_wp2_with fail
    refine HC2.out.mono ?_
    rintro e W7 ⟨rfl, hb⟩
    have v0 := heap_below hb y0
    have v1 := heap_below hb y1
    have hB7 := below_on hB hb
    clear hb y0 y1 hB HC2
    have c0 := cell_at v0
    have f0 := frozen_at v0
    have c1 := cell_at v1
    have f1 := frozen_at v1
    have hW2 := wr_one (v' := .string (bs (mulW ++ TT))) v0 (Below.refl _ _)
    have q1 := hW2.other _ _ (by omega) v1
    have c3 := cell_at q1
    have f3 := frozen_at q1
    go_wp2
    have hW3 := wr_one (v' := .int .i64 0) q1 (Below.refl _ _)
    refine leaves_cons (f := 42) (args := #[.pointer (some ⟨w.heap.size, 0, none⟩), .pointer (some ⟨w.heap.size + 1, 0, none⟩)]) (by simp) (by simp [go_sem]) ?_
    refine (multi_idle _ _ _).mono ?_
    rintro e u' w9 ⟨rfl, rfl, rfl⟩
    refine abs_leaves (fun W => W.heap[w.heap.size]? = some (.cells #[.string (bs (mulW ++ TT))] 9 (0, 0)) ∧ W.heap[w.heap.size + 1]? = some (.cells #[.int .i64 0] 31 (0, 0)) ∧ Below w.heap.size w W) ⟨hW3.other _ _ (by omega) hW2.here, hW3.here, (hB7.trans (hW2.below _ (Nat.le_refl _))).trans (hW3.below _ (by omega))⟩ fun W ⟨y1, y2, hB⟩ => ?_
    have c1 := cell_at y1
    have c2 := cell_at y2
    simp [Leaves, settle, results, Tryz.results15, go_sem, c1, c2]
    exact ⟨HG.out, hB⟩
  · have HC2 : Hd (Calls Tryz.prog 48 #[.slice A M.length c, .func (.func 49) #[] #[.pointer (some ⟨W5.heap.size, 0, none⟩)]] W6 fun e w' => e = .panicked [{ v := .iface 31 (.int .i64 2), recovered := false }] ∧ Below W6.heap.size W6 w') := ⟨HC.out.mono fun e w' h => ⟨h.2.1 hok, h.2.2⟩⟩
    have HG := Hd.mk hok
    clear HC hok HOKQ
    go_wp2_with fail
    refine HC2.out.mono ?_
    rintro e W7 ⟨rfl, hb⟩
    have v0 := heap_below hb y0
    have v1 := heap_below hb y1
    have hB7 := below_on hB hb
    clear hb y0 y1 hB HC2
    refine leaves_cons (f := 42) (args := #[.pointer (some ⟨w.heap.size, 0, none⟩), .pointer (some ⟨w.heap.size + 1, 0, none⟩)]) (by simp) (by simp [go_sem]) ?_
    refine (multi_caught w.heap.size (w.heap.size + 1) _ _ 2 _ _ (by omega) v0 v1).mono ?_
    rintro e u' w9 ⟨rfl, rfl, y1, y2, hy⟩
    refine abs_leaves (fun W => W.heap[w.heap.size]? = some (.cells #[.string ⟨#[]⟩] 9 (0, 0)) ∧ W.heap[w.heap.size + 1]? = some (.cells #[.int .i64 2] 31 (0, 0)) ∧ Below w.heap.size w W) ⟨y1, y2, hB7.trans (hy _ (Nat.le_refl _) (by omega))⟩ fun W ⟨y1, y2, hB⟩ => ?_
    have c1 := cell_at y1
    have c2 := cell_at y2
    simp [Leaves, settle, results, Tryz.results15, go_sem, c1, c2]
    exact ⟨fun h => absurd h HG.out, hB⟩
end Go.Proofs.YtfchmikbebdflaaGreatDoor
