/-
  The law WktMultis. Conditions stand in each theorem.
-/
import Derived.Test.YtfchmikbebdflaaGreatDoorKl2
import Derived.Test.YtfchmikbebdflaaGreatDoorKu8
import Derived.Test.YtfchmikbebdflaaGreatDoorKu3
namespace Go.Proofs.YtfchmikbebdflaaGreatDoor
open Go.RowKit Go.BigFrame Go.Shelf

/-- Parts, each with a comma behind it. -/
def tied (ps : List Bs) : Bs := (ps.map (· ++ [44])).flatten
theorem tied_add (ps : List Bs) (q : Bs) : tied (ps ++ [q]) = tied ps ++ (q ++ [44]) := by simp [tied]
theorem join_tied (q : Bs) : ∀ ps : List Bs, Lib.join (ps ++ [q]) [44] = tied ps ++ q
  | [] => by simp [tied, Lib.join_one]
  | [p] => by
    show Lib.join [p, q] [44] = _
    rw [join_two, Lib.join_one]
    simp [tied]
  | p :: r :: ps => by
    have h := join_tied q (r :: ps)
    rw [List.cons_append, List.cons_append] at *
    rw [join_two, h]
    simp [tied]
theorem tied_join {ps : List Bs} (h : ps ≠ []) : tied ps = Lib.join ps [44] ++ [44] := by
  obtain ⟨qs, q, rfl⟩ : ∃ qs q, ps = qs ++ [q] := ⟨ps.dropLast, ps.getLast h, (List.dropLast_concat_getLast h).symm⟩
  rw [tied_add, join_tied]
  simp
theorem tied_len {B : Nat} : ∀ {ps : List Bs}, (∀ p ∈ ps, p.length ≤ B) → (tied ps).length ≤ ps.length * (B + 1)
  | [], _ => by simp [tied]
  | p :: r, h => by
    have h1 := h p (by simp)
    have h2 := tied_len (ps := r) fun x hx => h x (by simp [hx])
    have e : tied (p :: r) = (p ++ [44]) ++ tied r := by simp [tied]
    rw [e]
    simp
    have e2 : (r.length + 1) * (B + 1) = r.length * (B + 1) + (B + 1) := by rw [Nat.succ_mul]
    omega
theorem ringT_tied {l : List Pq} {x : Pq} (h : l[0]? = some x) : ringT l = 40 :: tied (l.map ptL) ++ ptL x ++ [41] := by
  have e : l.take 1 = [x] := by
    cases l with
    | nil => simp at h
    | cons a r => simp at h; subst h; rfl
  unfold ringT
  rw [e, List.map_append]
  show 40 :: (Lib.join (l.map ptL ++ [ptL x]) [44] ++ [41]) = _
  rw [join_tied]
  simp
/-- A point of the references, by signs and magnitudes. -/
def PtAt (W : World) (v : Value) (x : Pq) : Prop := PntAt W v (zof x.1.1 x.1.2) x.2.1.2 (zof x.2.2.1.1 x.2.2.1.2) x.2.2.2.2
theorem xright_any (x : Pq) (h : ltX x) (o : Bool) (ho : o = true ↔ okX x) (w : World) :
    Calls Tryz.prog 69 #[.agg (pqC x).toArray] w fun e w' => e = .returned (.bool o) ∧ Below w.heap.size w w' := rpright_p x.1 x.2.1 x.2.2.1 x.2.2.2 h.1 h.2.1 h.2.2.1 h.2.2.2 o ho w
theorem xfrom_ok (x : Pq) (h : ltX x) (ho : okX x) (w : World) :
    Calls Tryz.prog 71 #[.agg (pqC x).toArray] w fun e w' => ∃ v, e = .returned v ∧ PtAt w' v x ∧ Below w.heap.size w w' := rpfrom_ok x.1 x.2.1 x.2.2.1 x.2.2.2 h.1 h.2.1 h.2.2.1 h.2.2.2 ho.1 ho.2.1 w
theorem xtext_any (x : Pq) (h : ltX x) (u : Value) (w : World) (hu : PtAt w u x) :
    Calls Tryz.prog 70 #[u] w fun e w' => e = .returned (.string (bs (ptL x))) ∧ Below w.heap.size w w' :=
  rptext_any _ _ _ _ (by rw [ab_zof]; exact h.1) h.2.1 (by rw [ab_zof]; exact h.2.2.1) h.2.2.2 u w hu
def PointsPost (good : Prop) (t : Bs) (w : World) (e : Ending) (w' : World) : Prop := (good → e = .returned (.tuple #[.string (bs t), .bool true])) ∧ (¬ good → e = .returned (.tuple #[.string ⟨#[]⟩, .bool false])) ∧ Below w.heap.size w w'
set_option maxRecDepth 100000 in
set_option maxHeartbeats 1000000 in
theorem rpoints_any (v : Value) (l : List Pq) (h : ShortR l) (w : World) (hN : RingP w v l) :
    Calls Tryz.prog 51 #[v] w (PointsPost (ringOkP l) (ringT l) w) := by
  obtain ⟨hl, hlt⟩ := h
  obtain ⟨A, c, rfl, hc, _, hnd⟩ := hN
  unfold PointsPost
  by_cases h3 : l.length < 3
  · have hd1 : decide ((l.length : Int) < (3 : Int)) = true := by simp; omega
    have HG : Hd (¬ ringOkP l) := ⟨fun h => by have := h.1; omega⟩
    clear hl hlt hc hnd h3
    go_enter Tryz.func51, Tryz.ntmps51
    go_wp2
    go_ret2
    exact ⟨fun h => absurd h HG.out, fun _ => rfl, Below.refl _ _⟩
  · have hd1 : decide ((l.length : Int) < (3 : Int)) = false := by simp; omega
    have HR1 : Hd (∀ x ∈ l, okX x → ∀ w, Calls Tryz.prog 69 #[.agg (pqC x).toArray] w fun e w' => e = .returned (.bool true) ∧ Below w.heap.size w w') := ⟨fun x hx ho w => xright_any x (hlt x hx) true (by simp [ho]) w⟩
    have HR0 : Hd (∀ x ∈ l, ¬ okX x → ∀ w, Calls Tryz.prog 69 #[.agg (pqC x).toArray] w fun e w' => e = .returned (.bool false) ∧ Below w.heap.size w w') := ⟨fun x hx ho w => xright_any x (hlt x hx) false (by simp [ho]) w⟩
    have HFR : Hd (∀ x ∈ l, okX x → ∀ w, Calls Tryz.prog 71 #[.agg (pqC x).toArray] w fun e w' => ∃ v, e = .returned v ∧ PtAt w' v x ∧ Below w.heap.size w w') := ⟨fun x hx ho w => xfrom_ok x (hlt x hx) ho w⟩
    have HTX : Hd (∀ x ∈ l, ∀ u w, PtAt w u x → Calls Tryz.prog 70 #[u] w fun e w' => e = .returned (.string (bs (ptL x))) ∧ Below w.heap.size w w') := ⟨fun x hx u w hu => xtext_any x (hlt x hx) u w hu⟩
    have HTL : Hd (∀ k, (tied ((l.take k).map ptL)).length ≤ 4000) := ⟨fun k => by
      have h1 := tied_len (B := 319) (ps := (l.take k).map ptL) (fun p hp => by
        obtain ⟨q, hq, rfl⟩ := List.mem_map.1 hp
        exact ptL_len (hlt q (List.mem_of_mem_take hq)))
      rw [List.length_map, List.length_take] at h1
      omega⟩
    have HPL : Hd (∀ x ∈ l, (ptL x).length ≤ 319) := ⟨fun x hx => ptL_len (hlt x hx)⟩
    have HN := Hd.mk hnd
    have HL3 : Hd (3 ≤ l.length) := ⟨by omega⟩
    clear hlt hc hnd h3
    go_enter Tryz.func51, Tryz.ntmps51
    go_wp2
    go_loopw [4, 5] (fun sv iv wr => ∃ k : Nat, iv = .int .i64 k ∧ k ≤ l.length ∧ sv = .string (bs (40 :: tied ((l.take k).map ptL))) ∧ Hd (∀ x ∈ l.take k, okX x) ∧ Below w.heap.size w wr) (fun _ iv _ => l.length - (intOf iv).toNat)
    case atStart => exact ⟨0, rfl, Nat.zero_le _, rfl, ⟨by simp⟩, Below.refl _ _⟩
    case round =>
      obtain ⟨k, rfl, hk, rfl, HK, hB⟩ := hrel
      by_cases hlt : k < l.length
      · have hd3 : decide ((k : Int) < (l.length : Int)) = true := by simp; omega
        have hd2 : decide (k < l.length) = true := by simp; omega
        obtain ⟨bb, off, rfl, hcc⟩ := HN.out.below hB (by omega)
        obtain ⟨x, hx⟩ : ∃ x, l[k]? = some x := ⟨_, List.getElem?_eq_getElem hlt⟩
        have q1 := hcc k x hx
        have HM := Hd.mk (List.mem_of_getElem? hx)
        by_cases hok : okX x
        · have HOK := Hd.mk (all_take HK.out hx hok)
          have HC1 := Hd.mk (HR1.out x HM.out hok)
          have HC2 := Hd.mk (HFR.out x HM.out hok)
          have HC3 := Hd.mk (HTX.out x HM.out)
          have hyl := HTL.out k
          have hml := HPL.out x HM.out
          have HY2 : Hd (40 :: tied ((l.take k).map ptL) ++ ptL x ++ [44] = 40 :: tied ((l.take (k + 1)).map ptL)) := ⟨by
            rw [List.take_add_one, hx, List.map_append]
            show _ = 40 :: tied ((l.take k).map ptL ++ [ptL x])
            rw [tied_add]
            simp⟩
          have hYL : (40 :: tied ((l.take k).map ptL)).length ≤ 4001 := by rw [List.length_cons]; omega
          clear hcc hx hok HR1 HR0 HFR HTX HTL HPL hyl
          generalize 40 :: tied ((l.take k).map ptL) = Y at HY2 hYL ⊢
          generalize ptL x = M at HC3 hml HY2
          have r3 := fun w => run_bs_add (P := Tryz.prog) Y M (Y ++ M) (by omega) rfl w
          have r4 := fun w => run_bs_add (P := Tryz.prog) (Y ++ M) [44] (Y ++ M ++ [44]) (by rw [List.length_append, List.length_singleton]; omega) rfl w
          generalize Y ++ M = Y1 at HY2 r3 r4
          generalize Y1 ++ [44] = Y2 at HY2 r4
          clear hml hYL
          go_wp2_with (refine wpList_load_row rfl (.tmp 17) rfl bb (off + k * 20) rfl (pqC x) q1 rfl ?_)
          refine (HC1.out _).mono ?_
          rintro e w1 ⟨rfl, hb⟩
          have hB1 := below_on hB hb
          have q2 := range_below q1 hb
          clear hb q1 hB
          go_wp2_with (refine wpList_load_row rfl (.tmp 24) rfl bb (off + k * 20) rfl (pqC x) q2 rfl ?_)
          refine (HC2.out _).mono ?_
          rintro e w2 ⟨u, rfl, hu, hb⟩
          have hB2 := below_on hB1 hb
          clear hb q2 hB1
          go_wp2_with fail
          refine (HC3.out _ _ hu).mono ?_
          rintro e w3 ⟨rfl, hb⟩
          have hB3 := below_on hB2 hb
          clear hb hu hB2
          go_wp2
          go_roundw
          case rel => exact ⟨k + 1, by go_num, by omega, by rw [← HY2.out], HOK, hB3⟩
          case measure => simp [intOf]; omega
        · have HNO : Hd (¬ ringOkP l) := ⟨fun h => hok (h.2 x HM.out)⟩
          have HC1 := Hd.mk (HR0.out x HM.out hok)
          clear hcc hx hok HR1 HR0 HFR HTX HTL HPL
          go_wp2_with (refine wpList_load_row rfl (.tmp 17) rfl bb (off + k * 20) rfl (pqC x) q1 rfl ?_)
          refine (HC1.out _).mono ?_
          rintro e w1 ⟨rfl, hb⟩
          have hB1 := below_on hB hb
          clear hb q1 hB
          go_wp2
          go_ret2
          exact ⟨fun h => absurd h HNO.out, fun _ => rfl, hB1⟩
      · obtain rfl : k = l.length := by omega
        have hd3 : decide (((l.length : Nat) : Int) < (l.length : Int)) = false := by simp
        have h3 := HL3.out
        obtain ⟨bb, off, rfl, hcc⟩ := HN.out.below hB (by omega)
        obtain ⟨x, hx⟩ : ∃ x, l[0]? = some x := ⟨_, List.getElem?_eq_getElem (by omega)⟩
        have q1 := hcc 0 x hx
        rw [Nat.zero_mul, Nat.add_zero] at q1
        have h5 : 0 < l.length := by omega
        have HG : Hd (ringOkP l) := ⟨⟨HL3.out, by have := HK.out; rwa [List.take_length] at this⟩⟩
        have HM := Hd.mk (List.mem_of_getElem? hx)
        have HC2 := Hd.mk (HFR.out x HM.out (HG.out.2 x HM.out))
        have HC3 := Hd.mk (HTX.out x HM.out)
        have hyl := HTL.out l.length
        have hml := HPL.out x HM.out
        have HE := Hd.mk (ringT_tied hx)
        rw [List.take_length] at hyl ⊢
        have hYL : (40 :: tied (l.map ptL)).length ≤ 4001 := by rw [List.length_cons]; omega
        clear hcc hx HR1 HR0 HFR HTX HTL HPL hyl h3 HK
        generalize 40 :: tied (l.map ptL) = Y at HE hYL ⊢
        generalize ptL x = M at HC3 hml HE
        have r3 := fun w => run_bs_add (P := Tryz.prog) Y M (Y ++ M) (by omega) rfl w
        have r4 := fun w => run_bs_add (P := Tryz.prog) (Y ++ M) [41] (Y ++ M ++ [41]) (by rw [List.length_append, List.length_singleton]; omega) rfl w
        generalize Y ++ M = Y1 at HE r3 r4
        generalize Y1 ++ [41] = Y2 at HE r4
        clear hml hYL
        go_wp2_with (refine wpList_load_row rfl (.tmp 32) rfl bb off rfl (pqC x) q1 rfl ?_)
        refine (HC2.out _).mono ?_
        rintro e w2 ⟨u, rfl, hu, hb⟩
        have hB2 := below_on hB hb
        clear hb q1 hB
        go_wp2_with fail
        refine (HC3.out _ _ hu).mono ?_
        rintro e w3 ⟨rfl, hb⟩
        have hB3 := below_on hB2 hb
        clear hb hu hB2
        go_wp2
        go_ret2
        exact ⟨fun _ => by rw [HE.out]; rfl, fun h => absurd HG.out h, hB3⟩
end Go.Proofs.YtfchmikbebdflaaGreatDoor

namespace Go.Proofs.YtfchmikbebdflaaGreatDoor
open Go.RowKit Go.BigFrame Go.Shelf

theorem partT_join (L : List (List Pq)) : partT L = 40 :: Lib.join (L.map ringT) [44] ++ [41] := by
  unfold partT
  simp
theorem multiT_join (M : List (List (List Pq))) : multiT M = mulW ++ 40 :: Lib.join (M.map partT) [44] ++ [41] := by
  unfold multiT
  simp
theorem join_len {B n : Nat} {ps : List Bs} (h : ∀ p ∈ ps, p.length ≤ B) (hn : ps.length ≤ n) : (Lib.join ps [44]).length ≤ n * (B + 1) := Nat.le_trans (join_le h) (Nat.mul_le_mul_right _ hn)
theorem take_snoc {α : Type} {l : List α} {k : Nat} {x : α} (h : l[k]? = some x) : l.take (k + 1) = l.take k ++ [x] := by rw [List.take_add_one, h]; rfl
/-- One more, with a comma ahead but for the first. -/
theorem join_next {α : Type} (T : α → Bs) {l : List α} {k : Nat} {x : α} (h : l[k]? = some x) : Lib.join ((l.take (k + 1)).map T) [44] = (if 0 < k then Lib.join ((l.take k).map T) [44] ++ [44] else Lib.join ((l.take k).map T) [44]) ++ T x := by
  rw [take_snoc h, List.map_append]
  show Lib.join ((l.take k).map T ++ [T x]) [44] = _
  rw [join_tied]
  split
  · rename_i hk
    rw [tied_join]
    intro e
    have := congrArg List.length e
    have hl := (List.getElem?_eq_some_iff.1 h).1
    rw [List.length_map, List.length_take, List.length_nil] at this
    omega
  · rename_i hk
    obtain rfl : k = 0 := by omega
    rfl
/-- The row that is at hand, and its rings. -/
def RowAtI (W : World) (b off c i : Nat) (A : Option Addr) (n : Nat) : Prop := W.cell? ⟨b, off + i, none⟩ = some (.slice A n c)
def RMPost (good : Prop) (t : Bs) (w : World) (e : Ending) (w' : World) : Prop := (good → e = .returned (.tuple #[.string (bs t), .int .i64 0])) ∧ (¬ good → e = .returned (.tuple #[.string ⟨#[]⟩, .int .i64 2])) ∧ Below w.heap.size w w'
set_option maxRecDepth 100000 in
set_option maxHeartbeats 2000000 in
/-- The reference's Multi, of some parts. -/
theorem rmulti_some (A : Option Addr) (c : Nat) (M : List (List (List Pq))) (h0 : M ≠ []) (h : ShortM M) (w : World) (hM : MultiIn w A M) :
    Calls Tryz.prog 16 #[.slice A M.length c] w (RMPost (∀ L ∈ M, partOkP L) (multiT M) w) := by
  obtain ⟨vs, hcl, hvl, hrs⟩ := hM
  have hpos := List.length_pos_iff.2 h0
  have hne : ((M.length : Int) == 0) = false := by simp; exact h0
  have hne2 : (M.length == 0) = false := by simp; exact h0
  have hM5 := h.1
  have HS := Hd.mk h
  have HR := Hd.mk (And.intro hcl hrs)
  have HMJ : Hd (∀ k, (Lib.join ((M.take k).map partT) [44]).length ≤ 150005) := ⟨fun k => join_len (B := 30000) (n := 5) (fun p hp => by
    obtain ⟨q, hq, rfl⟩ := List.mem_map.1 hp
    exact partT_len (h.2 q (List.mem_of_mem_take hq))) (by rw [List.length_map, List.length_take]; omega)⟩
  have hml : mulW.length = 12 := rfl
  have HE := Hd.mk (multiT_join M)
  obtain ⟨G, hG⟩ : ∃ G : Prop, G = (∀ L ∈ M, partOkP L) := ⟨_, rfl⟩
  have HGQ : Hd (G ↔ ∀ L ∈ M, partOkP L) := ⟨by rw [hG]⟩
  rw [← hG]
  generalize multiT M = T at HE ⊢
  unfold RMPost
  clear hcl hrs h hpos hG
  go_enter Tryz.func16, Tryz.ntmps16
  go_wp2
  go_loopw [4, 5] (fun sv iv wr => ∃ i : Nat, iv = .int .i64 i ∧ i ≤ M.length ∧ sv = .string (bs (mulW ++ 40 :: Lib.join ((M.take i).map partT) [44])) ∧ Hd (∀ L ∈ M.take i, partOkP L) ∧ Below w.heap.size w wr) (fun _ iv _ => M.length - (intOf iv).toNat)
  case atStart => exact ⟨0, rfl, Nat.zero_le _, rfl, ⟨by simp⟩, Below.refl _ _⟩
  case round =>
    obtain ⟨i, rfl, hi, rfl, HK, hB⟩ := hrel
    by_cases hlt : i < M.length
    · have hd1 : decide ((i : Int) < (M.length : Int)) = true := by simp; omega
      have hd2 : decide (i < M.length) = true := by simp; omega
      obtain ⟨L, hL⟩ : ∃ L, M[i]? = some L := ⟨_, List.getElem?_eq_getElem hlt⟩
      obtain ⟨v, hv⟩ : ∃ v, vs[i]? = some v := ⟨_, List.getElem?_eq_getElem (by omega)⟩
      obtain ⟨b1, o1, rfl, hcv⟩ := HR.out.1.below hB (by omega)
      have q1 := hcv i v hv
      obtain ⟨A1, d1, us, rfl, hc1, hul, hr1⟩ := (HR.out.2 i v L hv hL).below hB
      have l1 := World.block_lt_of_cell? wr _ q1
      have HLM := Hd.mk (List.mem_of_getElem? hL)
      have HSL := Hd.mk (HS.out.2 L HLM.out)
      have HBW := Hd.mk hB
      by_cases hLe : L = []
      · subst hLe
        have HNO : Hd (¬ G) := ⟨fun h => (HGQ.out.1 h [] HLM.out).1 rfl⟩
        clear hcv hc1 hr1 hv hL HR HS HK HMJ
        rw [List.length_nil] at q1
        go_wp2
        go_ret2
        exact ⟨fun h => absurd h HNO.out, fun _ => rfl, hB⟩
      · have hLn : ((L.length : Int) == 0) = false := by simp; exact hLe
        have hLn2 : (L.length == 0) = false := by simp; exact hLe
        have HLE := Hd.mk hLe
        have HLI := Hd.mk hL
        have HQ := Hd.mk q1
        have HCR := Hd.mk (And.intro hc1 (And.intro hul hr1))
        have hL5 := HSL.out.1
        have HNX := Hd.mk (join_next partT hL)
        have HJR : Hd (∀ k, (Lib.join ((L.take k).map ringT) [44]).length ≤ 30000) := ⟨fun k => Nat.le_trans (join_len (B := 5000) (n := 5) (fun p hp => by
          obtain ⟨q, hq, rfl⟩ := List.mem_map.1 hp
          exact ringT_len (HSL.out.2 q (List.mem_of_mem_take hq))) (by rw [List.length_map, List.length_take]; omega)) (by decide)⟩
        have hmj := HMJ.out i
        by_cases h0i : 0 < i
        · have hd0 : decide ((0 : Int) < (i : Int)) = true := by simp; omega
          obtain ⟨J, hJ⟩ : ∃ J, J = mulW ++ 40 :: Lib.join ((M.take i).map partT) [44] ++ [44] := ⟨_, rfl⟩
          have HEND : Hd (mulW ++ 40 :: Lib.join ((M.take (i + 1)).map partT) [44] = J ++ partT L) := ⟨by rw [HNX.out, if_pos h0i, hJ]; simp⟩
          have HJL : Hd (J.length ≤ 200000) := ⟨by
            rw [hJ, List.length_append, List.length_append, List.length_cons, List.length_singleton]
            omega⟩
          have r1 := fun w => run_bs_add (P := Tryz.prog) (mulW ++ 40 :: Lib.join ((M.take i).map partT) [44]) [44] J (by rw [List.length_append, List.length_cons, List.length_singleton]; omega) hJ.symm w
          have r2 := fun w => run_bs_add (P := Tryz.prog) J [40] (J ++ 40 :: Lib.join ((L.take 0).map ringT) [44]) (by have := HJL.out; rw [List.length_singleton]; omega) rfl w
          clear hcv hc1 hr1 hv hL hJ HNX hmj hLe
          generalize mulW ++ 40 :: Lib.join ((M.take i).map partT) [44] = X at r1
          go_wp2
          go_loopw [4, 6] (fun sv kv w2 => ∃ k : Nat, kv = .int .i64 k ∧ k ≤ L.length ∧ sv = .string (bs (J ++ 40 :: Lib.join ((L.take k).map ringT) [44])) ∧ Hd (∀ l ∈ L.take k, ringOkP l) ∧ Below wr.heap.size wr w2) (fun _ kv _ => L.length - (intOf kv).toNat)
          case atStart => exact ⟨0, rfl, Nat.zero_le _, rfl, ⟨by simp⟩, Below.refl _ _⟩
          case round =>
            obtain ⟨k, rfl, hkL, rfl, HKL, hB3⟩ := hrel
            have r9 := (hB3.cell l1).trans HQ.out
            have HB3 := Hd.mk hB3
            clear r2 q1
            by_cases hkl : k < L.length
            · have hdk : decide ((k : Int) < (L.length : Int)) = true := by simp; omega
              have hdk2 : decide (k < L.length) = true := by simp; omega
              obtain ⟨b2, o2, rfl, hcv2⟩ := HCR.out.1.below hB3 (by omega)
              obtain ⟨l, hl⟩ : ∃ l, L[k]? = some l := ⟨_, List.getElem?_eq_getElem hkl⟩
              obtain ⟨v2, hv2⟩ : ∃ v, us[k]? = some v := ⟨_, List.getElem?_eq_getElem (by omega)⟩
              have s1 := hcv2 k v2 hv2
              have HPT := Hd.mk (rpoints_any v2 l (HSL.out.2 l (List.mem_of_getElem? hl)) wr ((HCR.out.2.2 k v2 l hv2 hl).below hB3))
              have HNX := Hd.mk (join_next ringT hl)
              have hrl := ringT_len (HSL.out.2 l (List.mem_of_getElem? hl))
              have hjl := HJR.out k
              by_cases hok : ringOkP l
              · have HOK := Hd.mk (all_take HKL.out hl hok)
                have HC2 : Hd (Calls Tryz.prog 51 #[v2] wr fun e w' => e = .returned (.tuple #[.string (bs (ringT l)), .bool true]) ∧ Below wr.heap.size wr w') := ⟨HPT.out.mono fun e w' h => ⟨h.1 hok, h.2.2⟩⟩
                by_cases h0k : 0 < k
                · have hd0 : decide ((0 : Int) < (k : Int)) = true := by simp; omega
                  have HY2 : Hd (J ++ 40 :: Lib.join ((L.take k).map ringT) [44] ++ [44] ++ ringT l = J ++ 40 :: Lib.join ((L.take (k + 1)).map ringT) [44]) := ⟨by rw [HNX.out, if_pos h0k]; simp⟩
                  have hYL : (J ++ 40 :: Lib.join ((L.take k).map ringT) [44]).length ≤ 1000000 := by
                    have := HJL.out
                    rw [List.length_append, List.length_cons]
                    omega
                  clear hl hv2 hcv2 hB3 hok HPT HNX hjl HKL
                  generalize J ++ 40 :: Lib.join ((L.take k).map ringT) [44] = Y at HY2 hYL ⊢
                  generalize ringT l = M2 at HC2 hrl HY2
                  have r3 := fun w => run_bs_add (P := Tryz.prog) Y [44] (Y ++ [44]) (by rw [List.length_singleton]; omega) rfl w
                  have r4 := fun w => run_bs_add (P := Tryz.prog) (Y ++ [44]) M2 (Y ++ [44] ++ M2) (by rw [List.length_append, List.length_singleton]; omega) rfl w
                  generalize Y ++ [44] = Y1 at HY2 r3 r4
                  generalize Y1 ++ M2 = Y2 at HY2 r4
                  clear hrl hYL
                  go_wp2_with fail
                  refine HC2.out.mono ?_
                  rintro e w5 ⟨rfl, hb⟩
                  go_wp2
                  go_roundw
                  case rel => exact ⟨k + 1, by go_num, by omega, by rw [← HY2.out], HOK, below_on HB3.out hb⟩
                  case measure => simp [intOf]; omega
                · have hd0 : decide ((0 : Int) < (k : Int)) = false := by simp; omega
                  have HY2 : Hd (J ++ 40 :: Lib.join ((L.take k).map ringT) [44] ++ ringT l = J ++ 40 :: Lib.join ((L.take (k + 1)).map ringT) [44]) := ⟨by rw [HNX.out, if_neg h0k]; simp⟩
                  have hYL : (J ++ 40 :: Lib.join ((L.take k).map ringT) [44]).length ≤ 1000000 := by
                    have := HJL.out
                    rw [List.length_append, List.length_cons]
                    omega
                  clear hl hv2 hcv2 hB3 hok HPT HNX hjl HKL
                  generalize J ++ 40 :: Lib.join ((L.take k).map ringT) [44] = Y at HY2 hYL ⊢
                  generalize ringT l = M2 at HC2 hrl HY2
                  have r4 := fun w => run_bs_add (P := Tryz.prog) Y M2 (Y ++ M2) (by omega) rfl w
                  generalize Y ++ M2 = Y2 at HY2 r4
                  clear hrl hYL
                  go_wp2_with fail
                  refine HC2.out.mono ?_
                  rintro e w5 ⟨rfl, hb⟩
                  go_wp2
                  go_roundw
                  case rel => exact ⟨k + 1, by go_num, by omega, by rw [← HY2.out], HOK, below_on HB3.out hb⟩
                  case measure => simp [intOf]; omega
              · have HNO : Hd (¬ G) := ⟨fun h => hok (((HGQ.out.1 h) L HLM.out).2 l (List.mem_of_getElem? hl))⟩
                have HC2 : Hd (Calls Tryz.prog 51 #[v2] wr fun e w' => e = .returned (.tuple #[.string ⟨#[]⟩, .bool false]) ∧ Below wr.heap.size wr w') := ⟨HPT.out.mono fun e w' h => ⟨h.2.1 hok, h.2.2⟩⟩
                clear hl hv2 hcv2 hB3 hok HPT HNX hjl HKL hrl
                go_wp2_with fail
                refine HC2.out.mono ?_
                rintro e w5 ⟨rfl, hb⟩
                have hB5 := below_on HB3.out hb
                clear hb
                go_wp2
                go_ret2
                exact ⟨fun h => absurd h HNO.out, fun _ => rfl, HBW.out.trans (hB5.mono HBW.out.size)⟩
            · obtain rfl : k = L.length := by omega
              have hdk : decide (((L.length : Nat) : Int) < (L.length : Int)) = false := by simp
              have HPO : Hd (partOkP L) := ⟨⟨HLE.out, by have := HKL.out; rwa [List.take_length] at this⟩⟩
              have HOK := Hd.mk (all_take HK.out HLI.out HPO.out)
              have hjl := HJR.out L.length
              rw [List.take_length] at hjl ⊢
              have hYL : (J ++ 40 :: Lib.join (L.map ringT) [44]).length ≤ 1000000 := by
                have := HJL.out
                rw [List.length_append, List.length_cons]
                omega
              have HEN : Hd (mulW ++ 40 :: Lib.join ((M.take (i + 1)).map partT) [44] = J ++ 40 :: Lib.join (L.map ringT) [44] ++ [41]) := ⟨by
                rw [HEND.out, partT_join]
                simp⟩
              clear hjl HKL hB3
              generalize J ++ 40 :: Lib.join (L.map ringT) [44] = Y at HEN hYL ⊢
              have r4 := fun w => run_bs_add (P := Tryz.prog) Y [41] (Y ++ [41]) (by rw [List.length_singleton]; omega) rfl w
              generalize Y ++ [41] = Y2 at HEN r4
              go_wp2
              go_roundw
              case rel => exact ⟨i + 1, by go_num, by omega, by rw [← HEN.out], HOK, HBW.out.trans (HB3.out.mono HBW.out.size)⟩
              case measure => simp [intOf]; omega
        · have hd0 : decide ((0 : Int) < (i : Int)) = false := by simp; omega
          obtain ⟨J, hJ⟩ : ∃ J, J = mulW ++ 40 :: Lib.join ((M.take i).map partT) [44] := ⟨_, rfl⟩
          have HEND : Hd (mulW ++ 40 :: Lib.join ((M.take (i + 1)).map partT) [44] = J ++ partT L) := ⟨by rw [HNX.out, if_neg h0i, hJ]; simp⟩
          have HJL : Hd (J.length ≤ 200000) := ⟨by
            rw [hJ, List.length_append, List.length_cons]
            omega⟩
          have r2 := fun w => run_bs_add (P := Tryz.prog) J [40] (J ++ 40 :: Lib.join ((L.take 0).map ringT) [44]) (by have := HJL.out; rw [List.length_singleton]; omega) rfl w
          rw [← hJ]
          clear hcv hc1 hr1 hv hL hJ HNX hmj hLe
          go_wp2
          go_loopw [4, 6] (fun sv kv w2 => ∃ k : Nat, kv = .int .i64 k ∧ k ≤ L.length ∧ sv = .string (bs (J ++ 40 :: Lib.join ((L.take k).map ringT) [44])) ∧ Hd (∀ l ∈ L.take k, ringOkP l) ∧ Below wr.heap.size wr w2) (fun _ kv _ => L.length - (intOf kv).toNat)
          case atStart => exact ⟨0, rfl, Nat.zero_le _, rfl, ⟨by simp⟩, Below.refl _ _⟩
          case round =>
            obtain ⟨k, rfl, hkL, rfl, HKL, hB3⟩ := hrel
            have r9 := (hB3.cell l1).trans HQ.out
            have HB3 := Hd.mk hB3
            clear r2 q1
            by_cases hkl : k < L.length
            · have hdk : decide ((k : Int) < (L.length : Int)) = true := by simp; omega
              have hdk2 : decide (k < L.length) = true := by simp; omega
              obtain ⟨b2, o2, rfl, hcv2⟩ := HCR.out.1.below hB3 (by omega)
              obtain ⟨l, hl⟩ : ∃ l, L[k]? = some l := ⟨_, List.getElem?_eq_getElem hkl⟩
              obtain ⟨v2, hv2⟩ : ∃ v, us[k]? = some v := ⟨_, List.getElem?_eq_getElem (by omega)⟩
              have s1 := hcv2 k v2 hv2
              have HPT := Hd.mk (rpoints_any v2 l (HSL.out.2 l (List.mem_of_getElem? hl)) wr ((HCR.out.2.2 k v2 l hv2 hl).below hB3))
              have HNX := Hd.mk (join_next ringT hl)
              have hrl := ringT_len (HSL.out.2 l (List.mem_of_getElem? hl))
              have hjl := HJR.out k
              by_cases hok : ringOkP l
              · have HOK := Hd.mk (all_take HKL.out hl hok)
                have HC2 : Hd (Calls Tryz.prog 51 #[v2] wr fun e w' => e = .returned (.tuple #[.string (bs (ringT l)), .bool true]) ∧ Below wr.heap.size wr w') := ⟨HPT.out.mono fun e w' h => ⟨h.1 hok, h.2.2⟩⟩
                by_cases h0k : 0 < k
                · have hd0 : decide ((0 : Int) < (k : Int)) = true := by simp; omega
                  have HY2 : Hd (J ++ 40 :: Lib.join ((L.take k).map ringT) [44] ++ [44] ++ ringT l = J ++ 40 :: Lib.join ((L.take (k + 1)).map ringT) [44]) := ⟨by rw [HNX.out, if_pos h0k]; simp⟩
                  have hYL : (J ++ 40 :: Lib.join ((L.take k).map ringT) [44]).length ≤ 1000000 := by
                    have := HJL.out
                    rw [List.length_append, List.length_cons]
                    omega
                  clear hl hv2 hcv2 hB3 hok HPT HNX hjl HKL
                  generalize J ++ 40 :: Lib.join ((L.take k).map ringT) [44] = Y at HY2 hYL ⊢
                  generalize ringT l = M2 at HC2 hrl HY2
                  have r3 := fun w => run_bs_add (P := Tryz.prog) Y [44] (Y ++ [44]) (by rw [List.length_singleton]; omega) rfl w
                  have r4 := fun w => run_bs_add (P := Tryz.prog) (Y ++ [44]) M2 (Y ++ [44] ++ M2) (by rw [List.length_append, List.length_singleton]; omega) rfl w
                  generalize Y ++ [44] = Y1 at HY2 r3 r4
                  generalize Y1 ++ M2 = Y2 at HY2 r4
                  clear hrl hYL
                  go_wp2_with fail
                  refine HC2.out.mono ?_
                  rintro e w5 ⟨rfl, hb⟩
                  go_wp2
                  go_roundw
                  case rel => exact ⟨k + 1, by go_num, by omega, by rw [← HY2.out], HOK, below_on HB3.out hb⟩
                  case measure => simp [intOf]; omega
                · have hd0 : decide ((0 : Int) < (k : Int)) = false := by simp; omega
                  have HY2 : Hd (J ++ 40 :: Lib.join ((L.take k).map ringT) [44] ++ ringT l = J ++ 40 :: Lib.join ((L.take (k + 1)).map ringT) [44]) := ⟨by rw [HNX.out, if_neg h0k]; simp⟩
                  have hYL : (J ++ 40 :: Lib.join ((L.take k).map ringT) [44]).length ≤ 1000000 := by
                    have := HJL.out
                    rw [List.length_append, List.length_cons]
                    omega
                  clear hl hv2 hcv2 hB3 hok HPT HNX hjl HKL
                  generalize J ++ 40 :: Lib.join ((L.take k).map ringT) [44] = Y at HY2 hYL ⊢
                  generalize ringT l = M2 at HC2 hrl HY2
                  have r4 := fun w => run_bs_add (P := Tryz.prog) Y M2 (Y ++ M2) (by omega) rfl w
                  generalize Y ++ M2 = Y2 at HY2 r4
                  clear hrl hYL
                  go_wp2_with fail
                  refine HC2.out.mono ?_
                  rintro e w5 ⟨rfl, hb⟩
                  go_wp2
                  go_roundw
                  case rel => exact ⟨k + 1, by go_num, by omega, by rw [← HY2.out], HOK, below_on HB3.out hb⟩
                  case measure => simp [intOf]; omega
              · have HNO : Hd (¬ G) := ⟨fun h => hok (((HGQ.out.1 h) L HLM.out).2 l (List.mem_of_getElem? hl))⟩
                have HC2 : Hd (Calls Tryz.prog 51 #[v2] wr fun e w' => e = .returned (.tuple #[.string ⟨#[]⟩, .bool false]) ∧ Below wr.heap.size wr w') := ⟨HPT.out.mono fun e w' h => ⟨h.2.1 hok, h.2.2⟩⟩
                clear hl hv2 hcv2 hB3 hok HPT HNX hjl HKL hrl
                go_wp2_with fail
                refine HC2.out.mono ?_
                rintro e w5 ⟨rfl, hb⟩
                have hB5 := below_on HB3.out hb
                clear hb
                go_wp2
                go_ret2
                exact ⟨fun h => absurd h HNO.out, fun _ => rfl, HBW.out.trans (hB5.mono HBW.out.size)⟩
            · obtain rfl : k = L.length := by omega
              have hdk : decide (((L.length : Nat) : Int) < (L.length : Int)) = false := by simp
              have HPO : Hd (partOkP L) := ⟨⟨HLE.out, by have := HKL.out; rwa [List.take_length] at this⟩⟩
              have HOK := Hd.mk (all_take HK.out HLI.out HPO.out)
              have hjl := HJR.out L.length
              rw [List.take_length] at hjl ⊢
              have hYL : (J ++ 40 :: Lib.join (L.map ringT) [44]).length ≤ 1000000 := by
                have := HJL.out
                rw [List.length_append, List.length_cons]
                omega
              have HEN : Hd (mulW ++ 40 :: Lib.join ((M.take (i + 1)).map partT) [44] = J ++ 40 :: Lib.join (L.map ringT) [44] ++ [41]) := ⟨by
                rw [HEND.out, partT_join]
                simp⟩
              clear hjl HKL hB3
              generalize J ++ 40 :: Lib.join (L.map ringT) [44] = Y at HEN hYL ⊢
              have r4 := fun w => run_bs_add (P := Tryz.prog) Y [41] (Y ++ [41]) (by rw [List.length_singleton]; omega) rfl w
              generalize Y ++ [41] = Y2 at HEN r4
              go_wp2
              go_roundw
              case rel => exact ⟨i + 1, by go_num, by omega, by rw [← HEN.out], HOK, HBW.out.trans (HB3.out.mono HBW.out.size)⟩
              case measure => simp [intOf]; omega
    · obtain rfl : i = M.length := by omega
      have hd1 : decide (((M.length : Nat) : Int) < (M.length : Int)) = false := by simp
      have HG : Hd G := ⟨HGQ.out.2 (by have := HK.out; rwa [List.take_length] at this)⟩
      have hmj := HMJ.out M.length
      rw [List.take_length] at hmj ⊢
      have r4 := fun w => run_bs_add (P := Tryz.prog) (mulW ++ 40 :: Lib.join (M.map partT) [44]) [41] (mulW ++ 40 :: Lib.join (M.map partT) [44] ++ [41]) (by rw [List.length_append, List.length_cons, List.length_singleton]; omega) rfl w
      generalize mulW ++ 40 :: Lib.join (M.map partT) [44] = Y at r4 HE ⊢
      generalize Y ++ [41] = Y2 at r4 HE
      clear HK HMJ hmj
      go_wp2
      go_ret2
      exact ⟨fun _ => by rw [HE.out]; rfl, fun h => absurd HG.out h, hB⟩
end Go.Proofs.YtfchmikbebdflaaGreatDoor

namespace Go.Proofs.YtfchmikbebdflaaGreatDoor
open Go.RowKit Go.BigFrame Go.Shelf

def emptyB : ByteArray := ⟨#[77, 85, 76, 84, 73, 80, 79, 76, 89, 71, 79, 78, 32, 69, 77, 80, 84, 89]⟩
set_option maxRecDepth 100000 in
set_option maxHeartbeats 1000000 in
/-- Multi, of none. -/
theorem multi_zero (A : Option Addr) (c : Nat) (w : World) :
    Calls Tryz.prog 15 #[.slice A 0 c] w fun e w' => e = .returned (.tuple #[.string emptyB, .int .i64 0]) ∧ Below w.heap.size w w' := by
  have hmf : ∀ (fn : Fn) (first cap : Array Value) (w : World), (Instr.makeFunc fn first cap).run Tryz.prog w = .ok (.func fn first cap) w := fun _ _ _ _ => rfl
  unfold emptyB
  go_enter_defers Tryz.func15, Tryz.ntmps15
  go_upto_region 3 with (fail)
  refine abs_wp (fun W => W.heap[w.heap.size]? = some (.cells #[.string ⟨#[]⟩] 9 (0, 0)) ∧ W.heap[w.heap.size + 1]? = some (.cells #[.int .i64 0] 31 (0, 0)) ∧ Below w.heap.size w W) ⟨heap_old (heap_new _ _) _, heap_at (by simp) _, ((Below.refl _ _).alloc (Nat.le_refl _) _).alloc (by simp) _⟩ fun W4 ⟨y0, y1, hB⟩ => ?_
  have hW2 := wr_one (v' := .string ⟨#[77, 85, 76, 84, 73, 80, 79, 76, 89, 71, 79, 78, 32, 69, 77, 80, 84, 89]⟩) y0 (Below.refl _ _)
  have q1 := hW2.other _ _ (by omega) y1
  have c0 := cell_at y0
  have f0 := frozen_at y0
  have c1 := cell_at q1
  have f1 := frozen_at q1
  go_wp2
  have hB15 := hB.trans (hW2.below _ (Nat.le_refl _))
  have hW3 := wr_one (v' := .int .i64 0) q1 (Below.refl _ _)
  refine leaves_cons (f := 42) (args := #[.pointer (some ⟨w.heap.size, 0, none⟩), .pointer (some ⟨w.heap.size + 1, 0, none⟩)]) (by simp) (by simp [go_sem]) ?_
  refine (multi_idle _ _ _).mono ?_
  rintro e u' w9 ⟨rfl, rfl, rfl⟩
  refine abs_leaves (fun W => W.heap[w.heap.size]? = some (.cells #[.string ⟨#[77, 85, 76, 84, 73, 80, 79, 76, 89, 71, 79, 78, 32, 69, 77, 80, 84, 89]⟩] 9 (0, 0)) ∧ W.heap[w.heap.size + 1]? = some (.cells #[.int .i64 0] 31 (0, 0)) ∧ Below w.heap.size w W) ⟨hW3.other _ _ (by omega) hW2.here, hW3.here, hB15.trans (hW3.below _ (by omega))⟩ fun W ⟨y1, y2, hB⟩ => ?_
  have c1 := cell_at y1
  have c2 := cell_at y2
  simp [Leaves, settle, results, Tryz.results15, go_sem, c1, c2]
  exact hB
set_option maxRecDepth 100000 in
set_option maxHeartbeats 1000000 in
theorem rmulti_zero (A : Option Addr) (c : Nat) (w : World) :
    Calls Tryz.prog 16 #[.slice A 0 c] w fun e w' => e = .returned (.tuple #[.string emptyB, .int .i64 0]) ∧ Below w.heap.size w w' := by
  unfold emptyB
  go_enter Tryz.func16, Tryz.ntmps16
  go_wp2
  go_ret2
  exact ⟨rfl, Below.refl _ _⟩
/-- Both tell the same. -/
theorem both_multi (A : Option Addr) (c : Nat) (M : List (List (List Pq))) (h : ShortM M) (w : World) (hM : MultiIn w A M) : ∃ (t : ByteArray) (n : Int), ∀ W, Below w.heap.size w W →
    Calls Tryz.prog 15 #[.slice A M.length c] W (fun e w' => e = .returned (.tuple #[.string t, .int .i64 n]) ∧ Below W.heap.size W w') ∧
    Calls Tryz.prog 16 #[.slice A M.length c] W (fun e w' => e = .returned (.tuple #[.string t, .int .i64 n]) ∧ Below W.heap.size W w') := by
  by_cases h0 : M = []
  · subst h0
    exact ⟨emptyB, 0, fun W _ => ⟨multi_zero A c W, rmulti_zero A c W⟩⟩
  · have h1 := fun W hB => multi_some A c M h0 h W (hM.below hB)
    have h2 := fun W hB => rmulti_some A c M h0 h W (hM.below hB)
    by_cases hG : ∀ L ∈ M, partOkP L
    · exact ⟨bs (multiT M), 0, fun W hB => ⟨(h1 W hB).mono fun e w' k => ⟨k.1 hG, k.2.2⟩, (h2 W hB).mono fun e w' k => ⟨k.1 hG, k.2.2⟩⟩⟩
    · exact ⟨⟨#[]⟩, 2, fun W hB => ⟨(h1 W hB).mono fun e w' k => ⟨k.2.1 hG, k.2.2⟩, (h2 W hB).mono fun e w' k => ⟨k.2.1 hG, k.2.2⟩⟩⟩
def LenP (L : List (List Pq)) : Prop := L.length ≤ 5 ∧ ∀ l ∈ L, l.length ≤ 12
set_option maxRecDepth 100000 in
set_option maxHeartbeats 2000000 in
/-- The law. -/
theorem multis_any (A : Option Addr) (c : Nat) (M : List (List (List Pq))) (hlt : ∀ L ∈ M, ∀ l ∈ L, ∀ x ∈ l, ltX x) (w : World) (hV : Vars w) (hM : MultiIn w A M) :
    Calls Tryz.prog 5 #[.slice A M.length c] w fun e w' => e = .returned (.bool true) ∧ Below w.heap.size w w' := by
  have HV := Hd.mk hV
  have HM := Hd.mk hM
  have HLT := Hd.mk hlt
  clear hV hM hlt
  by_cases h5 : 5 < M.length
  · have hd1 : decide ((5 : Int) < (M.length : Int)) = true := by simp; omega
    go_enter Tryz.func5, Tryz.ntmps5
    go_wp2_with fail
    refine (wkt_works _ (HV.out.below (Below.refl _ _))).mono ?_
    rintro e w9 ⟨rfl, hb⟩
    have hB9 := below_on (Below.refl _ _) hb
    clear hb
    go_wp2
    go_ret
    exact ⟨rfl, hB9⟩
  · have hd1 : decide ((5 : Int) < (M.length : Int)) = false := by simp; omega
    have hM5 : M.length ≤ 5 := by omega
    obtain ⟨vs, hcl, hvl, hrs⟩ := HM.out
    have HR := Hd.mk (And.intro hcl hrs)
    clear hcl hrs h5
    go_enter Tryz.func5, Tryz.ntmps5
    go_wp2
    go_loopw [3] (fun iv wr => ∃ i : Nat, iv = .int .i64 i ∧ i ≤ M.length ∧ Hd (∀ L ∈ M.take i, LenP L) ∧ Below w.heap.size w wr) (fun iv _ => M.length - (intOf iv).toNat)
    case atStart => exact ⟨0, rfl, Nat.zero_le _, ⟨by simp⟩, Below.refl _ _⟩
    case round =>
      obtain ⟨i, rfl, hi, HK, hB⟩ := hrel
      by_cases hlt : i < M.length
      · have hd2 : decide ((i : Int) < (M.length : Int)) = true := by simp; omega
        have hd3 : decide (i < M.length) = true := by simp; omega
        obtain ⟨L, hL⟩ : ∃ L, M[i]? = some L := ⟨_, List.getElem?_eq_getElem hlt⟩
        obtain ⟨v, hv⟩ : ∃ v, vs[i]? = some v := ⟨_, List.getElem?_eq_getElem (by omega)⟩
        obtain ⟨b1, o1, rfl, hcv⟩ := HR.out.1.below hB (by omega)
        have q1 := hcv i v hv
        obtain ⟨A1, d1, us, rfl, hc1, hul, hr1⟩ := (HR.out.2 i v L hv hL).below hB
        have l1 := World.block_lt_of_cell? wr _ q1
        have HLI := Hd.mk hL
        clear hcv hv hL
        by_cases h6 : 5 < L.length
        · have hd4 : decide ((5 : Int) < (L.length : Int)) = true := by simp; omega
          clear hc1 hr1
          go_wp2_with fail
          refine (wkt_works _ (HV.out.below hB)).mono ?_
          rintro e w9 ⟨rfl, hb⟩
          have hB9 := below_on hB hb
          clear hb
          go_wp2
          go_ret
          exact ⟨rfl, hB9⟩
        · have hd4 : decide ((5 : Int) < (L.length : Int)) = false := by simp; omega
          have hL5 : L.length ≤ 5 := by omega
          have HBW := Hd.mk hB
          have HQ := Hd.mk q1
          have HCR := Hd.mk (And.intro hc1 hr1)
          clear hc1 hr1 h6
          go_wp2
          go_loopw [4] (fun kv w2 => ∃ k : Nat, kv = .int .i64 k ∧ k ≤ L.length ∧ Hd (∀ l ∈ L.take k, l.length ≤ 12) ∧ Below wr.heap.size wr w2) (fun kv _ => L.length - (intOf kv).toNat)
          case atStart => exact ⟨0, rfl, Nat.zero_le _, ⟨by simp⟩, Below.refl _ _⟩
          case round =>
            obtain ⟨k, rfl, hkL, HKL, hB3⟩ := hrel
            have r9 := (hB3.cell l1).trans HQ.out
            have HB3 := Hd.mk hB3
            clear q1
            by_cases hkl : k < L.length
            · have hdk : decide ((k : Int) < (L.length : Int)) = true := by simp; omega
              have hdk2 : decide (k < L.length) = true := by simp; omega
              obtain ⟨b2, o2, rfl, hcv2⟩ := HCR.out.1.below hB3 (by omega)
              obtain ⟨l, hl⟩ : ∃ l, L[k]? = some l := ⟨_, List.getElem?_eq_getElem hkl⟩
              obtain ⟨v2, hv2⟩ : ∃ v, us[k]? = some v := ⟨_, List.getElem?_eq_getElem (by omega)⟩
              have s1 := hcv2 k v2 hv2
              obtain ⟨A2, d2, rfl, _, _, _⟩ := HCR.out.2 k v2 l hv2 hl
              by_cases h7 : 12 < l.length
              · have hd5 : decide ((12 : Int) < (l.length : Int)) = true := by simp; omega
                clear hcv2 hv2 hl hB3
                have hBx : Below w.heap.size w wr := HBW.out.trans (HB3.out.mono HBW.out.size)
                go_wp2_with fail
                refine (wkt_works _ (HV.out.below hBx)).mono ?_
                rintro e w9 ⟨rfl, hb⟩
                have hB9 := below_on hBx hb
                clear hb
                go_wp2
                go_ret
                exact ⟨rfl, hB9⟩
              · have hd5 : decide ((12 : Int) < (l.length : Int)) = false := by simp; omega
                have HOK := Hd.mk (all_take (ok := fun l : List Pq => l.length ≤ 12) HKL.out hl (by show l.length ≤ 12; omega))
                clear hcv2 hv2 hl hB3
                go_wp2
                go_roundw
                case rel => exact ⟨k + 1, by go_num, by omega, HOK, HB3.out⟩
                case measure => simp [intOf]; omega
            · obtain rfl : k = L.length := by omega
              have hdk : decide (((L.length : Nat) : Int) < (L.length : Int)) = false := by simp
              have HOK := Hd.mk (all_take (ok := LenP) HK.out HLI.out ⟨hL5, by have := HKL.out; rwa [List.take_length] at this⟩)
              have hBx : Below w.heap.size w wr := HBW.out.trans (HB3.out.mono HBW.out.size)
              clear hB3
              go_wp2
              go_roundw
              case rel => exact ⟨i + 1, by go_num, by omega, HOK, hBx⟩
              case measure => simp [intOf]; omega
      · obtain rfl : i = M.length := by omega
        have hd2 : decide (((M.length : Nat) : Int) < (M.length : Int)) = false := by simp
        have hS : ShortM M := ⟨hM5, fun L hL => by
          have h := HK.out
          rw [List.take_length] at h
          exact ⟨(h L hL).1, fun l hl => ⟨(h L hL).2 l hl, HLT.out L hL l hl⟩⟩⟩
        obtain ⟨t, n, hT⟩ := both_multi A c M hS w HM.out
        have HT := Hd.mk hT
        have HB := Hd.mk hB
        clear hT hS
        go_wp2_with fail
        refine (HT.out _ HB.out).1.mono ?_
        rintro e w3 ⟨rfl, hb⟩
        have HB3 := Hd.mk (below_on HB.out hb)
        clear hb
        go_wp2_with fail
        refine (HT.out _ HB3.out).2.mono ?_
        rintro e w4 ⟨rfl, hb⟩
        have hB4 := below_on HB3.out hb
        clear hb
        go_wp2_with (first
          | (go_at_call 11; refine (numw_any _ _).mono ?_; rintro e w7 ⟨rfl, rfl⟩)
          | (go_at_call 7; refine (wkt_works _ (HV.out.below hB4)).mono ?_; rintro e w8 ⟨rfl, hb8⟩))
        go_ret
        exact ⟨rfl, below_on hB4 hb8⟩
end Go.Proofs.YtfchmikbebdflaaGreatDoor
