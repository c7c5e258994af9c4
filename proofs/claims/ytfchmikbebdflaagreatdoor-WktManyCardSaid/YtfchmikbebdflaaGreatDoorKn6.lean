/-
  The law WktMany. Conditions stand in each theorem.
-/
import Derived.Test.YtfchmikbebdflaaGreatDoorKl3
import Derived.Test.YtfchmikbebdflaaGreatDoorKl4
namespace Go.Proofs.YtfchmikbebdflaaGreatDoor
open Go.RowKit Go.BigFrame Go.Shelf

/-- Parts, each with a comma behind it. -/
def tied (ps : List Bs) : Bs := (ps.map (· ++ [44])).flatten
theorem tied_add (ps : List Bs) (q : Bs) : tied (ps ++ [q]) = tied ps ++ (q ++ [44]) := by simp [tied]
theorem join_tied (q : Bs) : ∀ ps : List Bs, Lib.join (ps ++ [q]) [44] = tied ps ++ q
  | [] => by simp [tied, Lib.join_one]
  | [p] => by
    show Lib.join [p, q] [44] = _
    rw [join_two, Lib.join_one]
    simp [tied]
  | p :: r :: ps => by
    have h := join_tied q (r :: ps)
    rw [List.cons_append, List.cons_append] at *
    rw [join_two, h]
    simp [tied]
theorem tied_join {ps : List Bs} (h : ps ≠ []) : tied ps = Lib.join ps [44] ++ [44] := by
  obtain ⟨qs, q, rfl⟩ : ∃ qs q, ps = qs ++ [q] := ⟨ps.dropLast, ps.getLast h, (List.dropLast_concat_getLast h).symm⟩
  rw [tied_add, join_tied]
  simp
theorem tied_len {B : Nat} : ∀ {ps : List Bs}, (∀ p ∈ ps, p.length ≤ B) → (tied ps).length ≤ ps.length * (B + 1)
  | [], _ => by simp [tied]
  | p :: r, h => by
    have h1 := h p (by simp)
    have h2 := tied_len (ps := r) fun x hx => h x (by simp [hx])
    have e : tied (p :: r) = (p ++ [44]) ++ tied r := by simp [tied]
    rw [e]
    simp
    have e2 : (r.length + 1) * (B + 1) = r.length * (B + 1) + (B + 1) := by rw [Nat.succ_mul]
    omega
theorem ringL_tied {l : List Nd} {p : Nd} (h : l[0]? = some p) : ringL l = 40 :: (tied (l.map nodeL) ++ (nodeL p ++ [41])) := by
  have e : l.take 1 = [p] := by
    cases l with
    | nil => simp at h
    | cons a r => simp at h; subst h; rfl
  unfold ringL bodyL
  rw [e, List.map_append]
  show 40 :: (Lib.join (l.map nodeL ++ [nodeL p]) [44] ++ [41]) = _
  rw [join_tied]
  simp
theorem rwnode_bs (p : Nd) (h : P64 p) (w : World) (hV : Vars w) : Calls Tryz.prog 33 #[.agg #[.int .i64 p.1, .int .i64 p.2]] w fun e w' => e = .returned (.string (bs (nodeL p))) ∧ Below w.heap.size w w' := by
  rw [← nodeS_bs]
  exact rwnode_text p.1 p.2 h.1 h.2 w hV
theorem bs_add (a b : Bs) : bs a ++ bs b = bs (a ++ b) := by
  apply bs_of
  simp
theorem run_bs_add {P : Program} (a b c : Bs) (h : a.length + b.length ≤ 100000000000) (e : a ++ b = c) (w : World) : (Op.stringOp .add (bs a) (bs b)).run P w = .ok (.string (bs c)) w := by
  have h1 := run_string_add_sum (P := P) w (bs a) (bs b) (by simp [ByteArray.size]; omega)
  rw [bs_add, e] at h1
  exact h1
set_option maxRecDepth 100000 in
set_option maxHeartbeats 4000000 in
/-- The reference's Text, of rings. -/
theorem rtext_rings (Ls : List (List Nd)) (hT : TextOk Ls) (A : Option Addr) (c : Nat) (w : World) (hV : Vars w) (hR : RingsIn w A Ls) :
    Calls Tryz.prog 10 #[.agg #[.bool false, .int .i64 0, .int .i64 0, .int .i64 0, .int .i64 0, .slice A Ls.length c]] w fun e w' => e = .returned (.string (bs (textL ⟨false, ((0, 0), (0, 0)), Ls⟩))) ∧ Below w.heap.size w w' := by
  obtain ⟨vs, hcl, hro⟩ := hR
  have HR := Hd.mk (And.intro hcl hro)
  have hvl := hro.1
  have HV := Hd.mk hV
  have HT := Hd.mk hT
  have hl9 := hT.2.1
  clear hcl hro hV hT
  go_enter Tryz.func10, Tryz.ntmps10
  go_upto_region 1 with (fail)
  refine abs_wp (fun W => W.heap[w.heap.size]? = some (.cells #[.bool false, .int .i64 0, .int .i64 0, .int .i64 0, .int .i64 0, .slice A Ls.length c] 29 (0, 0)) ∧ Below w.heap.size w W) ⟨heap_new _ _, (Below.refl _ _).alloc (Nat.le_refl _) _⟩ fun W0 ⟨z0, hB⟩ => ?_
  have c0 := cell_at z0
  go_wp2
  go_loopw [3, 4] (fun v iv wr => ∃ i : Nat, iv = .int .i64 i ∧ i ≤ Ls.length ∧ v = .string (bs (polW ++ Lib.join ((Ls.take i).map ringL) [44])) ∧ wr.heap[w.heap.size]? = some (.cells #[.bool false, .int .i64 0, .int .i64 0, .int .i64 0, .int .i64 0, .slice A Ls.length c] 29 (0, 0)) ∧ Below w.heap.size w wr) (fun _ iv _ => Ls.length - (intOf iv).toNat)
  case atStart => exact ⟨0, rfl, Nat.zero_le _, rfl, z0, hB⟩
  case round =>
    clear z0 hB c0
    obtain ⟨i, rfl, hi, rfl, z0, hB⟩ := hrel
    have c0 := cell_at z0
    by_cases hlt : i < Ls.length
    · have hd1 : decide ((i : Int) < (Ls.length : Int)) = true := by simp; omega
      have hd2 : decide (i < Ls.length) = true := by simp; omega
      obtain ⟨lr, hlr⟩ : ∃ lr, Ls[i]? = some lr := ⟨_, List.getElem?_eq_getElem hlt⟩
      obtain ⟨v, hv⟩ : ∃ v, vs[i]? = some v := ⟨_, List.getElem?_eq_getElem (by omega)⟩
      obtain ⟨p0, hp0⟩ : ∃ p, lr[0]? = some p := ⟨_, List.getElem?_eq_getElem (HT.out.2.2 lr (List.mem_of_getElem? hlr)).1⟩
      obtain ⟨J, hJ⟩ : ∃ J, J = polW ++ tied ((Ls.take i).map ringL) := ⟨_, rfl⟩
      obtain ⟨hr0, hr9, hr64⟩ := HT.out.2.2 lr (List.mem_of_getElem? hlr)
      have HJL : Hd (J.length ≤ 9100000000) := ⟨by
        have h1 := tied_len (B := 1000000) (ps := (Ls.take i).map ringL) (fun p hp => by
          obtain ⟨q, hq, rfl⟩ := List.mem_map.1 hp
          have := HT.out.2.2 q (List.mem_of_mem_take hq)
          exact ringL_len this.2.1 this.2.2)
        rw [List.length_map, List.length_take] at h1
        rw [hJ, List.length_append]
        have h2 : min i Ls.length ≤ 9000 := by omega
        have h3 : min i Ls.length * (1000000 + 1) ≤ 9000 * (1000000 + 1) := Nat.mul_le_mul_right _ h2
        have h4 : polW.length = 8 := rfl
        omega⟩
      have HNL : Hd (∀ k, (tied ((lr.take k).map nodeL)).length ≤ 396000) := ⟨fun k => by
        have h1 := tied_len (B := 43) (ps := (lr.take k).map nodeL) (fun p hp => by
          obtain ⟨q, hq, rfl⟩ := List.mem_map.1 hp
          exact nodeL_len (hr64 q (List.mem_of_mem_take hq)))
        rw [List.length_map, List.length_take] at h1
        have h2 : min k lr.length ≤ 9000 := by omega
        have h3 : min k lr.length * (43 + 1) ≤ 9000 * (43 + 1) := Nat.mul_le_mul_right _ h2
        omega⟩
      have HEND : Hd (polW ++ Lib.join ((Ls.take (i + 1)).map ringL) [44] = J ++ (40 :: tied (lr.map nodeL)) ++ nodeL p0 ++ [41]) := ⟨by
        rw [List.take_add_one, hlr, List.map_append]
        show polW ++ Lib.join ((Ls.take i).map ringL ++ [ringL lr]) [44] = _
        rw [join_tied, ringL_tied hp0, hJ]
        simp⟩
      have r2 := fun w => run_bs_add (P := Tryz.prog) J [40] (J ++ 40 :: tied ((lr.take 0).map nodeL)) (by have := HJL.out; simp; omega) rfl w
      obtain ⟨b1, o1, rfl, hcv⟩ := HR.out.1.below hB (by omega)
      have q1 := hcv i v hv
      obtain ⟨A1, d1, rfl, _, _, hn1⟩ := HR.out.2.2 i v lr hv hlr
      have l1 := World.block_lt_of_cell? wr _ q1
      have HQ := Hd.mk (And.intro q1 (And.intro z0 hB))
      have HN := Hd.mk (hn1.below hB)
      have H64 := Hd.mk hr64
      have HP0 := Hd.mk hp0
      clear hcv hn1 hv hlr hp0 hr64
      by_cases h0 : 0 < i
      · have hne0 : (Ls.take i).map ringL ≠ [] := fun e => by
          have := congrArg List.length e
          rw [List.length_map, List.length_take, List.length_nil] at this
          omega
        have r1 := fun w => run_bs_add (P := Tryz.prog) (polW ++ Lib.join ((Ls.take i).map ringL) [44]) [44] J (by have := HJL.out; rw [hJ, tied_join hne0, ← List.append_assoc, List.length_append] at this; rw [List.length_singleton] at this ⊢; omega) (by rw [hJ, tied_join hne0, List.append_assoc]) w
        have hd0 : decide ((0 : Int) < (i : Int)) = true := by simp; omega
        clear hJ
        generalize polW ++ Lib.join ((Ls.take i).map ringL) [44] = X at r1
        clear hne0
        go_wp2
        go_loopw [3, 5] (fun v kv w2 => ∃ k : Nat, kv = .int .i64 k ∧ k ≤ lr.length ∧ v = .string (bs (J ++ 40 :: tied ((lr.take k).map nodeL))) ∧ Below wr.heap.size wr w2) (fun _ kv _ => lr.length - (intOf kv).toNat)
        case atStart => exact ⟨0, rfl, Nat.zero_le _, rfl, Below.refl _ _⟩
        case round =>
          obtain ⟨k, rfl, hk, rfl, hB3⟩ := hrel
          have x0 := heap_below hB3 HQ.out.2.1
          have r9 := (hB3.cell l1).trans HQ.out.1
          have c0 := cell_at x0
          have HB3 := Hd.mk (And.intro hB3 (And.intro (below_on HQ.out.2.2 hB3) x0))
          clear r2
          by_cases hkl : k < lr.length
          · have hdk : decide ((k : Int) < (lr.length : Int)) = true := by simp; omega
            have hdk2 : decide (k < lr.length) = true := by simp; omega
            obtain ⟨f1, g1', rfl, hc1⟩ := (HN.out.below hB3) (by omega)
            obtain ⟨⟨x, y⟩, hp⟩ : ∃ p, lr[k]? = some p := ⟨_, List.getElem?_eq_getElem hkl⟩
            obtain ⟨s1, s2⟩ := hc1 k (x, y) hp
            have h64 := H64.out _ (List.mem_of_getElem? hp)
            have HND : Hd (∀ W, Vars W → Calls Tryz.prog 33 #[.agg #[.int .i64 x, .int .i64 y]] W fun e w' => e = .returned (.string (bs (nodeL (x, y)))) ∧ Below W.heap.size W w') := ⟨fun W hv => rwnode_bs (x, y) h64 W hv⟩
            have hnl := nodeL_len h64
            have hyl := HNL.out k
            have HY2 : Hd (J ++ 40 :: tied ((lr.take k).map nodeL) ++ nodeL (x, y) ++ [44] = J ++ 40 :: tied ((lr.take (k + 1)).map nodeL)) := ⟨by
              rw [List.take_add_one, hp, List.map_append]
              show _ = J ++ 40 :: tied ((lr.take k).map nodeL ++ [nodeL (x, y)])
              rw [tied_add]
              simp⟩
            have hYL : (J ++ 40 :: tied ((lr.take k).map nodeL)).length ≤ 9200000000 := by
              have := HJL.out
              rw [List.length_append, List.length_cons]
              omega
            clear hp hc1 hB3 x0 hyl h64
            generalize J ++ 40 :: tied ((lr.take k).map nodeL) = Y at HY2 hYL ⊢
            generalize nodeL (x, y) = M at HND hnl HY2
            have r3 := fun w => run_bs_add (P := Tryz.prog) Y M (Y ++ M) (by omega) rfl w
            have r4 := fun w => run_bs_add (P := Tryz.prog) (Y ++ M) [44] (Y ++ M ++ [44]) (by rw [List.length_append, List.length_singleton]; omega) rfl w
            generalize Y ++ M = Y1 at HY2 r3 r4
            generalize Y1 ++ [44] = Y2 at HY2 r4
            clear hnl hYL
            go_wp2_with fail
            refine (HND.out _ (HV.out.below HB3.out.2.1)).mono ?_
            rintro e w5 ⟨rfl, hb⟩
            go_wp2
            go_roundw
            case rel => exact ⟨k + 1, by go_num, by omega, by rw [← HY2.out], below_on HB3.out.1 hb⟩
            case measure => simp [intOf]; omega
          · obtain rfl : k = lr.length := by omega
            have hdk : decide (((lr.length : Nat) : Int) < (lr.length : Int)) = false := by simp
            have hdk2 : decide (0 < lr.length) = true := by simp; omega
            obtain ⟨f1, g1', rfl, hc1⟩ := (HN.out.below hB3) (by omega)
            obtain ⟨x, y⟩ := p0
            obtain ⟨s1, s2⟩ := hc1 0 (x, y) HP0.out
            rw [Nat.zero_mul, Nat.add_zero] at s1 s2
            have h64 := H64.out _ (List.mem_of_getElem? HP0.out)
            have HND : Hd (∀ W, Vars W → Calls Tryz.prog 33 #[.agg #[.int .i64 x, .int .i64 y]] W fun e w' => e = .returned (.string (bs (nodeL (x, y)))) ∧ Below W.heap.size W w') := ⟨fun W hv => rwnode_bs (x, y) h64 W hv⟩
            have hnl := nodeL_len h64
            have hyl := HNL.out lr.length
            rw [List.take_length] at hyl ⊢
            have hYL : (J ++ 40 :: tied (lr.map nodeL)).length ≤ 9200000000 := by
              have := HJL.out
              rw [List.length_append, List.length_cons]
              omega
            clear hc1 hB3 x0 hyl h64
            generalize J ++ 40 :: tied (lr.map nodeL) = Y at HEND hYL ⊢
            generalize nodeL (x, y) = M at HND hnl HEND
            have r3 := fun w => run_bs_add (P := Tryz.prog) Y M (Y ++ M) (by omega) rfl w
            have r4 := fun w => run_bs_add (P := Tryz.prog) (Y ++ M) [41] (Y ++ M ++ [41]) (by rw [List.length_append, List.length_singleton]; omega) rfl w
            generalize Y ++ M = Y1 at HEND r3 r4
            generalize Y1 ++ [41] = Y2 at HEND r4
            clear hnl hYL
            go_wp2_with fail
            refine (HND.out _ (HV.out.below HB3.out.2.1)).mono ?_
            rintro e w5 ⟨rfl, hb⟩
            have hB6 := below_on HB3.out.2.1 hb
            have y0 := heap_below hb HB3.out.2.2
            clear hb
            go_wp2
            go_roundw
            case rel => exact ⟨i + 1, by go_num, by omega, by rw [← HEND.out], y0, hB6⟩
            case measure => simp [intOf]; omega
      · have hd0 : decide ((0 : Int) < (i : Int)) = false := by simp; omega
        have hXJ : polW ++ Lib.join ((Ls.take i).map ringL) [44] = J := by
          obtain rfl : i = 0 := by omega
          rw [hJ]
          rfl
        clear hJ
        rw [hXJ]
        clear hXJ
        go_wp2
        go_loopw [3, 5] (fun v kv w2 => ∃ k : Nat, kv = .int .i64 k ∧ k ≤ lr.length ∧ v = .string (bs (J ++ 40 :: tied ((lr.take k).map nodeL))) ∧ Below wr.heap.size wr w2) (fun _ kv _ => lr.length - (intOf kv).toNat)
        case atStart => exact ⟨0, rfl, Nat.zero_le _, rfl, Below.refl _ _⟩
        case round =>
          obtain ⟨k, rfl, hk, rfl, hB3⟩ := hrel
          have x0 := heap_below hB3 HQ.out.2.1
          have r9 := (hB3.cell l1).trans HQ.out.1
          have c0 := cell_at x0
          have HB3 := Hd.mk (And.intro hB3 (And.intro (below_on HQ.out.2.2 hB3) x0))
          clear r2
          by_cases hkl : k < lr.length
          · have hdk : decide ((k : Int) < (lr.length : Int)) = true := by simp; omega
            have hdk2 : decide (k < lr.length) = true := by simp; omega
            obtain ⟨f1, g1', rfl, hc1⟩ := (HN.out.below hB3) (by omega)
            obtain ⟨⟨x, y⟩, hp⟩ : ∃ p, lr[k]? = some p := ⟨_, List.getElem?_eq_getElem hkl⟩
            obtain ⟨s1, s2⟩ := hc1 k (x, y) hp
            have h64 := H64.out _ (List.mem_of_getElem? hp)
            have HND : Hd (∀ W, Vars W → Calls Tryz.prog 33 #[.agg #[.int .i64 x, .int .i64 y]] W fun e w' => e = .returned (.string (bs (nodeL (x, y)))) ∧ Below W.heap.size W w') := ⟨fun W hv => rwnode_bs (x, y) h64 W hv⟩
            have hnl := nodeL_len h64
            have hyl := HNL.out k
            have HY2 : Hd (J ++ 40 :: tied ((lr.take k).map nodeL) ++ nodeL (x, y) ++ [44] = J ++ 40 :: tied ((lr.take (k + 1)).map nodeL)) := ⟨by
              rw [List.take_add_one, hp, List.map_append]
              show _ = J ++ 40 :: tied ((lr.take k).map nodeL ++ [nodeL (x, y)])
              rw [tied_add]
              simp⟩
            have hYL : (J ++ 40 :: tied ((lr.take k).map nodeL)).length ≤ 9200000000 := by
              have := HJL.out
              rw [List.length_append, List.length_cons]
              omega
            clear hp hc1 hB3 x0 hyl h64
            generalize J ++ 40 :: tied ((lr.take k).map nodeL) = Y at HY2 hYL ⊢
            generalize nodeL (x, y) = M at HND hnl HY2
            have r3 := fun w => run_bs_add (P := Tryz.prog) Y M (Y ++ M) (by omega) rfl w
            have r4 := fun w => run_bs_add (P := Tryz.prog) (Y ++ M) [44] (Y ++ M ++ [44]) (by rw [List.length_append, List.length_singleton]; omega) rfl w
            generalize Y ++ M = Y1 at HY2 r3 r4
            generalize Y1 ++ [44] = Y2 at HY2 r4
            clear hnl hYL
            go_wp2_with fail
            refine (HND.out _ (HV.out.below HB3.out.2.1)).mono ?_
            rintro e w5 ⟨rfl, hb⟩
            go_wp2
            go_roundw
            case rel => exact ⟨k + 1, by go_num, by omega, by rw [← HY2.out], below_on HB3.out.1 hb⟩
            case measure => simp [intOf]; omega
          · obtain rfl : k = lr.length := by omega
            have hdk : decide (((lr.length : Nat) : Int) < (lr.length : Int)) = false := by simp
            have hdk2 : decide (0 < lr.length) = true := by simp; omega
            obtain ⟨f1, g1', rfl, hc1⟩ := (HN.out.below hB3) (by omega)
            obtain ⟨x, y⟩ := p0
            obtain ⟨s1, s2⟩ := hc1 0 (x, y) HP0.out
            rw [Nat.zero_mul, Nat.add_zero] at s1 s2
            have h64 := H64.out _ (List.mem_of_getElem? HP0.out)
            have HND : Hd (∀ W, Vars W → Calls Tryz.prog 33 #[.agg #[.int .i64 x, .int .i64 y]] W fun e w' => e = .returned (.string (bs (nodeL (x, y)))) ∧ Below W.heap.size W w') := ⟨fun W hv => rwnode_bs (x, y) h64 W hv⟩
            have hnl := nodeL_len h64
            have hyl := HNL.out lr.length
            rw [List.take_length] at hyl ⊢
            have hYL : (J ++ 40 :: tied (lr.map nodeL)).length ≤ 9200000000 := by
              have := HJL.out
              rw [List.length_append, List.length_cons]
              omega
            clear hc1 hB3 x0 hyl h64
            generalize J ++ 40 :: tied (lr.map nodeL) = Y at HEND hYL ⊢
            generalize nodeL (x, y) = M at HND hnl HEND
            have r3 := fun w => run_bs_add (P := Tryz.prog) Y M (Y ++ M) (by omega) rfl w
            have r4 := fun w => run_bs_add (P := Tryz.prog) (Y ++ M) [41] (Y ++ M ++ [41]) (by rw [List.length_append, List.length_singleton]; omega) rfl w
            generalize Y ++ M = Y1 at HEND r3 r4
            generalize Y1 ++ [41] = Y2 at HEND r4
            clear hnl hYL
            go_wp2_with fail
            refine (HND.out _ (HV.out.below HB3.out.2.1)).mono ?_
            rintro e w5 ⟨rfl, hb⟩
            have hB6 := below_on HB3.out.2.1 hb
            have y0 := heap_below hb HB3.out.2.2
            clear hb
            go_wp2
            go_roundw
            case rel => exact ⟨i + 1, by go_num, by omega, by rw [← HEND.out], y0, hB6⟩
            case measure => simp [intOf]; omega
    · obtain rfl : i = Ls.length := by omega
      have hd1 : decide (((Ls.length : Nat) : Int) < (Ls.length : Int)) = false := by simp
      have HTL := Hd.mk (tailL_len2 HT.out)
      have r1 := fun w => run_bs_add (P := Tryz.prog) (polW ++ Lib.join (Ls.map ringL) [44]) [41] (textL ⟨false, ((0, 0), (0, 0)), Ls⟩) (by have := HTL.out; unfold tailL at this; simp [polW] at this ⊢; omega) (by simp [textL, tailL]) w
      rw [List.take_length]
      go_wp2
      go_ret
      exact ⟨rfl, hB⟩
end Go.Proofs.YtfchmikbebdflaaGreatDoor

namespace Go.Proofs.YtfchmikbebdflaaGreatDoor
open Go.RowKit Go.BigFrame Go.Shelf

def tri : List Nd := [(0, 0), (1, 0), (0, 1)]
/-- n rings of three corners, the last with m more. -/
def manyL (n m : Nat) : List (List Nd) := List.replicate (n - 1) tri ++ [tri ++ (List.range m).map fun (k : Nat) => (((3 * n + k : Nat) : Int), (0 : Int))]
theorem manyL_len {n m : Nat} (h : 0 < n) : (manyL n m).length = n := by simp [manyL]; omega
theorem manyL_total {n m : Nat} (h : 0 < n) : total (manyL n m) = 3 * n + m := by
  have e : ∀ k, ((List.replicate k tri).map List.length).sum = 3 * k := fun k => by
    induction k with
    | zero => rfl
    | succ k ih => rw [List.replicate_succ, List.map_cons, List.sum_cons, ih]; simp [tri]; omega
  unfold total manyL
  rw [List.map_append, List.sum_append, e]
  simp [tri]
  omega
theorem manyL_ok {n m : Nat} (hn : n ≤ 3) (hm : m ≤ 600) : ∀ l ∈ manyL n m, RingOk l ∧ l.length ≤ 603 := by
  have ht : RingOk tri := ⟨by decide, by decide⟩
  intro l hl
  unfold manyL at hl
  rcases List.mem_append.1 hl with h | h
  · obtain rfl := (List.mem_replicate.1 h).2
    exact ⟨ht, by decide⟩
  · rw [List.mem_singleton] at h
    subst h
    refine ⟨⟨by simp [tri], fun p hp => ?_⟩, by simp [tri]; omega⟩
    rcases List.mem_append.1 hp with h | h
    · exact ht.2 p h
    · obtain ⟨k, hk, rfl⟩ := List.mem_map.1 h
      have := List.mem_range.1 hk
      unfold nodeB inR
      simp
      omega
theorem manyL_text {n m : Nat} (h0 : 0 < n) (hn : n ≤ 3) (hm : m ≤ 600) : TextOk (manyL n m) ∧ (textL ⟨false, ((0, 0), (0, 0)), manyL n m⟩).length ≤ 1000000 := by
  have hok := manyL_ok hn hm (n := n) (m := m)
  have hl := manyL_len h0 (m := m)
  have hT : TextOk (manyL n m) := ⟨fun e => by rw [e] at hl; simp at hl; omega, by omega, fun l hm' => by
    have h1 := hok l hm'
    have h2 := h1.1.1
    exact ⟨by omega, by omega, fun p hp => node_64 (h1.1.2 p hp)⟩⟩
  refine ⟨hT, ?_⟩
  have hlen : ∀ p ∈ (manyL n m).map ringL, p.length ≤ 30000 := fun p hp => by
    obtain ⟨q, hq, rfl⟩ := List.mem_map.1 hp
    have h1 := join_le (B := 43) (ps := (q ++ q.take 1).map nodeL) (fun p hp => by
      obtain ⟨r, hr, rfl⟩ := List.mem_map.1 hp
      rcases List.mem_append.1 hr with h2 | h2
      · exact nodeL_len ((hT.2.2 q hq).2.2 r h2)
      · exact nodeL_len ((hT.2.2 q hq).2.2 r (List.mem_of_mem_take h2)))
    have h3 := (hok q hq).2
    rw [List.length_map, List.length_append, List.length_take] at h1
    unfold ringL bodyL
    rw [List.length_cons, List.length_append, List.length_cons, List.length_nil]
    omega
  have h5 := join_le hlen
  rw [List.length_map, hl] at h5
  have h6 : n * (30000 + 1) ≤ 3 * (30000 + 1) := Nat.mul_le_mul_right _ hn
  rw [textL, if_neg (by simp), List.length_append]
  unfold tailL
  have h7 : polW.length = 8 := rfl
  simp
  omega
/-- What the law's rings say: the number that is wanted, and what Parse makes of their text. -/
theorem manyL_says {n m : Nat} (h0 : 0 < n) (hn : n ≤ 3) (hm : m ≤ 600) :
    checkV ⟨false, ((0, 0), (0, 0)), manyL n m⟩ = (if 512 < 3 * n + m then 3 else 0) ∧ (parseS (textL ⟨false, ((0, 0), (0, 0)), manyL n m⟩)).2 = (if 512 < 3 * n + m then 3 else 0) := by
  obtain ⟨hT, hl⟩ := manyL_text h0 hn hm
  have hok : ∀ l ∈ manyL n m, RingOk l := fun l h => (manyL_ok hn hm l h).1
  have hc := checkV_ok hT.1 hok
  rw [manyL_total h0] at hc
  refine ⟨hc, ?_⟩
  by_cases hb : 512 < 3 * n + m
  · rw [if_pos hb, wparse_many hT.1 hok (by rw [manyL_total h0]; exact hb) (by omega)]
  · rw [if_neg hb] at hc ⊢
    rw [wparse_text hc (by omega)]
end Go.Proofs.YtfchmikbebdflaaGreatDoor

namespace Go.Proofs.YtfchmikbebdflaaGreatDoor
open Go.RowKit Go.BigFrame Go.Shelf
attribute [-go_sem] Builtin.append_

/-- A triangle's slice. -/
def S3 (b : Nat) : Value := .slice (some ⟨b, 0, none⟩) 3 3
def triC : Array Value := #[.int .i64 0, .int .i64 0, .int .i64 1, .int .i64 0, .int .i64 0, .int .i64 1]
/-- The state while rings are built: the blocks of the triangles rise. -/
structure MSt (w : World) (zs : List Nat) (v : Value) (W : World) : Prop where
  buf : W.heap[w.heap.size]? = some (.cells #[.bool false, .int .i64 0, .int .i64 0, .int .i64 0, .int .i64 0, v] 29 (0, 0))
  own : W.ownsRow (w.heap.size + 1) 30 1 v zs.length (zs.map S3)
  tris : ∀ b ∈ zs, W.heap[b]? = some (.cells triC 24 (0, 0))
  rise : zs.Pairwise (· < ·)
  lo : ∀ b ∈ zs, w.heap.size < b
  low : Below w.heap.size w W
theorem MSt.below {w W W' : World} {zs : List Nat} {v : Value} (h : MSt w zs v W) (hb : Below W.heap.size W W') : MSt w zs v W' :=
  ⟨heap_below hb h.buf, own_below h.own hb, fun b hm => heap_below hb (h.tris b hm), h.rise, h.lo, below_on h.low hb⟩
theorem MSt.push {w W w1 : World} {zs : List Nat} {v : Value} (h : MSt w zs v W) {z : Nat} {v' : Value} (hz : W.heap[z]? = some (.cells triC 24 (0, 0))) (hzs : ∀ b ∈ zs, b < z) (hzl : w.heap.size < z) {ty : TypeId}
    (hown : w1.ownsRow (w.heap.size + 1) 30 1 v' (zs.length + 1) (zs.map S3 ++ [S3 z])) (hgrow : (W.alloc (.cells #[S3 z] ty)).grownBy w1 v.ownBlock) :
    MSt w (zs ++ [z]) v' (w1.setCell ⟨w.heap.size, 5, none⟩ v') ∧ (∀ o, w1.cell? ⟨w.heap.size, o, none⟩ = (#[.bool false, .int .i64 0, .int .i64 0, .int .i64 0, .int .i64 0, v] : Array Value)[o]?) ∧ (∀ o, w1.frozen? ⟨w.heap.size, o, none⟩ = false) := by
  have hold : ∀ k o, W.heap[k]? = some o → v.ownBlock ≠ some k → w1.heap[k]? = some o := fun k o ho hne => (hgrow.block k (by have := lt_of_block ho; simp; omega) (fun e => hne e.symm)).trans (heap_old ho _)
  have ne : ∀ {b : Nat} {cs : Array Value} {T : TypeId}, W.heap[b]? = some (.cells cs T (0, 0)) → T ≠ 30 → v.ownBlock ≠ some b := fun hb hT => by
    rcases own_ne h.own hb hT with e | e
    · rw [e]
      exact fun x => by cases x
    · exact e
  have y2 := hold _ _ h.buf (ne h.buf (by decide))
  have hk1 : NKept W w1 := fun k cur e => hold k _ e (ne e (by decide))
  have hW : Wr w.heap.size #[.bool false, .int .i64 0, .int .i64 0, .int .i64 0, .int .i64 0, v'] 29 w1 (w1.setCell ⟨w.heap.size, 5, none⟩ v') :=
    ⟨(heap_set y2 5 v').trans (by rfl), fun k o hk ho => heap_set_other ho hk _, fun n hn => (Below.refl n w1).setCell (p := ⟨w.heap.size, 5, none⟩) hn _⟩
  have hk2 : NKept w1 (w1.setCell ⟨w.heap.size, 5, none⟩ v') := NKept.wr hW y2 (by decide)
  have hlow : Below w.heap.size W w1 := (Below.alloc (Below.refl w.heap.size W) (by have := lt_of_block h.buf; omega) _).trans (below_grown hgrow (fun k hk => by have := (h.own.lt k hk).1; omega) (by have := lt_of_block h.buf; simp; omega))
  refine ⟨⟨hW.here, ?_, fun b hb => ?_, ?_, fun b hb => ?_, (h.low.trans hlow).trans (hW.below _ (by omega))⟩, cell_at y2, frozen_at y2⟩
  · rw [List.length_append, List.map_append]
    exact hown.kept hW.grown (own_ne hown y2 (by decide))
  · refine (hk1.trans hk2) b _ ?_
    rcases List.mem_append.1 hb with h1 | h1
    · exact h.tris b h1
    · rw [List.mem_singleton] at h1
      subst h1
      exact hz
  · exact List.pairwise_append.2 ⟨h.rise, List.pairwise_singleton _ _, fun a ha b hb => by
      rw [List.mem_singleton] at hb
      subst hb
      exact hzs a ha⟩
  · rcases List.mem_append.1 hb with h1 | h1
    · exact h.lo b h1
    · rw [List.mem_singleton] at h1
      subst h1
      exact hzl
set_option maxRecDepth 100000 in
set_option maxHeartbeats 4000000 in
/-- WktMany, out of its range. -/
theorem many_out (d n : Int) (h : ¬ (-1 ≤ d ∧ d ≤ 1 ∧ 1 ≤ n ∧ n ≤ 3)) (w : World) (hV : Vars w) :
    Calls Tryz.prog 3 #[.int .i64 d, .int .i64 n] w fun e w' => e = .returned (.bool true) ∧ Below w.heap.size w w' := by
  have HW : Hd (∀ W, Below w.heap.size w W → Calls Tryz.prog 7 #[] W fun e w' => e = .returned (.bool true) ∧ Below W.heap.size W w') := ⟨fun W hB => wkt_works W (hV.below hB)⟩
  have hB := Below.refl w.heap.size w
  by_cases h1 : d < -1
  · have hd1 : decide (d < -1) = true := by simp; omega
    go_enter Tryz.func3, Tryz.ntmps3
    go_wp2_with fail
    refine (HW.out _ hB).mono ?_
    rintro e w1 ⟨rfl, hb⟩
    go_wp2
    go_ret
    exact ⟨rfl, hb⟩
  · have hd1 : decide (d < -1) = false := by simp; omega
    by_cases h2 : 1 < d
    · have hd2 : decide (1 < d) = true := by simp; omega
      go_enter Tryz.func3, Tryz.ntmps3
      go_wp2_with fail
      refine (HW.out _ hB).mono ?_
      rintro e w1 ⟨rfl, hb⟩
      go_wp2
      go_ret
      exact ⟨rfl, hb⟩
    · have hd2 : decide (1 < d) = false := by simp; omega
      by_cases h3 : n < 1
      · have hd3 : decide (n < 1) = true := by simp; omega
        go_enter Tryz.func3, Tryz.ntmps3
        go_wp2_with fail
        refine (HW.out _ hB).mono ?_
        rintro e w1 ⟨rfl, hb⟩
        go_wp2
        go_ret
        exact ⟨rfl, hb⟩
      · have hd3 : decide (n < 1) = false := by simp; omega
        have hd4 : decide (3 < n) = true := by simp; omega
        go_enter Tryz.func3, Tryz.ntmps3
        go_wp2_with fail
        refine (HW.out _ hB).mono ?_
        rintro e w1 ⟨rfl, hb⟩
        go_wp2
        go_ret
        exact ⟨rfl, hb⟩
end Go.Proofs.YtfchmikbebdflaaGreatDoor

namespace Go.Proofs.YtfchmikbebdflaaGreatDoor
open Go.RowKit Go.BigFrame Go.Shelf

/-- The state while the last ring grows: zs the others' blocks, z where the last ring began, gg the row's block. -/
structure M2 (w : World) (zs : List Nat) (z gg cc : Nat) (vl : Value) (l : List Nd) (W : World) : Prop where
  buf : W.heap[w.heap.size]? = some (.cells #[.bool false, .int .i64 0, .int .i64 0, .int .i64 0, .int .i64 0, .slice (some ⟨gg, 0, none⟩) (zs.length + 1) cc] 29 (0, 0))
  row : ∃ cur, W.heap[gg]? = some (.cells cur 30 (0, 0)) ∧ (∀ (j b : Nat), zs[j]? = some b → cur[j]? = some (S3 b)) ∧ cur[zs.length]? = some vl
  ggl : w.heap.size < gg
  tris : ∀ b ∈ zs, b < z ∧ W.heap[b]? = some (.cells triC 24 (0, 0))
  last : W.ownsRow z 24 2 vl l.length (ndsC l)
  zl : w.heap.size < z
  low : Below w.heap.size w W
theorem M2.below {w W W' : World} {zs : List Nat} {z gg cc : Nat} {vl : Value} {l : List Nd} (h : M2 w zs z gg cc vl l W) (hb : Below W.heap.size W W') : M2 w zs z gg cc vl l W' := by
  obtain ⟨cur, h1, h2⟩ := h.row
  exact ⟨heap_below hb h.buf, ⟨cur, heap_below hb h1, h2⟩, h.ggl, fun b hm => ⟨(h.tris b hm).1, heap_below hb (h.tris b hm).2⟩, own_below h.last hb, h.zl, below_on h.low hb⟩
theorem M2.push {w W w1 : World} {zs : List Nat} {z gg cc : Nat} {vl : Value} {l : List Nd} (h : M2 w zs z gg cc vl l W) {p : Nd} {v' : Value} {cs : Array Value} {ty : TypeId}
    (hown : w1.ownsRow z 24 2 v' (l.length + 1) (ndsC l ++ ndsC [p])) (hgrow : (W.alloc (.cells cs ty)).drew.grownBy w1 vl.ownBlock) :
    M2 w zs z gg cc v' (l ++ [p]) (w1.setCell ⟨gg, zs.length, none⟩ v') ∧ w1.cell? ⟨gg, zs.length, none⟩ = some vl ∧ (∀ o, w1.frozen? ⟨gg, o, none⟩ = false) ∧ (∀ o, w1.cell? ⟨w.heap.size, o, none⟩ = (#[.bool false, .int .i64 0, .int .i64 0, .int .i64 0, .int .i64 0, .slice (some ⟨gg, 0, none⟩) (zs.length + 1) cc] : Array Value)[o]?) := by
  obtain ⟨cur, hcur, hz0, hzl⟩ := h.row
  have hold : ∀ k o, W.heap[k]? = some o → vl.ownBlock ≠ some k → w1.heap[k]? = some o := fun k o ho hne => (hgrow.block k (by have := lt_of_block ho; show k < (W.alloc _).heap.size; simp; omega) (fun e => hne e.symm)).trans (heap_old ho _)
  have ne : ∀ {b : Nat} {cs : Array Value} {T : TypeId}, W.heap[b]? = some (.cells cs T (0, 0)) → T ≠ 24 → vl.ownBlock ≠ some b := fun hb hT => by
    rcases own_ne h.last hb hT with e | e
    · rw [e]
      exact fun x => by cases x
    · exact e
  have y1 := hold _ _ h.buf (ne h.buf (by decide))
  have y2 := hold _ _ hcur (ne hcur (by decide))
  have hW : Wr gg (cur.setIfInBounds zs.length v') 30 w1 (w1.setCell ⟨gg, zs.length, none⟩ v') :=
    ⟨heap_set y2 zs.length v', fun k o hk ho => heap_set_other ho hk _, fun n hn => (Below.refl n w1).setCell (p := ⟨gg, zs.length, none⟩) hn _⟩
  have hlow : Below w.heap.size W w1 := ((Below.alloc (Below.refl w.heap.size W) (by have := lt_of_block h.buf; omega) _).drew).trans (below_grown hgrow (fun k hk => by have := own_ge h.last hk; have := h.zl; omega) (by have := lt_of_block h.buf; show _ ≤ (W.alloc _).heap.size; simp; omega))
  have hsz : zs.length < cur.size := (Array.getElem?_eq_some_iff.1 hzl).1
  have hgl := h.ggl
  refine ⟨⟨hW.other _ _ (by omega) y1, ⟨_, hW.here, fun j b hj => ?_, ?_⟩, hgl, fun b hb => ?_, ?_, h.zl, (h.low.trans hlow).trans (hW.below _ (by omega))⟩, (cell_at y2 _).trans hzl, frozen_at y2, cell_at y1⟩
  · have hjl := (List.getElem?_eq_some_iff.1 hj).1
    rw [Array.getElem?_setIfInBounds_ne (by omega)]
    exact hz0 j b hj
  · rw [Array.getElem?_setIfInBounds_self_of_lt hsz]
  · obtain ⟨h1, h2⟩ := h.tris b hb
    have y3 := hold b _ h2 (fun e => by have := own_ge h.last e; omega)
    refine ⟨h1, hW.other _ _ (fun e => ?_) y3⟩
    subst e
    rw [h2] at hcur
    simp at hcur
  · rw [List.length_append, ndsC_append]
    exact hown.kept hW.grown (own_ne hown y2 (by decide))
theorem S3_row {W : World} {b : Nat} (h : W.heap[b]? = some (.cells triC 24 (0, 0))) : W.ownsRow b 24 2 (S3 b) tri.length (ndsC tri) :=
  ⟨rfl, .inr ⟨b, 3, triC, rfl, Nat.le_refl _, h, by decide, by decide, rfl, rfl⟩⟩
theorem MSt.last {w W : World} {zs : List Nat} {z : Nat} {v : Value} (h : MSt w (zs ++ [z]) v W) : ∃ gg cc, v = .slice (some ⟨gg, 0, none⟩) (zs.length + 1) cc ∧ M2 w zs z gg cc (S3 z) tri W := by
  have hz := h.tris z (by simp)
  have hp := List.pairwise_append.1 h.rise
  rcases h.own.2 with ⟨_, h0⟩ | ⟨g, cap, cur, e, hg, hcur, _, _, hs, ht⟩
  · simp at h0
  · have e2 : (zs ++ [z]).length = zs.length + 1 := by simp
    rw [e2] at e
    have at' : ∀ j b, (zs ++ [z])[j]? = some b → cur[j]? = some (S3 b) := fun j b hj => by
      have hjl := (List.getElem?_eq_some_iff.1 hj).1
      have h5 : (cur.toList.take ((zs ++ [z]).length * 1))[j]? = some (S3 b) := by rw [ht, List.getElem?_map, hj]; rfl
      rw [List.getElem?_take, if_pos (by omega)] at h5
      simpa using h5
    refine ⟨g, cap, e, by rw [← e]; exact h.buf, ⟨cur, hcur, fun j b hj => at' j b ?_, at' zs.length z (by simp)⟩, by omega, fun b hb => ⟨hp.2.2 b hb z (by simp), h.tris b (by simp [hb])⟩, S3_row hz, h.lo z (by simp), h.low⟩
    rw [List.getElem?_append_left (List.getElem?_eq_some_iff.1 hj).1]
    exact hj
theorem M2.rings {w W : World} {zs : List Nat} {z gg cc : Nat} {vl : Value} {l : List Nd} (h : M2 w zs z gg cc vl l W) : RingsIn W (some ⟨gg, 0, none⟩) (List.replicate zs.length tri ++ [l]) := by
  obtain ⟨cur, hcur, hz0, hzl⟩ := h.row
  refine ⟨zs.map S3 ++ [vl], fun _ => ⟨gg, 0, rfl, fun j v hj => ?_⟩, by simp, fun j v k hv hk => ?_⟩
  · rw [Nat.zero_add, cell_at hcur]
    by_cases hjl : j < zs.length
    · rw [List.getElem?_append_left (by simpa using hjl), List.getElem?_map, Option.map_eq_some_iff] at hj
      obtain ⟨b, hb, rfl⟩ := hj
      exact hz0 j b hb
    · have h1 := (List.getElem?_eq_some_iff.1 hj).1
      simp at h1
      obtain rfl : j = zs.length := by omega
      rw [List.getElem?_append_right (by simp)] at hj
      simp at hj
      subst hj
      exact hzl
  · by_cases hjl : j < zs.length
    · rw [List.getElem?_append_left (by simpa using hjl), List.getElem?_map, Option.map_eq_some_iff] at hv
      rw [List.getElem?_append_left (by simpa using hjl), List.getElem?_replicate, if_pos hjl] at hk
      obtain ⟨b, hb, rfl⟩ := hv
      cases hk
      exact (own_row (S3_row (h.tris b (List.mem_of_getElem? hb)).2)).ring
    · have h1 := (List.getElem?_eq_some_iff.1 hv).1
      simp at h1
      obtain rfl : j = zs.length := by omega
      rw [List.getElem?_append_right (by simp)] at hv hk
      simp at hv hk
      subst hv
      subst hk
      exact (own_row h.last).ring
end Go.Proofs.YtfchmikbebdflaaGreatDoor

namespace Go.Proofs.YtfchmikbebdflaaGreatDoor
open Go.RowKit Go.BigFrame Go.Shelf
attribute [-go_sem] Builtin.append_

set_option maxRecDepth 100000 in
set_option maxHeartbeats 8000000 in
/-- WktMany, in its range. -/
theorem many_in (d : Int) (n : Nat) (hd0 : -1 ≤ d) (hd1 : d ≤ 1) (hn0 : 1 ≤ n) (hn1 : n ≤ 3) (w : World) (hV : Vars w) :
    Calls Tryz.prog 3 #[.int .i64 d, .int .i64 n] w fun e w' => e = .returned (.bool true) ∧ Below w.heap.size w w' := by
  have HV := Hd.mk hV
  have e1 : decide (d < -1) = false := by simp; omega
  have e2 : decide (1 < d) = false := by simp; omega
  have e3 : decide ((n : Int) < 1) = false := by simp; omega
  have e4 : decide (3 < (n : Int)) = false := by simp; omega
  clear hV
  go_enter Tryz.func3, Tryz.ntmps3
  go_upto_region 4 with (fail)
  refine abs_wp (fun W => Hd (MSt w [] (.slice none 0 0) W)) ⟨⟨heap_new _ _, ⟨rfl, .inl ⟨rfl, rfl⟩⟩, fun _ h => by simp at h, List.Pairwise.nil, fun _ h => by simp at h, (Below.refl _ _).alloc (Nat.le_refl _) _⟩⟩ fun W0 hst0 => ?_
  go_wp2
  go_loopw [6] (fun iv wr => ∃ (i : Nat) (zs : List Nat) (v : Value), iv = .int .i64 i ∧ i ≤ n ∧ zs.length = i ∧ Hd (MSt w zs v wr)) (fun iv _ => n - (intOf iv).toNat)
  case atStart => exact ⟨0, [], _, rfl, Nat.zero_le _, rfl, hst0⟩
  case round =>
    obtain ⟨i, zs, v, rfl, hi, hzl, HST⟩ := hrel
    have c0 := cell_at HST.out.buf
    by_cases hlt : i < n
    · have hdl : decide ((i : Int) < (n : Int)) = true := by simp; omega
      have HS6 := Hd.mk (HST.out.below ((Below.refl _ _).alloc (Nat.le_refl _) (.cells #[.int .i64 0, .int .i64 0, .int .i64 1, .int .i64 0, .int .i64 0, .int .i64 1] 24)))
      have HZ : Hd (∀ b ∈ zs, b < wr.heap.size) := ⟨fun b hb => lt_of_block (HST.out.tris b hb)⟩
      have HROW := Hd.mk (heap_new wr (.cells triC 24))
      have he : wr.heap.size + 1 = (wr.alloc (.cells #[.int .i64 0, .int .i64 0, .int .i64 1, .int .i64 0, .int .i64 0, .int .i64 1] 24)).heap.size := by simp
      have HE := Hd.mk he
      have hlo := HST.out.low.size
      obtain ⟨i1, hi1, hz0, hz1, hz2⟩ := info_parts infoRingW
      have hu : Tryz.prog.underlying 27 = some (.slice 30) := by kernel_rfl
      clear he
      go_wp2_with (at_builtin; rw [HE.out]; refine wpList_append_own_at _ rfl (.tmp 34) (.tmp 39) 27 rfl (w.heap.size + 1) 30 i1 (.slice none 0 0) 1 24 hu hi1 hz0 hz1 hz2 rfl (by decide) v i (zs.map S3) rfl (hzl ▸ HS6.out.own.alloc _) ⟨(wr.alloc (.cells #[.int .i64 0, .int .i64 0, .int .i64 1, .int .i64 0, .int .i64 0, .int .i64 1] 24)).heap.size, 0, none⟩ 1 1 [.slice (some ⟨wr.heap.size, 0, none⟩) 3 3] rfl rfl (cell_one_new _ _ _) ?c2 ?b1 ?b2 ?b3 ?go)
      case c2 => intro u hu; simp at hu; subst hu; rfl
      case b1 => unfold maxLen; omega
      case b2 => omega
      case b3 => simp; omega
      case go =>
        intro v' w7 hown' hgrow _ hat
        obtain ⟨gg, cc, rfl⟩ : ∃ gg cc, v' = .slice (some ⟨gg, 0, none⟩) (i + 1) cc := by
          rcases hown'.2 with ⟨_, h0⟩ | ⟨g', c', cur', e, _⟩
          · omega
          · exact ⟨g', c', e⟩
        obtain ⟨hst8, hc8, hf8⟩ := HS6.out.push HROW.out HZ.out (lt_of_block HST.out.buf) (by rw [hzl]; exact hown') hgrow
        have HS8 := Hd.mk hst8
        clear hown' hgrow hat hi1 hz0 hz1 hz2 hu HST HROW HZ HS6 HE c0 hst8 hlo
        go_wp2
        go_roundw
        case rel => exact ⟨i + 1, _, _, by go_num, by omega, by rw [List.length_append, hzl]; rfl, HS8⟩
        case measure => simp [intOf]; omega
    · obtain rfl : i = n := by omega
      have hdl : decide (((i : Nat) : Int) < (i : Int)) = false := by simp
      obtain ⟨zs0, z, rfl⟩ : ∃ zs0 z, zs = zs0 ++ [z] := ⟨zs.dropLast, zs.getLast (fun e => by rw [e] at hzl; simp at hzl; omega), (List.dropLast_concat_getLast _).symm⟩
      obtain ⟨gg, cc, rfl, hm2⟩ := HST.out.last
      have hz0 : i = zs0.length + 1 := by simp at hzl; omega
      subst hz0
      have HM2 := Hd.mk hm2
      clear hm2 HST c0 hdl hzl hlt hi
      go_wp2
      go_loopw [7] (fun iv wr => ∃ (m q : Nat) (vl : Value), iv = .int .i64 (q : Int) ∧ q = 3 * (zs0.length + 1) + m ∧ (m = 0 ∨ ((3 * (zs0.length + 1) + m : Nat) : Int) ≤ 512 + d) ∧ Hd (M2 w zs0 z gg cc vl (tri ++ (List.range m).map fun (k : Nat) => (((3 * (zs0.length + 1) + k : Nat) : Int), (0 : Int))) wr)) (fun iv _ => (512 + d - intOf iv).toNat)
      case atStart => exact ⟨0, 3 * (zs0.length + 1), _, by simp, rfl, .inl rfl, HM2⟩
      case round =>
        clear HM2
        obtain ⟨m, q, vl, rfl, hq, hm, HM2⟩ := hrel
        by_cases hlt : (q : Int) < 512 + d
        · have hdl : decide ((q : Int) < 512 + d) = true := by simp; omega
          obtain ⟨g, cap, rfl⟩ : ∃ g cap, vl = .slice (some ⟨g, 0, none⟩) (3 + m) cap := by
            rcases HM2.out.last.2 with ⟨_, h0⟩ | ⟨g', c', cur', e, _⟩
            · simp [tri] at h0
            · exact ⟨g', c', by rw [e]; congr 1; simp [tri]; omega⟩
          obtain ⟨L, hL⟩ : ∃ L : List Nd, L = tri ++ (List.range m).map fun (k : Nat) => (((3 * (zs0.length + 1) + k : Nat) : Int), (0 : Int)) := ⟨_, rfl⟩
          have hLl : L.length = 3 + m := by rw [hL]; simp [tri]; omega
          have hLn : L ++ [((q : Int), (0 : Int))] = tri ++ (List.range (m + 1)).map fun (k : Nat) => (((3 * (zs0.length + 1) + k : Nat) : Int), (0 : Int)) := by rw [hL, List.range_succ, hq]; simp
          rw [← hL] at HM2
          have hm2 := HM2.out
          obtain ⟨i0, hi0, hz0, hz1, hz2⟩ := info_parts infoNodeW
          have hu : Tryz.prog.underlying 30 = some (.slice 24) := by kernel_rfl
          have hb0 := lt_of_block hm2.buf
          have hown0 := hm2.last
          have hzz : z < wr.heap.size := by
            rcases hown0.2 with ⟨h0, _⟩ | ⟨g', c', cur', e, hge, hg', _⟩
            · cases h0
            · have := lt_of_block hg'
              omega
          rw [hLl] at hown0
          obtain ⟨v', w8, hr, hown', hgrow, _, _⟩ := run_append_own_at (P := Tryz.prog) ((wr.alloc (.cells #[.int .i64 q, .int .i64 0] 24)).drew) z 30 30 24 i0 (.agg #[.int .i64 0, .int .i64 0]) 2 16 hu hi0 hz0 hz1 hz2 rfl (by decide) (.slice (some ⟨g, 0, none⟩) (3 + m) cap) (3 + m) (ndsC L)
            (own_below hown0 (by focus (repeat (first | (with_reducible exact Below.refl _ _) | (with_reducible assumption) | ((with_reducible refine Below.setCell ?_ ?_ _); rotate_left; (focus (first | omega | (simp; done) | (simp; omega)))) | ((with_reducible refine Below.alloc ?_ ?_ _); rotate_left; (focus (first | omega | (simp; done) | (simp; omega)))) | (with_reducible refine Below.drew ?_) | (refine below_on ?_ (by assumption)))))) ⟨wr.heap.size, 0, none⟩ 1 1 [.int .i64 q, .int .i64 0] rfl (cell_two_new _ _ _ _) (by intro u hu; simp at hu; rcases hu with rfl | rfl <;> rfl) (by unfold maxLen; omega) (by omega) (by simp; omega)
          obtain ⟨g2, c2, rfl⟩ : ∃ g2 c2, v' = .slice (some ⟨g2, 0, none⟩) (3 + m + 1) c2 := by
            rcases hown'.2 with ⟨_, h0⟩ | ⟨g', c', cur', e, _⟩
            · omega
            · exact ⟨g', c', e⟩
          obtain ⟨hm8, hc8, hf8, hc9⟩ := hm2.push (p := ((q : Int), (0 : Int))) (by rw [hLl]; exact hown') hgrow
          have HF := Hd.mk hm8
          have c0 := cell_at hm2.buf
          have cr : wr.cell? ⟨gg, zs0.length, none⟩ = some (.slice (some ⟨g, 0, none⟩) (3 + m) cap) := by
            obtain ⟨cur, h1, _, h3⟩ := hm2.row
            exact (cell_at h1 _).trans h3
          have hdz : decide (zs0.length < zs0.length + 1) = true := by simp
          have cr2 : (wr.alloc (.cells #[.int .i64 q, .int .i64 0] 24)).cell? ⟨gg, zs0.length, none⟩ = some (.slice (some ⟨g, 0, none⟩) (3 + m) cap) := by
            obtain ⟨cur, h1, _, h3⟩ := hm2.row
            exact (cell_at (heap_old h1 _) _).trans h3
          have c02 : ∀ o, (wr.alloc (.cells #[.int .i64 q, .int .i64 0] 24)).cell? ⟨w.heap.size, o, none⟩ = _ := cell_at (heap_old hm2.buf _)
          have HQ := Hd.mk (And.intro hq hm)
          clear hq hm
          clear hm8 hown' hgrow hi0 hz0 hz1 hz2 hu hown0 hm2 hL HM2
          go_upto_region 11 with (fail)
          refine region_abs_w (fun a0 a' w' => ∃ vv : Nat → Value, Hd (M2 w zs0 z gg cc (.slice (some ⟨g2, 0, none⟩) (3 + m + 1) c2) (L ++ [((q : Int), (0 : Int))]) w') ∧ (a' = (Act.put (Act.put (Act.put (Act.put (Act.put (Act.put (Act.put (Act.put (Act.put (Act.put (Act.put (Act.put (Act.put (Act.put (Act.put a0 (some 50) (vv 50)) (some 51) (vv 51)) (some 52) (vv 52)) (some 53) (vv 53)) (some 54) (vv 54)) (some 55) (vv 55)) (some 56) (vv 56)) (some 57) (vv 57)) (some 58) (vv 58)) (some 59) (vv 59)) (some 60) (vv 60)) (some 61) (vv 61)) (some 62) (vv 62)) (some 63) (vv 63)) (some 64) (vv 64)))) (fun KR hKR => ?_) ?_
          · refine wp_region_noPanic ?_
            go_region
            all_goals exact ⟨rfl, hKR _ _ (ex_putw4 ⟨by with_reducible exact HF, by kernel_rfl⟩)⟩
          rintro a' w9 ⟨vv, hst9, rfl⟩
          simp only [Act.put, List.setIfInBounds_toArray, List.set_cons_succ, List.set_cons_zero]
          clear hc8 hf8 hc9 c0 cr cr2 c02 hr HF
          go_wp2
          go_roundw
          case rel => exact ⟨m + 1, q + 1, _, by go_num, by have := HQ.out.1; omega, .inr (by have := HQ.out.1; omega), by rw [← hLn]; exact hst9⟩
          case measure => simp [intOf]; omega
        · have hdl : decide ((q : Int) < 512 + d) = false := by simp; omega
          have hme : (q : Int) = 512 + d := by omega
          obtain ⟨hT, hTL⟩ := manyL_text (n := zs0.length + 1) (m := m) (by omega) (by omega) (by omega)
          obtain ⟨hck, hps⟩ := manyL_says (n := zs0.length + 1) (m := m) (by omega) (by omega) (by omega)
          have hok : ∀ l ∈ manyL (zs0.length + 1) m, RingOk l := fun l h => (manyL_ok (by omega) (by omega) l h).1
          have htt := manyL_total (n := zs0.length + 1) (m := m) (by omega)
          have hlen := manyL_len (n := zs0.length + 1) (m := m) (by omega)
          have HRI : Hd (RingsIn wr (some ⟨gg, 0, none⟩) (manyL (zs0.length + 1) m)) := ⟨HM2.out.rings⟩
          have hB := HM2.out.low
          have z0 := HM2.out.buf
          clear HM2
          generalize manyL (zs0.length + 1) m = LL at hT hTL hck hps hok htt hlen HRI
          rw [← hlen] at z0
          have HRT : Hd (∀ W, Vars W → RingsIn W (some ⟨gg, 0, none⟩) LL → Calls Tryz.prog 10 #[.agg #[.bool false, .int .i64 0, .int .i64 0, .int .i64 0, .int .i64 0, .slice (some ⟨gg, 0, none⟩) LL.length cc]] W fun e w' => e = .returned (.string (bs (textL ⟨false, ((0, 0), (0, 0)), LL⟩))) ∧ Below W.heap.size W w') := ⟨fun W hv hr => rtext_rings LL hT _ cc W hv hr⟩
          have HPX : Hd (∀ W, Vars W → Calls Tryz.prog 9 #[.string (bs (textL ⟨false, ((0, 0), (0, 0)), LL⟩))] W fun e w' => PaPost W (parseS (textL ⟨false, ((0, 0), (0, 0)), LL⟩)).1 (if 512 < 3 * (zs0.length + 1) + m then 3 else 0) e w') := ⟨fun W hv => by
            have h1 := wparse_any (textL ⟨false, ((0, 0), (0, 0)), LL⟩) (by omega) W hv
            rw [hps] at h1
            exact h1⟩
          have HCK : Hd (∀ W, RingsIn W (some ⟨gg, 0, none⟩) LL → Calls Tryz.prog 12 #[.agg #[.bool false, .int .i64 0, .int .i64 0, .int .i64 0, .int .i64 0, .slice (some ⟨gg, 0, none⟩) LL.length cc]] W fun e w' => e = .returned (.int .i64 (if 512 < 3 * (zs0.length + 1) + m then 3 else 0)) ∧ Below W.heap.size W w') := ⟨fun W hr => by
            have h1 := wcheck_any ⟨false, ((0, 0), (0, 0)), LL⟩ (some ⟨gg, 0, none⟩) cc W hr (by simp only; omega) (by simp only; omega)
            rw [hck] at h1
            exact h1⟩
          generalize (parseS (textL ⟨false, ((0, 0), (0, 0)), LL⟩)).1 = S at HPX
          obtain ⟨is, ⟨⟨g0, g1⟩, ⟨g2, g3⟩⟩, Ms⟩ := S
          by_cases hb : 512 < 3 * (zs0.length + 1) + m
          · rw [if_pos hb] at HPX HCK hck
            have HTX : Hd (∀ W, Vars W → RingsIn W (some ⟨gg, 0, none⟩) LL → Calls Tryz.prog 8 #[.agg #[.bool false, .int .i64 0, .int .i64 0, .int .i64 0, .int .i64 0, .slice (some ⟨gg, 0, none⟩) LL.length cc]] W fun e w' => e = .returned (.tuple #[.string ⟨#[]⟩, .int .i64 3]) ∧ Below W.heap.size W w') := ⟨fun W _ hr => wtext_no ⟨false, ((0, 0), (0, 0)), LL⟩ 3 hck (by decide) _ cc W hr (by simp only; omega) (by simp only; omega)⟩
            have hdd : decide (0 < d) = true := by simp; omega
            generalize bs (textL ⟨false, ((0, 0), (0, 0)), LL⟩) = T at HRT HPX
            clear hT hTL hck hps hok htt hb
            have c0 := cell_at z0
            clear hme hm hlt hlen hq
            go_wp2_with fail
            refine (HTX.out _ (HV.out.below hB) HRI.out).mono ?_
            rintro e w1 ⟨rfl, hb1⟩
            have hB1 := below_on hB hb1
            have HR1 := Hd.mk (HRI.out.below hb1)
            have z1 := heap_below hb1 z0
            clear hb1 hB z0 c0 HRI
            have c0 := cell_at z1
            go_wp2_with fail
            refine (HRT.out _ (HV.out.below hB1) HR1.out).mono ?_
            rintro e w2 ⟨rfl, hb2⟩
            have hB2 := below_on hB1 hb2
            have HR2 := Hd.mk (HR1.out.below hb2)
            have z2 := heap_below hb2 z1
            clear hb2 hB1 z1 c0 HR1
            go_wp2_with fail
            refine (HPX.out _ (HV.out.below hB2)).mono ?_
            rintro e w3 ⟨A3, c3, rfl, _, hb3⟩
            have hB3 := below_on hB2 hb3
            have hB4 := hB3.alloc hB3.size (.cells #[.bool is, .int .i64 g0, .int .i64 g1, .int .i64 g2, .int .i64 g3, .slice A3 Ms.length c3] 29)
            have HR4 := Hd.mk ((HR2.out.below hb3).below ((Below.refl _ _).alloc (Nat.le_refl _) (.cells #[.bool is, .int .i64 g0, .int .i64 g1, .int .i64 g2, .int .i64 g3, .slice A3 Ms.length c3] 29)))
            have c0 := cell_at (heap_old (heap_below hb3 z2) (.cells #[.bool is, .int .i64 g0, .int .i64 g1, .int .i64 g2, .int .i64 g3, .slice A3 Ms.length c3] 29))
            clear hb3 hB2 hB3 z2 HR2
            unfold shV
            go_wp2_with fail
            refine (HCK.out _ HR4.out).mono ?_
            rintro e w5 ⟨rfl, hb5⟩
            have hB5 := below_on hB4 hb5
            clear hb5 hB4 c0 HR4
            go_wp2_with (go_at_call 11; refine (numw_any _ _).mono ?_; rintro e w7 ⟨rfl, rfl⟩)
            refine (wkt_works _ (HV.out.below hB5)).mono ?_
            rintro e w9 ⟨rfl, hb9⟩
            have hB9 := below_on hB5 hb9
            go_wp2
            go_ret
            exact ⟨rfl, hB9⟩
          · rw [if_neg hb] at HPX HCK hck
            have HTX : Hd (∀ W, Vars W → RingsIn W (some ⟨gg, 0, none⟩) LL → Calls Tryz.prog 8 #[.agg #[.bool false, .int .i64 0, .int .i64 0, .int .i64 0, .int .i64 0, .slice (some ⟨gg, 0, none⟩) LL.length cc]] W fun e w' => e = .returned (.tuple #[.string (bs (textL ⟨false, ((0, 0), (0, 0)), LL⟩)), .int .i64 0]) ∧ Below W.heap.size W w') := ⟨fun W hv hr => wtext_rings LL hT hok (by omega) _ cc W hv hr⟩
            have hdd : decide (0 < d) = false := by simp; omega
            have hne : ((bs (textL ⟨false, ((0, 0), (0, 0)), LL⟩)).toList == (⟨#[]⟩ : ByteArray).toList) = false := by
              have e : textL ⟨false, ((0, 0), (0, 0)), LL⟩ = 80 :: (polW.tail ++ tailL LL) := by rw [textL, if_neg (by simp)]; rfl
              rw [e]
              exact bs_cons_ne2 _ _
            have hne2 : (bs (textL ⟨false, ((0, 0), (0, 0)), LL⟩)).toList.isEmpty = false := by
              have e : textL ⟨false, ((0, 0), (0, 0)), LL⟩ = 80 :: (polW.tail ++ tailL LL) := by rw [textL, if_neg (by simp)]; rfl
              rw [e]
              exact bs_cons_ne _ _
            generalize bs (textL ⟨false, ((0, 0), (0, 0)), LL⟩) = T at HRT HPX HTX hne hne2
            clear hT hTL hck hps hok htt hb
            have c0 := cell_at z0
            clear hme hm hlt hlen hq
            go_wp2_with fail
            refine (HTX.out _ (HV.out.below hB) HRI.out).mono ?_
            rintro e w1 ⟨rfl, hb1⟩
            have hB1 := below_on hB hb1
            have HR1 := Hd.mk (HRI.out.below hb1)
            have z1 := heap_below hb1 z0
            clear hb1 hB z0 c0 HRI
            have c0 := cell_at z1
            go_wp2_with fail
            refine (HRT.out _ (HV.out.below hB1) HR1.out).mono ?_
            rintro e w2 ⟨rfl, hb2⟩
            have hB2 := below_on hB1 hb2
            have HR2 := Hd.mk (HR1.out.below hb2)
            have z2 := heap_below hb2 z1
            clear hb2 hB1 z1 c0 HR1
            go_wp2_with fail
            refine (HPX.out _ (HV.out.below hB2)).mono ?_
            rintro e w3 ⟨A3, c3, rfl, _, hb3⟩
            have hB3 := below_on hB2 hb3
            have hB4 := hB3.alloc hB3.size (.cells #[.bool is, .int .i64 g0, .int .i64 g1, .int .i64 g2, .int .i64 g3, .slice A3 Ms.length c3] 29)
            have HR4 := Hd.mk ((HR2.out.below hb3).below ((Below.refl _ _).alloc (Nat.le_refl _) (.cells #[.bool is, .int .i64 g0, .int .i64 g1, .int .i64 g2, .int .i64 g3, .slice A3 Ms.length c3] 29)))
            have c0 := cell_at (heap_old (heap_below hb3 z2) (.cells #[.bool is, .int .i64 g0, .int .i64 g1, .int .i64 g2, .int .i64 g3, .slice A3 Ms.length c3] 29))
            clear hb3 hB2 hB3 z2 HR2
            unfold shV
            go_wp2_with fail
            refine (HCK.out _ HR4.out).mono ?_
            rintro e w5 ⟨rfl, hb5⟩
            have hB5 := below_on hB4 hb5
            clear hb5 hB4 c0 HR4
            go_wp2_with (go_at_call 11; refine (numw_any _ _).mono ?_; rintro e w7 ⟨rfl, rfl⟩)
            refine (wkt_works _ (HV.out.below hB5)).mono ?_
            rintro e w9 ⟨rfl, hb9⟩
            have hB9 := below_on hB5 hb9
            go_wp2
            go_ret
            exact ⟨rfl, hB9⟩
end Go.Proofs.YtfchmikbebdflaaGreatDoor

namespace Go.Proofs.YtfchmikbebdflaaGreatDoor
open Go.RowKit Go.BigFrame Go.Shelf

/-- WktMany, of any two numbers. -/
theorem manylaw_any (d n : Int) (w : World) (hV : Vars w) :
    Calls Tryz.prog 3 #[.int .i64 d, .int .i64 n] w fun e w' => e = .returned (.bool true) ∧ Below w.heap.size w w' := by
  by_cases h : -1 ≤ d ∧ d ≤ 1 ∧ 1 ≤ n ∧ n ≤ 3
  · obtain ⟨k, rfl⟩ : ∃ k : Nat, n = k := ⟨n.toNat, by omega⟩
    exact many_in d k h.1 h.2.1 (by omega) (by omega) w hV
  · exact many_out d n h w hV
end Go.Proofs.YtfchmikbebdflaaGreatDoor
