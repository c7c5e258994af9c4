/-
  The law WktParses: Parse and the reference's Parse say the same of any text. Conditions stand in each theorem.
-/
import Derived.Test.YtfchmikbebdflaaGreatDoorKr2
namespace Go.Proofs.YtfchmikbebdflaaGreatDoor
open Go.RowKit Go.BigFrame Go.Shelf

set_option maxRecDepth 100000 in
set_option maxHeartbeats 8000000 in
theorem rcheck_rings (Ls : List (List Nd)) (hne : Ls ≠ []) (A : Option Addr) (c : Nat) (w : World) (hR : RingsIn w A Ls) (ht : total Ls ≤ 1100000) (hl : Ls.length ≤ 1100000) :
    Calls Tryz.prog 41 #[.agg (shV ⟨false, ((0, 0), (0, 0)), Ls⟩ A c)] w fun e w' => e = .returned (.int .i64 (checkV ⟨false, ((0, 0), (0, 0)), Ls⟩)) ∧ Below w.heap.size w w' := by
  obtain ⟨vs, hcl, hro⟩ := hR
  have hvl := hro.1
  have hpos : 0 < Ls.length := List.length_pos_iff.2 hne
  have hz0 : ((Ls.length : Int) == 0) = false := by simp; omega
  have HC1 : Hd ((∀ l ∈ Ls, RingOk l) → checkV ⟨false, ((0, 0), (0, 0)), Ls⟩ = if 512 < total Ls then 3 else 0) := ⟨checkV_ok hne⟩
  have HC2 : Hd ((¬ ∀ l ∈ Ls, RingOk l) → checkV ⟨false, ((0, 0), (0, 0)), Ls⟩ = 2) := ⟨checkV_bad hne⟩
  generalize checkV ⟨false, ((0, 0), (0, 0)), Ls⟩ = E at HC1 HC2 ⊢
  have HCL := Hd.mk hcl
  have HRO := Hd.mk hro
  have HT := Hd.mk ht
  unfold shV
  clear hcl hro ht hne
  go_enter Tryz.func41, Tryz.ntmps41
  go_upto_region 7 with (fail)
  refine abs_wp (fun W => W.heap[w.heap.size]? = some (.cells #[.bool false, .int .i64 0, .int .i64 0, .int .i64 0, .int .i64 0, .slice A Ls.length c] 29 (0, 0)) ∧ Below w.heap.size w W) ⟨heap_new _ _, (Below.refl _ _).alloc (Nat.le_refl _) _⟩ fun W0 ⟨y0, hB0⟩ => ?_
  go_wp2
  go_loopw [3, 4] (fun nv iv wr => ∃ i : Nat, iv = .int .i64 i ∧ i ≤ Ls.length ∧ nv = .int .i64 (total (Ls.take i) : Nat) ∧ Hd (∀ l ∈ Ls.take i, RingOk l) ∧ wr.heap[w.heap.size]? = some (.cells #[.bool false, .int .i64 0, .int .i64 0, .int .i64 0, .int .i64 0, .slice A Ls.length c] 29 (0, 0)) ∧ Below w.heap.size w wr) (fun _ iv _ => Ls.length - (intOf iv).toNat)
  case atStart => exact ⟨0, rfl, Nat.zero_le _, rfl, ⟨by simp⟩, y0, hB0⟩
  case round =>
    clear y0 hB0
    obtain ⟨i, rfl, hi, rfl, HOK, z0, hB⟩ := hrel
    have c0 := cell_at z0
    by_cases hlt : i < Ls.length
    · have hd1 : decide ((i : Int) < (Ls.length : Int)) = true := by simp; omega
      have hd2 : decide (i < Ls.length) = true := by simp; omega
      obtain ⟨bb, off, rfl, hcc⟩ := HCL.out.below hB (by omega)
      obtain ⟨lr, hlr⟩ : ∃ lr, Ls[i]? = some lr := ⟨_, List.getElem?_eq_getElem hlt⟩
      obtain ⟨v, hv⟩ : ∃ v, vs[i]? = some v := ⟨_, List.getElem?_eq_getElem (by omega)⟩
      have q1 := hcc i v hv
      have hlm : lr ∈ Ls := List.mem_of_getElem? hlr
      obtain ⟨Ar, cr, rfl, hc1, hc2, hnd⟩ := HRO.out.2 i v lr hv hlr
      have HLM := Hd.mk hlm
      have HLR := Hd.mk hlr
      have hlt1 := total_mem hlm
      have htot := HT.out
      have hsum := total_take hlr
      have htk := total_le Ls (i + 1)
      have hl0 : lr.length ≤ 1100000 := by omega
      have hs1 : total (Ls.take i) ≤ 1100000 := by omega
      have HS := Hd.mk hsum
      have HND := Hd.mk (hnd.below hB)
      have HBW := Hd.mk hB
      clear hcc hv hlr hlm hnd hlt1 htot hsum htk hB
      generalize total (Ls.take i) = N at hs1 HS ⊢
      by_cases h3 : lr.length < 3
      · have hd3 : decide ((lr.length : Int) < 3) = true := by simp; omega
        have hbad : E = 2 := HC2.out (fun h => by have := (h lr HLM.out).1; omega)
        subst hbad
        go_wp2
        go_ret
        exact ⟨rfl, HBW.out⟩
      · have hd3 : decide ((lr.length : Int) < 3) = false := by simp; omega
        go_wp2
        go_loopw [5] (fun kv w2 => ∃ k : Nat, kv = .int .i64 k ∧ k ≤ lr.length ∧ Hd (∀ p ∈ lr.take k, nodeB p.1 p.2 = true) ∧ Below wr.heap.size wr w2) (fun kv _ => lr.length - (intOf kv).toNat)
        case atStart => exact ⟨0, rfl, Nat.zero_le _, ⟨by simp⟩, Below.refl _ _⟩
        case round =>
          obtain ⟨k, rfl, hk, HG, hB3⟩ := hrel
          have y0 := heap_below hB3 z0
          have y1 := (hB3.cell (World.block_lt_of_cell? _ _ q1)).trans q1
          have c0 := cell_at y0
          by_cases hkl : k < lr.length
          · have hdk : decide ((k : Int) < (lr.length : Int)) = true := by simp; omega
            have hdk2 : decide (k < lr.length) = true := by simp; omega
            obtain ⟨b2, o2, rfl, hcc⟩ := (HND.out.below hB3) (by omega)
            obtain ⟨⟨x, y⟩, hp⟩ : ∃ p, lr[k]? = some p := ⟨_, List.getElem?_eq_getElem hkl⟩
            obtain ⟨p1, p2⟩ := hcc k (x, y) hp
            have HP := Hd.mk hp
            have HB3 := Hd.mk hB3
            clear hcc hp hB3
            cases hq : nodeB x y with
            | true =>
              have HK : Hd (∀ w, Calls Tryz.prog 66 #[.agg #[.int .i64 x, .int .i64 y]] w fun e w' => e = .returned (.bool true) ∧ Below w.heap.size w w') := ⟨fun w => by
                have h := rnode_any x y w
                rw [hq] at h
                exact h⟩
              have hgk : Hd (∀ p ∈ lr.take (k + 1), nodeB p.1 p.2 = true) := ⟨by
                intro p hp
                rw [List.take_add_one, HP.out] at hp
                rcases List.mem_append.1 hp with hp | hp
                · exact HG.out p hp
                · simp at hp
                  rw [hp]
                  exact hq⟩
              clear hq
              go_wp2_with fail
              refine (HK.out _).mono ?_
              rintro e w5 ⟨rfl, hb⟩
              have hB5 := below_on HB3.out hb
              clear hb p1 p2 c0 y0 y1
              go_wp2
              go_roundw
              case rel => exact ⟨k + 1, by go_num, by omega, hgk, hB5⟩
              case measure => simp [intOf]; omega
            | false =>
              have HK : Hd (∀ w, Calls Tryz.prog 66 #[.agg #[.int .i64 x, .int .i64 y]] w fun e w' => e = .returned (.bool false) ∧ Below w.heap.size w w') := ⟨fun w => by
                have h := rnode_any x y w
                rw [hq] at h
                exact h⟩
              have hbad : E = 2 := HC2.out (fun h => by
                have h1 := (h lr HLM.out).2 (x, y) (List.mem_of_getElem? HP.out)
                rw [hq] at h1
                cases h1)
              subst hbad
              clear hq
              go_wp2_with fail
              refine (HK.out _).mono ?_
              rintro e w5 ⟨rfl, hb⟩
              have hB5 := below_on HB3.out hb
              clear hb p1 p2 c0 y0 y1
              go_wp2
              go_ret
              exact ⟨rfl, below_on HBW.out hB5⟩
          · obtain rfl : k = lr.length := by omega
            have hdk : decide (((lr.length : Nat) : Int) < (lr.length : Int)) = false := by simp
            have hgood : Hd (RingOk lr) := ⟨by omega, by have := HG.out; rwa [List.take_length] at this⟩
            have HB3 := Hd.mk (below_on HBW.out hB3)
            have HOK2 : Hd (∀ l ∈ Ls.take (i + 1), RingOk l) := ⟨take_all HLR.out HOK.out hgood.out⟩
            have HY0 := Hd.mk y0
            clear hB3
            go_wp2
            go_roundw
            case rel => exact ⟨i + 1, by go_num, by omega, by rw [HS.out]; go_num, HOK2, HY0.out, HB3.out⟩
            case measure => simp [intOf]; omega
    · obtain rfl : i = Ls.length := by omega
      have hd1 : decide (((Ls.length : Nat) : Int) < (Ls.length : Int)) = false := by simp
      have hok := HOK.out
      rw [List.take_length] at hok ⊢
      have he := HC1.out hok
      clear hok HOK
      by_cases hbig : 512 < total Ls
      · have hd : decide (((total Ls : Nat) : Int) > 512) = true := by simp; omega
        rw [if_pos hbig] at he
        subst he
        go_wp2
        go_ret
        exact ⟨rfl, hB⟩
      · have hd : decide (((total Ls : Nat) : Int) > 512) = false := by simp; omega
        rw [if_neg hbig] at he
        subst he
        go_wp2
        go_ret
        exact ⟨rfl, hB⟩
end Go.Proofs.YtfchmikbebdflaaGreatDoor

namespace Go.Proofs.YtfchmikbebdflaaGreatDoor
open Go.RowKit Go.BigFrame Go.Shelf

set_option maxRecDepth 100000 in
set_option maxHeartbeats 4000000 in
theorem rwparse_long (t : Bs) (hl : 1048576 < t.length) (ht : t.length ≤ 1100000) (w : World) :
    Calls Tryz.prog 13 #[.string (bs t)] w fun e w' => e = .returned (.tuple #[.agg #[.bool false, .int .i64 0, .int .i64 0, .int .i64 0, .int .i64 0, .slice none 0 0], .int .i64 3]) ∧ Below w.heap.size w w' := by
  have hsz := bs_size t
  have hd1 : decide ((t.length : Int) > 1048576) = true := by simp; omega
  go_enter Tryz.func13, Tryz.ntmps13
  go_upto_region 2 with (fail)
  have z0 := heap_new w (.cells #[.bool false, .int .i64 0, .int .i64 0, .int .i64 0, .int .i64 0, .slice none 0 0] 29)
  go_wp2_with (refine wpList_store_block rfl 29 (.tmp 2) (.tmp 28) rfl w.heap.size #[.bool false, .int .i64 0, .int .i64 0, .int .i64 0, .int .i64 0, .slice none 0 0] rfl rfl z0 rfl (by kernel_rfl) rfl ?_; rintro wz hWz)
  have kz := cell_at hWz.here
  refine bodyPost_ret (by first | (simp [results, Tryz.results13, go_sem, kz]; done) | (simp [results, Tryz.results13, go_sem, kz]; rfl)) rfl ⟨rfl, ((Below.refl _ _).alloc (Nat.le_refl _) _).trans (hWz.below _ (Nat.le_refl _))⟩

theorem rsparse_any (t : Bs) (ht : t.length ≤ 1100000) : ∃ c0 c1 c2 c3 e : Int, (∀ w, Calls Tryz.prog 39 #[.string (bs t)] w fun x w' => x = .returned (.tuple #[.agg #[.int .i64 c0, .int .i64 c1, .int .i64 c2, .int .i64 c3], .int .i64 e]) ∧ Below w.heap.size w w') ∧
    ((e = 0 ∧ segP t = some ((c0, c1), (c2, c3))) ∨ (e = 140 ∧ segP t = none)) := by
  obtain ⟨c0, c1, c2, c3, e, hor, hc⟩ := rparse_ex (bs t) (by rw [bs_size]; exact ht)
  refine ⟨c0, c1, c2, c3, e, hc, ?_⟩
  rcases hor with ⟨he, hg, hs⟩ | ⟨he, _, _, _, _, hno⟩
  · refine .inl ⟨he, ?_⟩
    have e2 : t = sgL ((c0, c1), (c2, c3)) := by
      have := congrArg (fun s : ByteArray => s.data.toList) hs
      simpa [sgL] using this
    rw [e2]
    exact segP_text (g := ((c0, c1), (c2, c3))) hg
  · refine .inr ⟨he, segP_none fun g hg e2 => ?_⟩
    refine hno g.1.1 g.1.2 g.2.1 g.2.2 hg ?_
    rw [e2]
    exact (bs_self _).symm
def PzP (w : World) (e : Ending) (w' : World) : Prop := e = .returned (.tuple #[.agg #[.bool false, .int .i64 0, .int .i64 0, .int .i64 0, .int .i64 0, .slice none 0 0], .int .i64 190]) ∧ Below w.heap.size w w'
set_option maxRecDepth 100000 in
set_option maxHeartbeats 8000000 in
theorem rwparse_seg (t r0 : Bs) (ht : t.length ≤ 1048576) (hw : behind segW t = some r0) (w : World) :
    Calls Tryz.prog 13 #[.string (bs t)] w fun e w' => match segQ r0 with
      | some g => e = .returned (.tuple #[.agg #[.bool true, .int .i64 g.1.1, .int .i64 g.1.2, .int .i64 g.2.1, .int .i64 g.2.2, .slice none 0 0], .int .i64 0]) ∧ Below w.heap.size w w'
      | none => PzP w e w' := by
  have hsz := bs_size t
  have hd1 : decide ((t.length : Int) > 1048576) = false := by simp; omega
  have hrl : r0.length ≤ 1048576 := by
    have := behind_some hw
    rw [this] at ht
    simp at ht
    omega
  have HBG : Hd (∀ W, Calls Tryz.prog 37 #[.string (bs t), .string ⟨#[83, 69, 71, 77, 69, 78, 84, 40]⟩] W fun e w' => e = .returned (.tuple #[.string (bs r0), .bool true]) ∧ w' = W) := ⟨fun W => by
    refine (rbegins_any t segW (by omega) (by decide) W).mono ?_
    rintro e w' ⟨⟨r, b, (⟨rfl, h⟩ | ⟨rfl, h, _⟩), rfl⟩, rfl⟩
    · rw [hw] at h
      obtain rfl := Option.some.inj h
      exact ⟨rfl, rfl⟩
    · rw [hw] at h
      cases h⟩
  have hsq := segQ_of r0
  generalize segQ r0 = O at hsq ⊢
  clear hw
  go_enter Tryz.func13, Tryz.ntmps13
  go_upto_region 1 with (fail)
  refine abs_wp (fun W => W.heap[w.heap.size]? = some (.cells #[.bool false, .int .i64 0, .int .i64 0, .int .i64 0, .int .i64 0, .slice none 0 0] 29 (0, 0)) ∧ Below w.heap.size w W) ⟨heap_new _ _, (Below.refl _ _).alloc (Nat.le_refl _) _⟩ fun W0 ⟨z0, hB⟩ => ?_
  go_wp2_with fail
  refine (HBG.out _).mono ?_
  rintro e w1 ⟨rfl, rfl⟩
  cases hc : cutC 41 r0 with
  | none =>
    have hO : O = none := by rw [hsq]; unfold segR; rw [hc]
    subst hO
    go_wp2_with fail
    refine (runtil_no r0 (by omega) (cutC_none hc) _).mono ?_
    rintro e w2 ⟨rfl, rfl⟩
    obtain ⟨a0, a1, a2, a3, er, HC, _⟩ := rsparse_any [] (by simp)
    have HC := Hd.mk HC
    go_wp2_with fail
    refine (HC.out _).mono ?_
    rintro e w3 ⟨rfl, hb⟩
    have y0 := heap_old (heap_below hb z0) (.cells #[.int .i64 a0, .int .i64 a1, .int .i64 a2, .int .i64 a3] 26)
    have hB3 := (below_on hB hb).alloc (below_on hB hb).size (.cells #[.int .i64 a0, .int .i64 a1, .int .i64 a2, .int .i64 a3] 26)
    clear hb z0 hB
    go_wp2_with (refine wpList_store_block rfl 29 (.tmp 2) (.tmp 56) rfl w.heap.size #[.bool false, .int .i64 0, .int .i64 0, .int .i64 0, .int .i64 0, .slice none 0 0] rfl rfl y0 rfl (by kernel_rfl) rfl ?_; rintro wz hWz)
    have kz := cell_at hWz.here
    refine bodyPost_ret (by first | (simp [results, Tryz.results13, go_sem, kz]; done) | (simp [results, Tryz.results13, go_sem, kz]; rfl)) rfl ⟨rfl, hB3.trans (hWz.below _ (Nat.le_refl _))⟩
  | some q =>
    obtain ⟨body, left⟩ := q
    obtain ⟨hr0, hno⟩ := cutC_some hc
    have hbl : body.length ≤ 1100000 := by rw [hr0] at hrl; simp at hrl; omega
    have hsr : segR r0 = (segP body).map fun g => (g, left) := by unfold segR; rw [hc]
    rw [hsr] at hsq
    have HU : Hd (∀ W, Calls Tryz.prog 38 #[.string (bs r0)] W fun e w' => e = .returned (.tuple #[.string (bs body), .string (bs left), .bool true]) ∧ Below W.heap.size W w') := ⟨fun W => by
      have h := runtil_at body left (by rw [← hr0]; omega) hno W
      rw [← hr0] at h
      exact h⟩
    clear hr0 hno hc hsr
    go_wp2_with fail
    refine (HU.out _).mono ?_
    rintro e w2 ⟨rfl, hb⟩
    have z2 := heap_below hb z0
    have hB2 := below_on hB hb
    clear hb z0 hB
    obtain ⟨a0, a1, a2, a3, er, HC, hor⟩ := rsparse_any body hbl
    have HC := Hd.mk HC
    go_wp2_with fail
    refine (HC.out _).mono ?_
    rintro e w3 ⟨rfl, hb⟩
    have y0 := heap_old (heap_below hb z2) (.cells #[.int .i64 a0, .int .i64 a1, .int .i64 a2, .int .i64 a3] 26)
    have y9 := heap_new w3 (.cells #[.int .i64 a0, .int .i64 a1, .int .i64 a2, .int .i64 a3] 26)
    have hB3 := (below_on hB2 hb).alloc (below_on hB2 hb).size (.cells #[.int .i64 a0, .int .i64 a1, .int .i64 a2, .int .i64 a3] 26)
    clear hb z2 hB2
    cases left with
    | cons a left =>
      have hO : O = none := by
        rw [hsq]
        cases segP body <;> rfl
      subst hO
      have he1 := bs_cons_ne a left
      have he2 := bs_cons_ne2 a left
      go_wp2_with (refine wpList_store_block rfl 29 (.tmp 2) (.tmp 56) rfl w.heap.size #[.bool false, .int .i64 0, .int .i64 0, .int .i64 0, .int .i64 0, .slice none 0 0] rfl rfl y0 rfl (by kernel_rfl) rfl ?_; rintro wz hWz)
      have kz := cell_at hWz.here
      refine bodyPost_ret (by first | (simp [results, Tryz.results13, go_sem, kz]; done) | (simp [results, Tryz.results13, go_sem, kz]; rfl)) rfl ⟨rfl, hB3.trans (hWz.below _ (Nat.le_refl _))⟩
    | nil =>
      rcases hor with ⟨rfl, hp⟩ | ⟨rfl, hp⟩
      · have hO : O = some ((a0, a1), (a2, a3)) := by rw [hsq, hp]; rfl
        subst hO
        have c9 := cell_at y9
        go_wp2_with (refine wpList_store_block rfl 29 (.tmp 2) (.tmp 58) rfl w.heap.size #[.bool true, .int .i64 a0, .int .i64 a1, .int .i64 a2, .int .i64 a3, .slice none 0 0] rfl rfl y0 rfl (by kernel_rfl) rfl ?_; rintro wz hWz)
        have kz := cell_at hWz.here
        refine bodyPost_ret (by first | (simp [results, Tryz.results13, go_sem, kz]; done) | (simp [results, Tryz.results13, go_sem, kz]; rfl)) rfl ⟨rfl, hB3.trans (hWz.below _ (Nat.le_refl _))⟩
      · have hO : O = none := by rw [hsq, hp]; rfl
        subst hO
        go_wp2_with (refine wpList_store_block rfl 29 (.tmp 2) (.tmp 56) rfl w.heap.size #[.bool false, .int .i64 0, .int .i64 0, .int .i64 0, .int .i64 0, .slice none 0 0] rfl rfl y0 rfl (by kernel_rfl) rfl ?_; rintro wz hWz)
        have kz := cell_at hWz.here
        refine bodyPost_ret (by first | (simp [results, Tryz.results13, go_sem, kz]; done) | (simp [results, Tryz.results13, go_sem, kz]; rfl)) rfl ⟨rfl, hB3.trans (hWz.below _ (Nat.le_refl _))⟩
set_option maxRecDepth 100000 in
set_option maxHeartbeats 4000000 in
theorem rwparse_word (t : Bs) (ht : t.length ≤ 1048576) (h1 : behind segW t = none) (h2 : behind polW t = none) (w : World) :
    Calls Tryz.prog 13 #[.string (bs t)] w fun e w' => PzP w e w' := by
  have hsz := bs_size t
  have hd1 : decide ((t.length : Int) > 1048576) = false := by simp; omega
  have HB1 : Hd (∀ W, Calls Tryz.prog 37 #[.string (bs t), .string ⟨#[83, 69, 71, 77, 69, 78, 84, 40]⟩] W fun e w' => e = .returned (.tuple #[.string (bs t), .bool false]) ∧ w' = W) := ⟨fun W => by
    refine (rbegins_any t segW (by omega) (by decide) W).mono ?_
    rintro e w' ⟨⟨r, b, (⟨rfl, h⟩ | ⟨rfl, h, rfl⟩), rfl⟩, rfl⟩
    · rw [h1] at h
      cases h
    · exact ⟨rfl, rfl⟩⟩
  have HB2 : Hd (∀ W, Calls Tryz.prog 37 #[.string (bs t), .string ⟨#[80, 79, 76, 89, 71, 79, 78, 40]⟩] W fun e w' => e = .returned (.tuple #[.string (bs t), .bool false]) ∧ w' = W) := ⟨fun W => by
    refine (rbegins_any t polW (by omega) (by decide) W).mono ?_
    rintro e w' ⟨⟨r, b, (⟨rfl, h⟩ | ⟨rfl, h, rfl⟩), rfl⟩, rfl⟩
    · rw [h2] at h
      cases h
    · exact ⟨rfl, rfl⟩⟩
  go_enter Tryz.func13, Tryz.ntmps13
  go_upto_region 1 with (fail)
  refine abs_wp (fun W => W.heap[w.heap.size]? = some (.cells #[.bool false, .int .i64 0, .int .i64 0, .int .i64 0, .int .i64 0, .slice none 0 0] 29 (0, 0)) ∧ Below w.heap.size w W) ⟨heap_new _ _, (Below.refl _ _).alloc (Nat.le_refl _) _⟩ fun W0 ⟨z0, hB⟩ => ?_
  go_wp2_with fail
  refine (HB1.out _).mono ?_
  rintro e w1 ⟨rfl, rfl⟩
  go_wp2_with fail
  refine (HB2.out _).mono ?_
  rintro e w2 ⟨rfl, rfl⟩
  go_wp2_with (refine wpList_store_block rfl 29 (.tmp 2) (.tmp 66) rfl w.heap.size #[.bool false, .int .i64 0, .int .i64 0, .int .i64 0, .int .i64 0, .slice none 0 0] rfl rfl z0 rfl (by kernel_rfl) rfl ?_; rintro wz hWz)
  have kz := cell_at hWz.here
  refine bodyPost_ret (by first | (simp [results, Tryz.results13, go_sem, kz]; done) | (simp [results, Tryz.results13, go_sem, kz]; rfl)) rfl ⟨rfl, hB.trans (hWz.below _ (Nat.le_refl _))⟩
end Go.Proofs.YtfchmikbebdflaaGreatDoor

namespace Go.Proofs.YtfchmikbebdflaaGreatDoor
open Go.RowKit Go.BigFrame Go.Shelf

theorem runtil_any (t : Bs) (ht : t.length ≤ 1100000) : ∃ body left ok, ((ok = true ∧ cutC 41 t = some (body, left)) ∨ (ok = false ∧ cutC 41 t = none)) ∧ body.length ≤ 1100000 ∧
    Hd (∀ W, Calls Tryz.prog 38 #[.string (bs t)] W fun e w' => e = .returned (.tuple #[.string (bs body), .string (bs left), .bool ok]) ∧ Below W.heap.size W w') := by
  cases hc : cutC 41 t with
  | none => exact ⟨[], t, false, .inr ⟨rfl, rfl⟩, by simp, ⟨fun W => (runtil_no t ht (cutC_none hc) W).mono fun _ _ ⟨h, k⟩ => ⟨h, k ▸ Below.refl _ _⟩⟩⟩
  | some q =>
    obtain ⟨body, left⟩ := q
    obtain ⟨hr0, hno⟩ := cutC_some hc
    refine ⟨body, left, true, .inl ⟨rfl, rfl⟩, by rw [hr0] at ht; simp at ht; omega, ⟨fun W => ?_⟩⟩
    have h := runtil_at body left (by rw [← hr0]; omega) hno W
    rw [← hr0] at h
    exact h
/-- The state while rings are read. -/
structure PSr (w : World) (Ls : List (List Nd)) (vs : List Value) (v : Value) (W : World) : Prop where
  out : W.heap[w.heap.size]? = some (.cells #[.bool false, .int .i64 0, .int .i64 0, .int .i64 0, .int .i64 0, .slice none 0 0] 29 (0, 0))
  buf : W.heap[w.heap.size + 1]? = some (.cells #[.bool false, .int .i64 0, .int .i64 0, .int .i64 0, .int .i64 0, v] 29 (0, 0))
  own : W.ownsRow (w.heap.size + 2) 30 1 v Ls.length vs
  rows : RowsN W vs Ls
  low : Below w.heap.size w W
theorem PSr.below {w W W' : World} {Ls : List (List Nd)} {vs : List Value} {v : Value} (h : PSr w Ls vs v W) (hb : Below W.heap.size W W') : PSr w Ls vs v W' :=
  ⟨heap_below hb h.out, heap_below hb h.buf, own_below h.own hb, h.rows.kept (NKept.below hb), below_on h.low hb⟩
theorem PSr.push {w W w1 : World} {Ls : List (List Nd)} {vs : List Value} {v : Value} (h : PSr w Ls vs v W) {l : List Nd} {rv v' : Value} (hrow : RowN W rv l) {ty : TypeId}
    (hown : w1.ownsRow (w.heap.size + 2) 30 1 v' (Ls.length + 1) (vs ++ [rv])) (hgrow : (W.alloc (.cells #[rv] ty)).grownBy w1 v.ownBlock) :
    PSr w (Ls ++ [l]) (vs ++ [rv]) v' (w1.setCell ⟨w.heap.size + 1, 5, none⟩ v') ∧ (∀ o, w1.cell? ⟨w.heap.size + 1, o, none⟩ = (#[.bool false, .int .i64 0, .int .i64 0, .int .i64 0, .int .i64 0, v] : Array Value)[o]?) ∧ (∀ o, w1.frozen? ⟨w.heap.size + 1, o, none⟩ = false) := by
  have hold : ∀ k o, W.heap[k]? = some o → v.ownBlock ≠ some k → w1.heap[k]? = some o := fun k o ho hne => (hgrow.block k (by have := lt_of_block ho; simp; omega) (fun e => hne e.symm)).trans (heap_old ho _)
  have ne : ∀ {b : Nat} {cs : Array Value} {T : TypeId}, W.heap[b]? = some (.cells cs T (0, 0)) → T ≠ 30 → v.ownBlock ≠ some b := fun hb hT => by
    rcases own_ne h.own hb hT with e | e
    · rw [e]
      exact fun x => by cases x
    · exact e
  have y1 := hold _ _ h.out (ne h.out (by decide))
  have y2 := hold _ _ h.buf (ne h.buf (by decide))
  have hk1 : NKept W w1 := fun k cur e => hold k _ e (ne e (by decide))
  have hW : Wr (w.heap.size + 1) #[.bool false, .int .i64 0, .int .i64 0, .int .i64 0, .int .i64 0, v'] 29 w1 (w1.setCell ⟨w.heap.size + 1, 5, none⟩ v') :=
    ⟨(heap_set y2 5 v').trans (by rfl), fun k o hk ho => heap_set_other ho hk _, fun n hn => (Below.refl n w1).setCell (p := ⟨w.heap.size + 1, 5, none⟩) hn _⟩
  have hk2 : NKept w1 (w1.setCell ⟨w.heap.size + 1, 5, none⟩ v') := NKept.wr hW y2 (by decide)
  have hlow : Below w.heap.size W w1 := (Below.alloc (Below.refl w.heap.size W) (by have := lt_of_block h.buf; omega) _).trans (below_grown hgrow (fun k hk => by have := (h.own.lt k hk).1; omega) (by have := lt_of_block h.buf; simp; omega))
  refine ⟨⟨heap_set_other y1 (by simp) _, hW.here, ?_, ?_, (h.low.trans hlow).trans (hW.below _ (by omega))⟩, cell_at y2, frozen_at y2⟩
  · rw [List.length_append]
    exact hown.kept hW.grown (own_ne hown y2 (by decide))
  · exact (h.rows.snoc hrow).kept (hk1.trans hk2)
set_option maxRecDepth 100000 in
set_option maxHeartbeats 8000000 in
theorem rwparse_pol (t r0 : Bs) (ht : t.length ≤ 1048576) (h1 : behind segW t = none) (h2 : behind polW t = some r0) (w : World) :
    Calls Tryz.prog 13 #[.string (bs t)] w fun e w' => match polyQ r0 with
      | some Ls => PolP w Ls e w'
      | none => PzP w e w' := by
  have hsz := bs_size t
  have hd1 : decide ((t.length : Int) > 1048576) = false := by simp; omega
  have hrl : r0.length + 8 = t.length := by
    have := behind_some h2
    rw [this]
    simp [polW]
  have hpi := polyQ_iff r0
  have HB1 : Hd (∀ W, Calls Tryz.prog 37 #[.string (bs t), .string ⟨#[83, 69, 71, 77, 69, 78, 84, 40]⟩] W fun e w' => e = .returned (.tuple #[.string (bs t), .bool false]) ∧ w' = W) := ⟨fun W => by
    refine (rbegins_any t segW (by omega) (by decide) W).mono ?_
    rintro e w' ⟨⟨r, b, (⟨rfl, h⟩ | ⟨rfl, h, rfl⟩), rfl⟩, rfl⟩
    · rw [h1] at h
      cases h
    · exact ⟨rfl, rfl⟩⟩
  have HB2 : Hd (∀ W, Calls Tryz.prog 37 #[.string (bs t), .string ⟨#[80, 79, 76, 89, 71, 79, 78, 40]⟩] W fun e w' => e = .returned (.tuple #[.string (bs r0), .bool true]) ∧ w' = W) := ⟨fun W => by
    refine (rbegins_any t polW (by omega) (by decide) W).mono ?_
    rintro e w' ⟨⟨r, b, (⟨rfl, h⟩ | ⟨rfl, h, _⟩), rfl⟩, rfl⟩
    · rw [h2] at h
      obtain rfl := Option.some.inj h
      exact ⟨rfl, rfl⟩
    · rw [h2] at h
      cases h⟩
  generalize hO : polyQ r0 = O at hpi ⊢
  have HRL := Hd.mk hrl
  have HPI := Hd.mk hpi
  have HO := Hd.mk hO
  clear h1 h2 hrl hpi hO
  go_enter Tryz.func13, Tryz.ntmps13
  go_upto_region 1 with (fail)
  refine abs_wp (fun W => W.heap[w.heap.size]? = some (.cells #[.bool false, .int .i64 0, .int .i64 0, .int .i64 0, .int .i64 0, .slice none 0 0] 29 (0, 0)) ∧ Below w.heap.size w W ∧ W.heap.size = w.heap.size + 1) ⟨heap_new _ _, (Below.refl _ _).alloc (Nat.le_refl _) _, by simp⟩ fun W0 ⟨z0, hB, hs0⟩ => ?_
  go_wp2_with fail
  refine (HB1.out _).mono ?_
  rintro e w1 ⟨rfl, rfl⟩
  go_wp2_with fail
  refine (HB2.out _).mono ?_
  rintro e w2 ⟨rfl, rfl⟩
  go_upto_region 14 with (fail)
  have hst : PSr w [] [] (.slice none 0 0) (w2.alloc (.cells #[.bool false, .int .i64 0, .int .i64 0, .int .i64 0, .int .i64 0, .slice none 0 0] 29)) := ⟨heap_old z0 _, heap_at hs0 _, ⟨rfl, .inl ⟨rfl, rfl⟩⟩, ⟨rfl, by simp⟩, hB.alloc hB.size _⟩
  generalize w2.alloc (.cells #[.bool false, .int .i64 0, .int .i64 0, .int .i64 0, .int .i64 0, .slice none 0 0] 29) = w3 at hst ⊢
  clear z0 hB hs0 HB1 HB2
  go_wp2
  go_loopw [11, 14] (fun tv iv wr => ∃ (i : Nat) (t' : Bs) (Ls : List (List Nd)) (vs : List Value) (v : Value), tv = .string (bs t') ∧ iv = .int .i64 i ∧ Hd (polyQ r0 = (polyQ t').map (Ls ++ ·)) ∧ i + t'.length ≤ r0.length ∧ Ls.length ≤ i ∧ PSr w Ls vs v wr) (fun _ iv _ => t.length - (intOf iv).toNat)
  case atStart =>
    refine ⟨0, r0, [], [], .slice none 0 0, rfl, rfl, ⟨?_⟩, by omega, Nat.le_refl _, hst⟩
    cases polyQ r0 <;> rfl
  case round =>
    clear hst
    obtain ⟨i, t', Ls, vs, v, rfl, rfl, HQ, hil, hLl, hst⟩ := hrel
    have hrl := HRL.out
    have hdi : decide ((i : Int) < (t.length : Int)) = true := by simp; omega
    have hdi2 : decide (i < t.length) = true := by simp; omega
    have htl : t'.length ≤ 1100000 := by omega
    have bad : ∀ x, polyQ t' = none → x = O → x = none ∨ O = none := fun x h _ => .inr (by rw [← HO.out, HQ.out, h]; rfl)
    have HBAD : Hd (polyQ t' = none → O = none) := ⟨fun h => by rw [← HO.out, HQ.out, h]; rfl⟩
    clear bad
    have hbg := rbegins_any t' [40] htl (by decide) wr
    have HL := Hd.mk (And.intro hrl (And.intro hil hLl))
    clear hrl hil
    go_wp2_with fail
    refine hbg.mono ?_
    rintro e w4 ⟨⟨op, a, ha, rfl⟩, rfl⟩
    clear hbg
    have hopl : op.length ≤ 1100000 := by
      rcases ha with ⟨_, h⟩ | ⟨_, _, rfl⟩
      · have := behind_some h
        rw [this] at htl
        simp at htl
        omega
      · exact htl
    obtain ⟨body, left, ok, hok, hbl, HU⟩ := runtil_any op hopl
    go_wp2_with fail
    refine (HU.out _).mono ?_
    rintro e w5 ⟨rfl, hb⟩
    have hst5 := hst.below hb
    clear hb hst HU
    have hrg := rring_any body hbl w5
    go_wp2_with fail
    refine hrg.mono ?_
    rintro e w6 ⟨hb, hcase⟩
    have hst6 := hst5.below hb
    clear hb hst5 hrg
    rcases hcase with ⟨l, rv, hrp, rfl, hrow⟩ | ⟨hrp, rfl⟩
    rotate_left
    · have hn : O = none := by
        refine HBAD.out ?_
        rcases ha with ⟨_, h⟩ | ⟨_, h, _⟩
        · have e := behind_some h
          subst e
          rcases hok with ⟨_, h2⟩ | ⟨_, h2⟩
          · exact polyQ_ring h2 hrp
          · exact polyQ_shut h2
        · cases t' with
          | nil => rfl
          | cons c t' => exact polyQ_not (fun e => by rw [e] at h; simp [behind] at h)
      subst hn
      have z0 := hst6.out
      cases a <;> cases ok
      all_goals
        go_wp2_with (refine wpList_store_block rfl 29 (.tmp 2) (.tmp 99) rfl w.heap.size #[.bool false, .int .i64 0, .int .i64 0, .int .i64 0, .int .i64 0, .slice none 0 0] rfl rfl z0 rfl (by kernel_rfl) rfl ?_; rintro wz hWz)
        have kz := cell_at hWz.here
        refine bodyPost_ret (by first | (simp [results, Tryz.results13, go_sem, kz]; done) | (simp [results, Tryz.results13, go_sem, kz]; rfl)) rfl ⟨rfl, hst6.low.trans (hWz.below _ (Nat.le_refl _))⟩
    · rcases ha with ⟨rfl, h⟩ | ⟨rfl, h, rfl⟩
      rotate_left
      · have hn : O = none := by
          refine HBAD.out ?_
          cases op with
          | nil => rfl
          | cons c t' => exact polyQ_not (fun e => by rw [e] at h; simp [behind] at h)
        subst hn
        have z0 := hst6.out
        cases ok
        all_goals
          go_wp2_with (refine wpList_store_block rfl 29 (.tmp 2) (.tmp 99) rfl w.heap.size #[.bool false, .int .i64 0, .int .i64 0, .int .i64 0, .int .i64 0, .slice none 0 0] rfl rfl z0 rfl (by kernel_rfl) rfl ?_; rintro wz hWz)
          have kz := cell_at hWz.here
          refine bodyPost_ret (by first | (simp [results, Tryz.results13, go_sem, kz]; done) | (simp [results, Tryz.results13, go_sem, kz]; rfl)) rfl ⟨rfl, hst6.low.trans (hWz.below _ (Nat.le_refl _))⟩
      · have e := behind_some h
        rcases hok with ⟨rfl, hcut⟩ | ⟨rfl, hcut⟩
        rotate_left
        · have hn : O = none := HBAD.out (by rw [e]; exact polyQ_shut hcut)
          subst hn
          have z0 := hst6.out
          go_wp2_with (refine wpList_store_block rfl 29 (.tmp 2) (.tmp 99) rfl w.heap.size #[.bool false, .int .i64 0, .int .i64 0, .int .i64 0, .int .i64 0, .slice none 0 0] rfl rfl z0 rfl (by kernel_rfl) rfl ?_; rintro wz hWz)
          have kz := cell_at hWz.here
          refine bodyPost_ret (by first | (simp [results, Tryz.results13, go_sem, kz]; done) | (simp [results, Tryz.results13, go_sem, kz]; rfl)) rfl ⟨rfl, hst6.low.trans (hWz.below _ (Nat.le_refl _))⟩
        · subst e
          have hll : body.length + left.length + 1 = op.length := by
            have := (cutC_some hcut).1
            rw [this]
            simp
            omega
          have hol : op.length + 1 = ([40] ++ op).length := by simp
          have HCUT := Hd.mk (And.intro hcut (And.intro hrp (And.intro hll hol)))
          obtain ⟨i1, hi1, hz0, hz1, hz2⟩ := info_parts infoRingW
          have hu : Tryz.prog.underlying 27 = some (.slice 30) := by kernel_rfl
          obtain ⟨A, cp, rfl, _⟩ := hrow
          have hrow : RowN w6 (.slice A l.length cp) l := ⟨A, cp, rfl, by assumption⟩
          have cb := cell_at hst6.buf
          have hsz6 := lt_of_block hst6.buf
          have HST := Hd.mk hst6
          have HROW := Hd.mk hrow
          have hil2 : Ls.length ≤ 1100000 := by have := HL.out; omega
          clear hcut hrp hrow hst6 h htl hopl hll hol
          go_wp2_with (at_builtin; refine wpList_append_own_at _ rfl (.tmp 101) (.tmp 103) 27 rfl (w.heap.size + 2) 30 i1 (.slice none 0 0) 1 24 hu hi1 hz0 hz1 hz2 rfl (by decide) v Ls.length vs rfl (HST.out.own.alloc _) ⟨w6.heap.size, 0, none⟩ 1 1 [.slice A l.length cp] rfl rfl (cell_one_new _ _ _) ?c2 ?b1 ?b2 ?b3 ?go)
          case c2 => intro u hu; simp at hu; subst hu; rfl
          case b1 => unfold maxLen; omega
          case b2 => omega
          case b3 => simp; omega
          case go =>
            intro v' w7 hown' hgrow _ hat
            obtain ⟨gg, cc, rfl⟩ : ∃ gg cc, v' = .slice (some ⟨gg, 0, none⟩) (Ls.length + 1) cc := by
              rcases hown'.2 with ⟨_, h0⟩ | ⟨g', c', cur', e, _⟩
              · omega
              · exact ⟨g', c', e⟩
            obtain ⟨hst8, hc8, hf8⟩ := HST.out.push HROW.out hown' hgrow
            have HS8 := Hd.mk hst8
            clear hown' hgrow hat hi1 hz0 hz1 hz2 hu HST HROW cb hst8
            by_cases hlast : left = [41]
            · subst hlast
              have hQ : polyQ r0 = some (Ls ++ [l]) := by
                rw [HQ.out]
                show (polyQ (40 :: op)).map _ = _
                rw [polyQ_last HCUT.out.1 HCUT.out.2.1]
                rfl
              have hOo : O = some (Ls ++ [l]) := by rw [← HO.out, hQ]
              obtain ⟨e1, hne, hall⟩ := (HPI.out _).1 hOo
              subst hOo
              have htt : total (Ls ++ [l]) ≤ 1100000 := by
                have h5 := total_tail _ hall
                rw [← e1] at h5
                have := HRL.out
                omega
              have hlm : (Ls ++ [l]).length ≤ 1100000 := Nat.le_trans (rings_many hall) htt
              have HCK : Hd (∀ W A' c', RingsIn W A' (Ls ++ [l]) → Calls Tryz.prog 41 #[.agg #[.bool false, .int .i64 0, .int .i64 0, .int .i64 0, .int .i64 0, .slice A' (Ls ++ [l]).length c']] W fun e w' => e = .returned (.int .i64 (if 512 < total (Ls ++ [l]) then 3 else 0)) ∧ Below W.heap.size W w') := ⟨fun W A' c' hR => by
                have h := rcheck_rings (Ls ++ [l]) hne A' c' W hR htt hlm
                rw [checkV_ok hne hall] at h
                exact h⟩
              clear hQ e1 hne hall htt hlm HCUT
              go_upto_region 28 with (fail)
              generalize hW8 : w7.setCell ⟨w.heap.size + 1, 5, none⟩ (.slice (some ⟨gg, 0, none⟩) (Ls.length + 1) cc) = w8 at HS8 ⊢
              have c8 := cell_at HS8.out.buf
              have hlen : (Ls ++ [l]).length = Ls.length + 1 := by simp
              have HR8 : Hd (RingsIn w8 (some ⟨gg, 0, none⟩) (Ls ++ [l])) := ⟨by
                have h5 := HS8.out.own
                rw [← hlen] at h5
                exact rings_of_own h5 HS8.out.rows⟩
              rw [hlen] at HCK
              clear hc8 hf8 hW8
              generalize hRs : Ls ++ [l] = Rs at HCK HR8 HS8 hlen
              have HRS := Hd.mk hRs
              clear hRs
              go_wp2_with fail
              refine (HCK.out _ _ _ HR8.out).mono ?_
              rintro e w9 ⟨rfl, hb⟩
              have hst9 := HS8.out.below hb
              have hR9 := Hd.mk (HR8.out.below hb)
              clear hb HS8 HR8 HCK c8
              have z0 := hst9.out
              have c9 := cell_at hst9.buf
              have HLOW := Hd.mk hst9.low
              have HZ0 := Hd.mk z0
              have HROWS := Hd.mk hst9.rows
              have hown9 := hst9.own
              rw [hlen] at hown9
              have HOWN := Hd.mk hown9
              clear hown9
              clear hst9
              by_cases hbig : 512 < total Rs
              · rw [if_pos hbig]
                have HBIG := Hd.mk hbig
                clear hbig
                go_wp2_with (refine wpList_store_block rfl 29 (.tmp 2) (.tmp 121) rfl w.heap.size #[.bool false, .int .i64 0, .int .i64 0, .int .i64 0, .int .i64 0, .slice none 0 0] rfl rfl z0 rfl (by kernel_rfl) rfl ?_; rintro wz hWz)
                have kz := cell_at hWz.here
                refine bodyPost_ret (by first | (simp [results, Tryz.results13, go_sem, kz]; done) | (simp [results, Tryz.results13, go_sem, kz]; rfl)) rfl ?_
                rw [HRS.out]
                unfold PolP
                rw [if_pos HBIG.out]
                exact ⟨rfl, HLOW.out.trans (hWz.below _ (Nat.le_refl _))⟩
              · rw [if_neg hbig]
                have HBIG := Hd.mk hbig
                clear hbig
                go_wp2_with (refine wpList_store_block rfl 29 (.tmp 2) (.tmp 123) rfl w.heap.size #[.bool false, .int .i64 0, .int .i64 0, .int .i64 0, .int .i64 0, .slice (some ⟨gg, 0, none⟩) (Ls.length + 1) cc] rfl rfl z0 rfl (by kernel_rfl) rfl ?_; rintro wz hWz)
                have kz := cell_at hWz.here
                refine bodyPost_ret (by first | (simp [results, Tryz.results13, go_sem, kz]; done) | (simp [results, Tryz.results13, go_sem, kz]; rfl)) rfl ?_
                rw [HRS.out]
                unfold PolP
                rw [if_neg HBIG.out]
                refine ⟨some ⟨gg, 0, none⟩, cc, by rw [hlen], ?_, HLOW.out.trans (hWz.below _ (Nat.le_refl _))⟩
                refine rings_of_own (base := w.heap.size + 2) (c := cc) (vs := _) ?_ (HROWS.out.kept (NKept.wr hWz HZ0.out (by decide)))
                rw [hlen]
                exact HOWN.out.kept hWz.grown (own_ne HOWN.out HZ0.out (by decide))
            · have hne41 : ((bs left).toList == (⟨#[41]⟩ : ByteArray).toList) = false := by rw [ByteArray.toList_eq, ByteArray.toList_eq]; simpa using hlast
              have hne41b : (left == [41]) = false := by simpa using hlast
              have HLS := Hd.mk hlast
              have hllen : left.length ≤ 1100000 := by have := HCUT.out.2.2; have := HL.out; omega
              clear hlast
              go_upto_region 24 with (fail)
              generalize w7.setCell ⟨w.heap.size + 1, 5, none⟩ (.slice (some ⟨gg, 0, none⟩) (Ls.length + 1) cc) = w8 at HS8 ⊢
              have hbg := rbegins_any left [44] hllen (by decide) w8
              clear hc8 hf8 hne41 hne41b
              go_wp2_with fail
              refine hbg.mono ?_
              rintro e w9 ⟨⟨nx, d, hd, rfl⟩, rfl⟩
              clear hbg
              rcases hd with ⟨rfl, h⟩ | ⟨rfl, h, rfl⟩
              · have e := behind_some h
                have hnl : nx.length + 1 = left.length := by rw [e]; simp
                have HQN : Hd (polyQ r0 = (polyQ nx).map ((Ls ++ [l]) ++ ·)) := ⟨by
                  rw [HQ.out]
                  show (polyQ (40 :: op)).map _ = _
                  rw [polyQ_next (next := nx) (by rw [HCUT.out.1, e]; rfl) HCUT.out.2.1]
                  cases polyQ nx with
                  | none => rfl
                  | some q => simp⟩
                have hib : i ≤ 1048576 := by have := HL.out; omega
                clear h e
                go_wp2
                go_roundw
                case rel => exact ⟨i + 1, nx, Ls ++ [l], _, _, rfl, by go_num, HQN, by have := HCUT.out.2.2; have := HL.out; omega, by have := HL.out; simp; omega, HS8.out⟩
                case measure => have := HL.out; simp [intOf]; omega
              · have hn : O = none := HBAD.out (polyQ_end HCUT.out.1 HCUT.out.2.1 HLS.out h)
                subst hn
                have z0 := HS8.out.out
                clear h
                go_wp2_with (refine wpList_store_block rfl 29 (.tmp 2) (.tmp 115) rfl w.heap.size #[.bool false, .int .i64 0, .int .i64 0, .int .i64 0, .int .i64 0, .slice none 0 0] rfl rfl z0 rfl (by kernel_rfl) rfl ?_; rintro wz hWz)
                have kz := cell_at hWz.here
                refine bodyPost_ret (by first | (simp [results, Tryz.results13, go_sem, kz]; done) | (simp [results, Tryz.results13, go_sem, kz]; rfl)) rfl ⟨rfl, HS8.out.low.trans (hWz.below _ (Nat.le_refl _))⟩
end Go.Proofs.YtfchmikbebdflaaGreatDoor

namespace Go.Proofs.YtfchmikbebdflaaGreatDoor
open Go.RowKit Go.BigFrame Go.Shelf

/-- The reference Parse, of any text. -/
theorem rwparse_any (t : Bs) (ht : t.length ≤ 1100000) (w : World) :
    Calls Tryz.prog 13 #[.string (bs t)] w fun e w' => PaPost w (parseS t).1 (parseS t).2 e w' := by
  by_cases hl : 1048576 < t.length
  · have e : parseS t = (zeroS, 3) := by unfold parseS; rw [if_pos hl]
    rw [e]
    exact (rwparse_long t hl ht w).mono fun _ _ h => PaPost.zero h
  · rcases eat_words t with ⟨_, h1, h2⟩ | ⟨r, h1, _⟩ | ⟨r, h1, h2, _⟩
    · have e : parseS t = (zeroS, 190) := by unfold parseS; rw [if_neg hl, h1]; simp only; rw [h2]
      rw [e]
      exact (rwparse_word t (by omega) h1 h2 w).mono fun _ _ h => PaPost.zero h
    · refine (rwparse_seg t r (by omega) h1 w).mono fun x w' hp => ?_
      have e : parseS t = match segQ r with | some g => (⟨true, g, []⟩, 0) | none => (zeroS, 190) := by unfold parseS; rw [if_neg hl, h1]; try rfl
      rw [e]
      cases hq : segQ r with
      | none => rw [hq] at hp; exact PaPost.zero hp
      | some g => rw [hq] at hp; exact ⟨none, 0, hp.1, rings_nil _, hp.2⟩
    · refine (rwparse_pol t r (by omega) h1 h2 w).mono fun x w' hp => ?_
      have e : parseS t = match polyQ r with | some Ls => if 512 < total Ls then (zeroS, 3) else (⟨false, ((0, 0), (0, 0)), Ls⟩, 0) | none => (zeroS, 190) := by unfold parseS; rw [if_neg hl, h1]; simp only; rw [h2]; try rfl
      rw [e]
      cases hq : polyQ r with
      | none => rw [hq] at hp; exact PaPost.zero hp
      | some Ls =>
        rw [hq] at hp
        simp only at hp ⊢
        unfold PolP at hp
        by_cases hb : 512 < total Ls
        · rw [if_pos hb] at hp ⊢
          exact PaPost.zero hp
        · rw [if_neg hb] at hp ⊢
          obtain ⟨A, c, h1, h2, h3⟩ := hp
          exact ⟨A, c, h1, h2, h3⟩
def rowOf (W : World) (A : Option Addr) (vs : List Value) : Prop := CellsIn W A vs
set_option maxRecDepth 100000 in
set_option maxHeartbeats 8000000 in
/-- Same, of the same shapes. -/
theorem rsame_eq (is : Bool) (g0 g1 g2 g3 : Int) (Ls : List (List Nd)) (hl : Ls.length ≤ 1100000) (ht : total Ls ≤ 1100000) (A A' : Option Addr) (c c' : Nat) (w : World) (hR : RingsIn w A Ls) (hR' : RingsIn w A' Ls) :
    Calls Tryz.prog 14 #[.agg #[.bool is, .int .i64 g0, .int .i64 g1, .int .i64 g2, .int .i64 g3, .slice A Ls.length c], .agg #[.bool is, .int .i64 g0, .int .i64 g1, .int .i64 g2, .int .i64 g3, .slice A' Ls.length c']] w fun e w' => e = .returned (.bool true) ∧ Below w.heap.size w w' := by
  obtain ⟨vs, hcl, hro⟩ := hR
  obtain ⟨us, hcu, hru⟩ := hR'
  have HV := Hd.mk (And.intro hcl hro)
  have HU := Hd.mk (And.intro hcu hru)
  have hvl := hro.1
  have hul := hru.1
  have HT := Hd.mk ht
  clear hcl hro hcu hru ht
  go_enter Tryz.func14, Tryz.ntmps14
  go_upto_region 1 with (fail)
  refine abs_wp (fun W => W.heap[w.heap.size]? = some (.cells #[.bool is, .int .i64 g0, .int .i64 g1, .int .i64 g2, .int .i64 g3, .slice A Ls.length c] 29 (0, 0)) ∧ W.heap[w.heap.size + 1]? = some (.cells #[.bool is, .int .i64 g0, .int .i64 g1, .int .i64 g2, .int .i64 g3, .slice A' Ls.length c'] 29 (0, 0)) ∧ Below w.heap.size w W) ⟨heap_old (heap_new _ _) _, heap_at (by simp) _, below_two w _ _⟩ fun W0 ⟨z0, z1, hB⟩ => ?_
  have c0 := cell_at z0
  have c1 := cell_at z1
  have hbb : (is != is) = false := by simp
  have hbe : (is == is) = true := by simp
  go_wp2
  go_loopw [5] (fun iv wr => ∃ i : Nat, iv = .int .i64 i ∧ i ≤ Ls.length ∧ wr.heap[w.heap.size]? = some (.cells #[.bool is, .int .i64 g0, .int .i64 g1, .int .i64 g2, .int .i64 g3, .slice A Ls.length c] 29 (0, 0)) ∧ wr.heap[w.heap.size + 1]? = some (.cells #[.bool is, .int .i64 g0, .int .i64 g1, .int .i64 g2, .int .i64 g3, .slice A' Ls.length c'] 29 (0, 0)) ∧ Below w.heap.size w wr) (fun iv _ => Ls.length - (intOf iv).toNat)
  case atStart => exact ⟨0, rfl, Nat.zero_le _, z0, z1, hB⟩
  case round =>
    clear z0 z1 hB c0 c1
    obtain ⟨i, rfl, hi, z0, z1, hB⟩ := hrel
    have c0 := cell_at z0
    by_cases hlt : i < Ls.length
    · have hd1 : decide ((i : Int) < (Ls.length : Int)) = true := by simp; omega
      have hd2 : decide (i < Ls.length) = true := by simp; omega
      obtain ⟨b1, o1, rfl, hcv⟩ := HV.out.1.below hB (by omega)
      obtain ⟨b2, o2, rfl, hcu⟩ := HU.out.1.below hB (by omega)
      obtain ⟨lr, hlr⟩ : ∃ lr, Ls[i]? = some lr := ⟨_, List.getElem?_eq_getElem hlt⟩
      obtain ⟨v, hv⟩ : ∃ v, vs[i]? = some v := ⟨_, List.getElem?_eq_getElem (by omega)⟩
      obtain ⟨u, hu⟩ : ∃ u, us[i]? = some u := ⟨_, List.getElem?_eq_getElem (by omega)⟩
      have q1 := hcv i v hv
      have q2 := hcu i u hu
      obtain ⟨A1, d1, rfl, _, _, hn1⟩ := HV.out.2.2 i v lr hv hlr
      obtain ⟨A2, d2, rfl, _, _, hn2⟩ := HU.out.2.2 i u lr hu hlr
      have hl0 : lr.length ≤ 1100000 := by
        have h1 := total_mem (List.mem_of_getElem? hlr)
        have := HT.out
        omega
      have HN1 := Hd.mk (hn1.below hB)
      have HN2 := Hd.mk (hn2.below hB)
      have l1 := World.block_lt_of_cell? wr _ q1
      have l2 := World.block_lt_of_cell? wr _ q2
      have HZ := Hd.mk (And.intro z0 (And.intro z1 hB))
      clear hcv hcu hlr hv hu hn1 hn2
      go_wp2
      refine region_qt 12 (by kernel_rfl) (by kernel_rfl) fun X _ mk hmk hcl => ?_
      have e0 := mk_cell hmk z0
      have e1 := mk_cell hmk z1
      have e2 : ∀ x : X, (mk x).cell? ⟨b1, o1 + i, none⟩ = some (.slice A1 lr.length d1) := fun x => ((hmk x).cell l1).trans q1
      have e3 : ∀ x : X, (mk x).cell? ⟨b2, o2 + i, none⟩ = some (.slice A2 lr.length d2) := fun x => ((hmk x).cell l2).trans q2
      simp only [List.take_succ_cons, List.take_zero, List.drop_succ_cons, List.drop_zero]
      repeat (go_big_quiet_step (skip))
      refine wpQuiet_nil ?_
      rintro _ ⟨x, rfl⟩
      clear e0 e1 e2 e3
      have hx := hmk x
      clear hcl hmk
      generalize mk x = W6 at hx
      have HB6 := Hd.mk hx
      have y0 := heap_below hx z0
      have y1 := heap_below hx z1
      have p1 := (hx.cell l1).trans q1
      have p2 := (hx.cell l2).trans q2
      clear hx z0 z1 q1 q2 c0
      go_wp2
      go_loopw [6] (fun kv w2 => ∃ k : Nat, kv = .int .i64 k ∧ k ≤ lr.length ∧ Below wr.heap.size wr w2) (fun kv _ => lr.length - (intOf kv).toNat)
      case atStart => exact ⟨0, rfl, Nat.zero_le _, HB6.out⟩
      case round =>
        obtain ⟨k, rfl, hk, hB3⟩ := hrel
        have x0 := heap_below hB3 HZ.out.1
        have x1 := heap_below hB3 HZ.out.2.1
        have r1 := (hB3.cell l1).trans ((HB6.out.cell l1).symm.trans p1)
        have r2 := (hB3.cell l2).trans ((HB6.out.cell l2).symm.trans p2)
        have c0 := cell_at x0
        by_cases hkl : k < lr.length
        · have hdk : decide ((k : Int) < (lr.length : Int)) = true := by simp; omega
          have hdk2 : decide (k < lr.length) = true := by simp; omega
          obtain ⟨f1, g1', rfl, hc1⟩ := (HN1.out.below hB3) (by omega)
          obtain ⟨f2, g2', rfl, hc2⟩ := (HN2.out.below hB3) (by omega)
          obtain ⟨⟨x, y⟩, hp⟩ : ∃ p, lr[k]? = some p := ⟨_, List.getElem?_eq_getElem hkl⟩
          obtain ⟨s1, s2⟩ := hc1 k (x, y) hp
          obtain ⟨s3, s4⟩ := hc2 k (x, y) hp
          have m1 := World.block_lt_of_cell? _ _ r1
          have m2 := World.block_lt_of_cell? _ _ r2
          have m3 := World.block_lt_of_cell? _ _ s1
          have m4 := World.block_lt_of_cell? _ _ s3
          have HB3 := Hd.mk hB3
          clear hc1 hc2 hp hB3
          go_wp2
          refine region_qt 16 (by kernel_rfl) (by kernel_rfl) fun X _ mk hmk hcl => ?_
          have e0 := mk_cell hmk x0
          have e1 := mk_cell hmk x1
          have e2 : ∀ z : X, (mk z).cell? ⟨b1, o1 + i, none⟩ = some _ := fun z => ((hmk z).cell m1).trans r1
          have e3 : ∀ z : X, (mk z).cell? ⟨b2, o2 + i, none⟩ = some _ := fun z => ((hmk z).cell m2).trans r2
          have e4 : ∀ z : X, (mk z).cell? ⟨f1, g1' + k * 2, none⟩ = some _ := fun z => ((hmk z).cell m3).trans s1
          have e5 : ∀ z : X, (mk z).cell? ⟨f1, g1' + k * 2 + 1, none⟩ = some _ := fun z => ((hmk z).cell m3).trans s2
          have e6 : ∀ z : X, (mk z).cell? ⟨f2, g2' + k * 2, none⟩ = some _ := fun z => ((hmk z).cell m4).trans s3
          have e7 : ∀ z : X, (mk z).cell? ⟨f2, g2' + k * 2 + 1, none⟩ = some _ := fun z => ((hmk z).cell m4).trans s4
          simp only [List.take_succ_cons, List.take_zero, List.drop_succ_cons, List.drop_zero]
          repeat (go_big_quiet_step (skip))
          refine wpQuiet_nil ?_
          rintro _ ⟨x, rfl⟩
          clear e0 e1 e2 e3 e4 e5 e6 e7
          have hx := hmk x
          clear hcl hmk
          generalize mk x = W9 at hx
          have hB9 := below_on HB3.out hx
          clear hx x0 x1 r1 r2 c0
          go_wp2
          go_roundw
          case rel => exact ⟨k + 1, by go_num, by omega, hB9⟩
          case measure => simp [intOf]; omega
        · obtain rfl : k = lr.length := by omega
          have hdk : decide (((lr.length : Nat) : Int) < (lr.length : Int)) = false := by simp
          have HF := Hd.mk (And.intro x0 (And.intro x1 (below_on HZ.out.2.2 hB3)))
          clear hB3
          go_wp2
          go_roundw
          case rel => exact ⟨i + 1, by go_num, by omega, HF.out.1, HF.out.2.1, HF.out.2.2⟩
          case measure => simp [intOf]; omega
    · obtain rfl : i = Ls.length := by omega
      have hd1 : decide (((Ls.length : Nat) : Int) < (Ls.length : Int)) = false := by simp
      go_wp2
      go_ret
      exact ⟨rfl, hB⟩
end Go.Proofs.YtfchmikbebdflaaGreatDoor

namespace Go.Proofs.YtfchmikbebdflaaGreatDoor
open Go.RowKit Go.BigFrame Go.Shelf

theorem itoa_dig {n : Nat} (h : n < 10) : Lib.itoa (n : Int) = [48 + n.toUInt8] := by
  unfold Lib.itoa
  rw [if_neg (by omega), Int.toNat_natCast]
  unfold Lib.decDigits
  simp [h]
theorem seg0_text : textL ⟨true, ((0, 0), (1, 2)), []⟩ = [83, 69, 71, 77, 69, 78, 84, 40, 48, 32, 48, 44, 49, 32, 50, 41] := by
  rw [textL, if_pos rfl]
  show segW ++ ((segS 0 0 1 2).data.toList ++ [41]) = _
  rw [seg_list, node_list, node_list]
  rw [show Lib.itoa 0 = [48] from itoa_dig (n := 0) (by decide), show Lib.itoa 1 = [49] from itoa_dig (n := 1) (by decide), show Lib.itoa 2 = [50] from itoa_dig (n := 2) (by decide)]
  rfl
theorem three_text : textL ⟨false, ((0, 0), (0, 0)), [[(0, 0), (2, 0), (0, 2)]]⟩ = [80, 79, 76, 89, 71, 79, 78, 40, 40, 48, 32, 48, 44, 50, 32, 48, 44, 48, 32, 50, 44, 48, 32, 48, 41, 41] := by
  rw [textL, if_neg (by simp)]
  show polW ++ tailL [[(0, 0), (2, 0), (0, 2)]] = _
  rw [tailL_one]
  show polW ++ 40 :: (Lib.join [nodeL (0, 0), nodeL (2, 0), nodeL (0, 2), nodeL (0, 0)] [44] ++ [41, 41]) = _
  unfold nodeL
  rw [node_list, node_list, node_list]
  simp only
  rw [show Lib.itoa 0 = [48] from itoa_dig (n := 0) (by decide), show Lib.itoa 2 = [50] from itoa_dig (n := 2) (by decide)]
  rfl
theorem open_ring : ringP [48, 32, 48, 44, 50, 32, 48, 44, 48, 32, 50] = none := by
  cases h : ringP [48, 32, 48, 44, 50, 32, 48, 44, 48, 32, 50] with
  | none => rfl
  | some l =>
    obtain ⟨h1, h2⟩ := ringP_some h
    have hl := h2.1
    have e := congrArg (fun b => (splitC 44 b).length) h1
    simp only [bodyL] at e
    rw [split_join 44 _ (fun h0 => by have := congrArg List.length h0; rw [List.length_map, List.length_append, List.length_nil] at this; omega) (fun p hp => by
      obtain ⟨q, _, rfl⟩ := List.mem_map.1 hp
      exact nodeL_no q (by decide) (by decide))] at e
    rw [List.length_map, List.length_append, List.length_take] at e
    have e2 : (splitC 44 [48, 32, 48, 44, 50, 32, 48, 44, 48, 32, 50]).length = 3 := by decide
    omega
theorem open_parse : parseS [80, 79, 76, 89, 71, 79, 78, 40, 40, 48, 32, 48, 44, 50, 32, 48, 44, 48, 32, 50, 41, 41] = (zeroS, 190) := by
  unfold parseS
  rw [if_neg (by decide)]
  rw [show behind segW [80, 79, 76, 89, 71, 79, 78, 40, 40, 48, 32, 48, 44, 50, 32, 48, 44, 48, 32, 50, 41, 41] = none by decide]
  simp only
  rw [show behind polW [80, 79, 76, 89, 71, 79, 78, 40, 40, 48, 32, 48, 44, 50, 32, 48, 44, 48, 32, 50, 41, 41] = some [40, 48, 32, 48, 44, 50, 32, 48, 44, 48, 32, 50, 41, 41] by decide]
  simp only
  rw [polyQ_ring (body := [48, 32, 48, 44, 50, 32, 48, 44, 48, 32, 50]) (left := [41]) (by decide) open_ring]
theorem gap_parse : parseS [80, 79, 76, 89, 71, 79, 78, 32, 40, 40, 48, 32, 48, 44, 50, 32, 48, 44, 48, 32, 50, 44, 48, 32, 48, 41, 41] = (zeroS, 190) := by
  unfold parseS
  rw [if_neg (by decide)]
  rw [show behind segW [80, 79, 76, 89, 71, 79, 78, 32, 40, 40, 48, 32, 48, 44, 50, 32, 48, 44, 48, 32, 50, 44, 48, 32, 48, 41, 41] = none by decide]
  simp only
  rw [show behind polW [80, 79, 76, 89, 71, 79, 78, 32, 40, 40, 48, 32, 48, 44, 50, 32, 48, 44, 48, 32, 50, 44, 48, 32, 48, 41, 41] = none by decide]

set_option maxHeartbeats 1000000 in
/-- num: the number itself. -/
theorem numw_any (n : Int) (w : World) :
    Calls Tryz.prog 11 #[.int .i64 n] w fun e w' => e = .returned (.int .i64 n) ∧ w' = w := by
  go_enter Tryz.func11, Tryz.ntmps11
  go_wp2
  go_ret
  exact ⟨rfl, rfl⟩
/-- Where nothing is given up with, the deferred closure leaves all as it is. -/
theorem multi_idle (p q : Addr) (w : World) :
    CallsD Tryz.prog 42 #[.pointer (some p), .pointer (some q)] .returning w fun e u' w' => e = .returned (.tuple #[]) ∧ u' = .returning ∧ w' = w := by
  refine callsD_of_wpS Tryz.func42 rfl fun c₀ cs hu => ?_
  apply wpS_seq
  apply wpS_region
  simp [wpOpsS, go_sem, recoverD, hu, Tryz.ntmps42, Exit.thenS]
  refine wpS_of_wp ?_
  go_wp2
  cases c₀
  simp_all [bodyPostS, results, Tryz.results42]
set_option maxRecDepth 100000 in
set_option maxHeartbeats 4000000 in
/-- Multi, of none. -/
theorem multi_none (w : World) :
    Calls Tryz.prog 15 #[.slice none 0 0] w fun e w' => e = .returned (.tuple #[.string ⟨#[77, 85, 76, 84, 73, 80, 79, 76, 89, 71, 79, 78, 32, 69, 77, 80, 84, 89]⟩, .int .i64 0]) ∧ Below w.heap.size w w' := by
  have hmf : ∀ (fn : Fn) (first cap : Array Value) (w : World), (Instr.makeFunc fn first cap).run Tryz.prog w = .ok (.func fn first cap) w := fun _ _ _ _ => rfl
  go_enter_defers Tryz.func15, Tryz.ntmps15
  go_upto_region 3 with (fail)
  refine abs_wp (fun W => W.heap[w.heap.size]? = some (.cells #[.string ⟨#[]⟩] 9 (0, 0)) ∧ W.heap[w.heap.size + 1]? = some (.cells #[.int .i64 0] 31 (0, 0)) ∧ Below w.heap.size w W) ⟨heap_old (heap_new _ _) _, heap_at (by simp) _, ((Below.refl _ _).alloc (Nat.le_refl _) _).alloc (by simp) _⟩ fun W4 ⟨y0, y1, hB⟩ => ?_
  have hW2 := wr_one (v' := .string ⟨#[77, 85, 76, 84, 73, 80, 79, 76, 89, 71, 79, 78, 32, 69, 77, 80, 84, 89]⟩) y0 (Below.refl _ _)
  have q1 := hW2.other _ _ (by omega) y1
  have c0 := cell_at y0
  have f0 := frozen_at y0
  have c1 := cell_at q1
  have f1 := frozen_at q1
  go_wp2
  have hB15 := hB.trans (hW2.below _ (Nat.le_refl _))
  have hW3 := wr_one (v' := .int .i64 0) q1 (Below.refl _ _)
  refine leaves_cons (f := 42) (args := #[.pointer (some ⟨w.heap.size, 0, none⟩), .pointer (some ⟨w.heap.size + 1, 0, none⟩)]) (by simp) (by simp [go_sem]) ?_
  refine (multi_idle _ _ _).mono ?_
  rintro e u' w9 ⟨rfl, rfl, rfl⟩
  refine abs_leaves (fun W => W.heap[w.heap.size]? = some (.cells #[.string ⟨#[77, 85, 76, 84, 73, 80, 79, 76, 89, 71, 79, 78, 32, 69, 77, 80, 84, 89]⟩] 9 (0, 0)) ∧ W.heap[w.heap.size + 1]? = some (.cells #[.int .i64 0] 31 (0, 0)) ∧ Below w.heap.size w W) ⟨hW3.other _ _ (by omega) hW2.here, hW3.here, hB15.trans (hW3.below _ (by omega))⟩ fun W ⟨y1, y2, hB⟩ => ?_
  have c1 := cell_at y1
  have c2 := cell_at y2
  simp [Leaves, settle, results, Tryz.results15, go_sem, c1, c2]
  exact hB
end Go.Proofs.YtfchmikbebdflaaGreatDoor

namespace Go.Proofs.YtfchmikbebdflaaGreatDoor
open Go.RowKit Go.BigFrame Go.Shelf

set_option maxRecDepth 100000 in
set_option maxHeartbeats 4000000 in
/-- three: a shape of one ring. -/
theorem three_any (w : World) :
    Calls Tryz.prog 19 #[] w fun e w' => ∃ A c, e = .returned (.agg (shV ⟨false, ((0, 0), (0, 0)), [[(0, 0), (2, 0), (0, 2)]]⟩ A c)) ∧ RingsIn w' A [[(0, 0), (2, 0), (0, 2)]] ∧ Below w.heap.size w w' := by
  go_enter Tryz.func19, Tryz.ntmps19
  go_wp2_with fail
  refine abs_post (fun W => W.heap[w.heap.size]? = some (.cells #[.bool false, .int .i64 0, .int .i64 0, .int .i64 0, .int .i64 0, .slice (some ⟨w.heap.size + 1 + 1, 0, none⟩) 1 1] 29 (0, 0)) ∧ W.heap[w.heap.size + 1]? = some (.cells #[.int .i64 0, .int .i64 0, .int .i64 2, .int .i64 0, .int .i64 0, .int .i64 2] 24 (0, 0)) ∧ W.heap[w.heap.size + 1 + 1]? = some (.cells #[.slice (some ⟨w.heap.size + 1, 0, none⟩) 3 3] 30 (0, 0)) ∧ Below w.heap.size w W) ⟨heap_old (heap_old (heap_new _ _) _) _, heap_old (heap_at (by simp) _) _, heap_at (by simp) _, (((Below.refl _ _).alloc (Nat.le_refl _) _).alloc (by simp) _).alloc (by simp; omega) _⟩ fun W ⟨y0, y1, y2, hB⟩ => ?_
  have c0 := cell_at y0
  simp [bodyPost, results, Tryz.results19, go_sem, c0]
  refine ⟨some ⟨w.heap.size + 1 + 1, 0, none⟩, ⟨1, rfl⟩, ⟨[.slice (some ⟨w.heap.size + 1, 0, none⟩) 3 3], fun _ => ⟨w.heap.size + 1 + 1, 0, rfl, fun j v hj => ?_⟩, rfl, fun j v l hv hl => ?_⟩, hB⟩
  · match j, hj with
    | 0, hj =>
      cases hj
      rw [cell_at y2]
      rfl
  · match j, hv, hl with
    | 0, hv, hl =>
      cases hv
      cases hl
      refine ⟨some ⟨w.heap.size + 1, 0, none⟩, 3, rfl, by decide, by decide, fun _ => ⟨w.heap.size + 1, 0, rfl, fun j p hj => ?_⟩⟩
      rw [cell_at y1, cell_at y1]
      match j, hj with
      | 0, hj => cases hj; exact ⟨rfl, rfl⟩
      | 1, hj => cases hj; exact ⟨rfl, rfl⟩
      | 2, hj => cases hj; exact ⟨rfl, rfl⟩
set_option maxRecDepth 100000 in
set_option maxHeartbeats 4000000 in
/-- works: true. -/
theorem wkt_works (w : World) (hV : Vars w) :
    Calls Tryz.prog 7 #[] w fun e w' => e = .returned (.bool true) ∧ Below w.heap.size w w' := by
  have HV := Hd.mk hV
  have HT1 : Hd (∀ W, Vars W → Calls Tryz.prog 8 #[.agg #[.bool true, .int .i64 0, .int .i64 0, .int .i64 1, .int .i64 2, .slice none 0 0]] W fun e w' => e = .returned (.tuple #[.string ⟨#[83, 69, 71, 77, 69, 78, 84, 40, 48, 32, 48, 44, 49, 32, 50, 41]⟩, .int .i64 0]) ∧ Below W.heap.size W w') := ⟨fun W h => by
    have h1 := wtext_seg ((0, 0), (1, 2)) (by decide) none 0 W h
    rw [seg0_text] at h1
    exact h1⟩
  have hok : ∀ l ∈ [([(0, 0), (2, 0), (0, 2)] : List Nd)], RingOk l := by
    intro l hl
    rw [List.mem_singleton] at hl
    subst hl
    exact ⟨by decide, by decide⟩
  have hT : TextOk [[(0, 0), (2, 0), (0, 2)]] := ⟨by simp, by decide, by
    intro l hl
    rw [List.mem_singleton] at hl
    subst hl
    exact ⟨by decide, by decide, fun p hp => node_64 ((hok _ (by simp)).2 p hp)⟩⟩
  have HT2 : Hd (∀ A c W, Vars W → RingsIn W A [[(0, 0), (2, 0), (0, 2)]] → Calls Tryz.prog 8 #[.agg (shV ⟨false, ((0, 0), (0, 0)), [[(0, 0), (2, 0), (0, 2)]]⟩ A c)] W fun e w' => e = .returned (.tuple #[.string ⟨#[80, 79, 76, 89, 71, 79, 78, 40, 40, 48, 32, 48, 44, 50, 32, 48, 44, 48, 32, 50, 44, 48, 32, 48, 41, 41]⟩, .int .i64 0]) ∧ Below W.heap.size W w') := ⟨fun A c W h hR => by
    have h1 := wtext_rings [[(0, 0), (2, 0), (0, 2)]] hT hok (by decide) A c W h hR
    rw [three_text] at h1
    exact h1⟩
  have HP1 : Hd (∀ W, Vars W → Calls Tryz.prog 9 #[.string ⟨#[80, 79, 76, 89, 71, 79, 78, 40, 40, 48, 32, 48, 44, 50, 32, 48, 44, 48, 32, 50, 41, 41]⟩] W fun e w' => PaPost W zeroS 190 e w') := ⟨fun W h => by
    have h1 := wparse_any [80, 79, 76, 89, 71, 79, 78, 40, 40, 48, 32, 48, 44, 50, 32, 48, 44, 48, 32, 50, 41, 41] (by decide) W h
    rw [open_parse] at h1
    exact h1⟩
  have HP2 : Hd (∀ W, Vars W → Calls Tryz.prog 9 #[.string ⟨#[80, 79, 76, 89, 71, 79, 78, 32, 40, 40, 48, 32, 48, 44, 50, 32, 48, 44, 48, 32, 50, 44, 48, 32, 48, 41, 41]⟩] W fun e w' => PaPost W zeroS 190 e w') := ⟨fun W h => by
    have h1 := wparse_any [80, 79, 76, 89, 71, 79, 78, 32, 40, 40, 48, 32, 48, 44, 50, 32, 48, 44, 48, 32, 50, 44, 48, 32, 48, 41, 41] (by decide) W h
    rw [gap_parse] at h1
    exact h1⟩
  clear hok hT hV
  go_enter Tryz.func7, Tryz.ntmps7
  go_wp2_with fail
  refine (HT1.out _ HV.out).mono ?_
  rintro e w1 ⟨rfl, hB1⟩
  go_wp2_with fail
  refine (three_any _).mono ?_
  rintro e w2 ⟨A, c, rfl, hR, hb⟩
  have hB2 := below_on hB1 hb
  clear hb hB1
  go_wp2_with fail
  refine (HT2.out A c _ (HV.out.below hB2) hR).mono ?_
  rintro e w3 ⟨rfl, hb⟩
  have hB3 := below_on hB2 hb
  clear hb hB2 hR
  go_wp2_with fail
  refine (HP1.out _ (HV.out.below hB3)).mono ?_
  rintro e w4 ⟨A4, c4, rfl, _, hb⟩
  have hB4 := below_on hB3 hb
  clear hb hB3
  unfold shV zeroS
  go_wp2_with fail
  have hB5 := hB4.alloc hB4.size (.cells #[.bool false, .int .i64 0, .int .i64 0, .int .i64 0, .int .i64 0, .slice A4 0 c4] 29)
  refine (HP2.out _ (HV.out.below hB5)).mono ?_
  rintro e w5 ⟨A5, c5, rfl, _, hb⟩
  have hB6 := below_on hB5 hb
  clear hb hB5 hB4
  unfold shV zeroS
  go_wp2_with fail
  have hB7 := hB6.alloc hB6.size (.cells #[.bool false, .int .i64 0, .int .i64 0, .int .i64 0, .int .i64 0, .slice A5 0 c5] 29)
  refine (multi_none _).mono ?_
  rintro e w6 ⟨rfl, hb⟩
  have hB8 := below_on hB7 hb
  clear hb hB7 hB6
  go_wp2_with (go_at_call 11; refine (numw_any _ _).mono ?_; rintro e w7 ⟨rfl, rfl⟩)
  go_ret
  exact ⟨rfl, hB8⟩
end Go.Proofs.YtfchmikbebdflaaGreatDoor

namespace Go.Proofs.YtfchmikbebdflaaGreatDoor
open Go.RowKit Go.BigFrame Go.Shelf

theorem rings_few : ∀ Ls : List (List Nd), (∀ l ∈ Ls, RingOk l) → Ls.length ≤ total Ls
  | [], _ => by simp [total]
  | l :: Ls, h => by
    have h1 := (h l (by simp)).1
    have h2 := rings_few Ls fun k hk => h k (by simp [hk])
    simp [total] at h2 ⊢
    omega
theorem parseS_rs (t : Bs) : total (parseS t).1.rs ≤ 512 ∧ (parseS t).1.rs.length ≤ 512 := by
  have z : total zeroS.rs ≤ 512 ∧ zeroS.rs.length ≤ 512 := by decide
  unfold parseS
  split
  · exact z
  · split
    · split
      · exact ⟨by simp [total], by simp⟩
      · exact z
    · split
      · split
        · split
          · exact z
          · rename_i Ls hq hn
            have h1 := rings_few Ls ((polyQ_iff _ _).1 hq).2.2
            exact ⟨by simp only; omega, by simp only; omega⟩
        · exact z
      · exact z
set_option maxRecDepth 100000 in
set_option maxHeartbeats 4000000 in
/-- The law WktParses. -/
theorem wktparses_any (s : ByteArray) (hs : (s.size : Int) ≤ 9223372036854775807) (w : World) (hV : Vars w) :
    Calls Tryz.prog 4 #[.string s] w fun e w' => e = .returned (.bool true) ∧ Below w.heap.size w w' := by
  have HV := Hd.mk hV
  clear hV
  by_cases hl : 600 < s.size
  · have hd : decide ((600 : Int) < (s.size : Int)) = true := by simp; omega
    go_enter Tryz.func4, Tryz.ntmps4
    go_wp2_with fail
    refine (wkt_works _ HV.out).mono ?_
    rintro e w1 ⟨rfl, hB⟩
    go_wp2
    go_ret
    exact ⟨rfl, hB⟩
  · have hd : decide ((600 : Int) < (s.size : Int)) = false := by simp; omega
    have hsl : s.data.toList.length ≤ 600 := by
      have : s.size = s.data.toList.length := (Array.length_toList (xs := s.data)).symm
      omega
    have HP : Hd (∀ W, Vars W → Calls Tryz.prog 9 #[.string s] W fun e w' => PaPost W (parseS s.data.toList).1 (parseS s.data.toList).2 e w') := ⟨fun W h => by
      have h1 := wparse_any s.data.toList (by omega) W h
      rw [bs_self s] at h1
      exact h1⟩
    have HR : Hd (∀ W, Calls Tryz.prog 13 #[.string s] W fun e w' => PaPost W (parseS s.data.toList).1 (parseS s.data.toList).2 e w') := ⟨fun W => by
      have h1 := rwparse_any s.data.toList (by omega) W
      rw [bs_self s] at h1
      exact h1⟩
    have hrs := parseS_rs s.data.toList
    generalize (parseS s.data.toList).2 = N at HP HR
    generalize (parseS s.data.toList).1 = S at HP HR hrs
    obtain ⟨is, ⟨⟨g0, g1⟩, ⟨g2, g3⟩⟩, Ls⟩ := S
    unfold shV at *
    simp only at hrs
    go_enter Tryz.func4, Tryz.ntmps4
    go_wp2_with fail
    refine (HP.out _ HV.out).mono ?_
    rintro e w1 ⟨A, c, rfl, hR, hB⟩
    unfold shV
    go_wp2_with fail
    refine (HR.out _).mono ?_
    rintro e w2 ⟨A', c', rfl, hR', hb⟩
    have hBa := hB.alloc hB.size (.cells #[.bool is, .int .i64 g0, .int .i64 g1, .int .i64 g2, .int .i64 g3, .slice A Ls.length c] 29)
    have hB2 := below_on hBa hb
    have y0 := heap_below hb (heap_new w1 (.cells #[.bool is, .int .i64 g0, .int .i64 g1, .int .i64 g2, .int .i64 g3, .slice A Ls.length c] 29))
    have hR2 := (hR.below ((Below.refl _ _).alloc (Nat.le_refl _) _)).below hb
    have hB3 := hB2.alloc hB2.size (.cells #[.bool is, .int .i64 g0, .int .i64 g1, .int .i64 g2, .int .i64 g3, .slice A' Ls.length c'] 29)
    have hR3 := hR2.below ((Below.refl _ _).alloc (Nat.le_refl _) (.cells #[.bool is, .int .i64 g0, .int .i64 g1, .int .i64 g2, .int .i64 g3, .slice A' Ls.length c'] 29))
    have hR4 := hR'.below ((Below.refl _ _).alloc (Nat.le_refl _) (.cells #[.bool is, .int .i64 g0, .int .i64 g1, .int .i64 g2, .int .i64 g3, .slice A' Ls.length c'] 29))
    have c0 := cell_at (heap_old y0 (.cells #[.bool is, .int .i64 g0, .int .i64 g1, .int .i64 g2, .int .i64 g3, .slice A' Ls.length c'] 29))
    have c1 := cell_at (heap_new w2 (.cells #[.bool is, .int .i64 g0, .int .i64 g1, .int .i64 g2, .int .i64 g3, .slice A' Ls.length c'] 29))
    clear hb y0 hR hR' hR2 hB hBa hB2
    unfold shV
    go_wp2_with fail
    refine (rsame_eq is g0 g1 g2 g3 Ls (by omega) (by omega) A A' c c' _ hR3 hR4).mono ?_
    rintro e w3 ⟨rfl, hb⟩
    have hB4 := below_on hB3 hb
    clear hb hB3 hR3 hR4 c0 c1
    go_wp2_with (go_at_call 11; refine (numw_any _ _).mono ?_; rintro e w7 ⟨rfl, rfl⟩)
    refine (wkt_works _ (HV.out.below hB4)).mono ?_
    rintro e w5 ⟨rfl, hb⟩
    have hB5 := below_on hB4 hb
    go_wp2
    go_ret
    exact ⟨rfl, hB5⟩
end Go.Proofs.YtfchmikbebdflaaGreatDoor
