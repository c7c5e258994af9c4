/-
  The reference of wkt: ring. Conditions stand in each theorem.
-/
import Derived.Test.YtfchmikbebdflaaGreatDoorKt2
namespace Go.Proofs.YtfchmikbebdflaaGreatDoor
open Go.RowKit Go.BigFrame Go.Shelf
attribute [-go_sem] Builtin.append_

theorem ringL_len {l : List Nd} (hl : l.length ≤ 9000) (h : ∀ p ∈ l, P64 p) : (ringL l).length ≤ 1000000 := by
  have h1 := join_le (B := 43) (ps := (l ++ l.take 1).map nodeL) (fun p hp => by
    obtain ⟨q, hq, rfl⟩ := List.mem_map.1 hp
    rcases List.mem_append.1 hq with h2 | h2
    · exact nodeL_len (h q h2)
    · exact nodeL_len (h q (List.mem_of_mem_take h2)))
  rw [List.length_map, List.length_append, List.length_take] at h1
  unfold ringL bodyL
  rw [List.length_cons, List.length_append, List.length_cons, List.length_nil]
  omega
/-- Rings of which a text is asked. -/
def TextOk (Ls : List (List Nd)) : Prop := Ls ≠ [] ∧ Ls.length ≤ 9000 ∧ ∀ l ∈ Ls, 0 < l.length ∧ l.length ≤ 9000 ∧ ∀ p ∈ l, P64 p
set_option maxRecDepth 100000 in
set_option maxHeartbeats 4000000 in
/-- joined, of rings. -/
theorem joined_rings (A : Option Addr) (c : Nat) (Ls : List (List Nd)) (hok : TextOk Ls) (w : World) (hV : Vars w) (hR : RingsIn w A Ls) :
    Calls Tryz.prog 21 #[.slice A Ls.length c, .func (.func 22) #[] #[]] w fun e w' => e = .returned (.string (bs (40 :: tailL Ls))) ∧ Below w.heap.size w w' := by
  obtain ⟨hne, hl, hall⟩ := hok
  obtain ⟨vs, hcl, hro⟩ := hR
  have hvl := hro.1
  have hlen : ∀ p ∈ Ls.map ringL, p.length ≤ 1000000 := fun p hp => by
    obtain ⟨q, hq, rfl⟩ := List.mem_map.1 hp
    exact ringL_len (hall q hq).2.1 (hall q hq).2.2
  have HJ : Hd (∀ v W, W.ownsRow w.heap.size 9 1 v Ls.length (Ls.map fun p => Value.string (bs (ringL p))) → Calls Tryz.prog 54 #[v, .string ⟨#[44]⟩] W fun e w' => e = .returned (.string (bs (Lib.join (Ls.map ringL) [44]))) ∧ Below W.heap.size W w') := ⟨fun v W h => by
    refine wjoin_own (base := w.heap.size) (ps := Ls.map ringL) (by simpa using hne) (by rw [List.length_map]; omega) (fun p hp => ?_) (by rw [List.length_map, List.map_map]; exact h)
    have := hlen p hp
    omega⟩
  have HLN : Hd ((Lib.join (Ls.map ringL) [44]).length ≤ 10000000000) := ⟨by
    have h1 := join_le hlen
    rw [List.length_map] at h1
    omega⟩
  have HF : Hd (∀ (j : Nat) v l, vs[j]? = some v → Ls[j]? = some l → ∀ W, Below w.heap.size w W → Vars W → Calls Tryz.prog 22 #[v] W fun e w' => e = .returned (.string (bs (ringL l))) ∧ Below W.heap.size W w') := ⟨fun j v l hv hl W hB hVW => by
    have h := hall l (List.mem_of_getElem? hl)
    exact ringtext_any v l h.1 h.2.1 h.2.2 W hVW ((hro.2 j v l hv hl).below hB)⟩
  have HV := Hd.mk hV
  have HC := Hd.mk hcl
  have HT : Hd (40 :: tailL Ls = 40 :: (Lib.join (Ls.map ringL) [44] ++ [41])) := ⟨rfl⟩
  rw [HT.out]
  generalize hT : Lib.join (Ls.map ringL) [44] = T at HJ HLN ⊢
  have r1 := fun w => run_string_add_sum (P := Tryz.prog) w ⟨#[40]⟩ (bs T) (by have := HLN.out; simp [ByteArray.size]; omega)
  have r2 := fun w => run_string_add_sum (P := Tryz.prog) w (⟨#[40]⟩ ++ bs T) ⟨#[41]⟩ (by have := HLN.out; rw [ByteArray.size_append]; simp [ByteArray.size]; omega)
  have HE : Hd ((⟨#[40]⟩ ++ bs T) ++ ⟨#[41]⟩ = bs (40 :: (T ++ [41]))) := ⟨by apply bs_of; simp⟩
  clear hV hcl hT hne hall hlen hro
  go_enter Tryz.func21, Tryz.ntmps21
  go_wp2
  go_loopw [5, 10] (fun v iv wr => ∃ k : Nat, iv = .int .i64 k ∧ k ≤ Ls.length ∧ Hd (wr.ownsRow w.heap.size 9 1 v k ((Ls.map fun p => Value.string (bs (ringL p))).take k)) ∧ Below w.heap.size w wr) (fun _ iv _ => Ls.length - (intOf iv).toNat)
  case atStart => exact ⟨0, rfl, Nat.zero_le _, ⟨⟨rfl, .inl ⟨rfl, rfl⟩⟩⟩, Below.refl _ _⟩
  case round =>
    obtain ⟨k, rfl, hk, HO, hB⟩ := hrel
    by_cases hlt : k < Ls.length
    · have hd1 : decide ((k : Int) < (Ls.length : Int)) = true := by simp; omega
      have hd2 : decide (k < Ls.length) = true := by simp; omega
      obtain ⟨b, off, rfl, hcc⟩ := HC.out.below hB (by omega)
      obtain ⟨p, hp⟩ : ∃ p, Ls[k]? = some p := ⟨_, List.getElem?_eq_getElem hlt⟩
      obtain ⟨v, hv⟩ : ∃ v, vs[k]? = some v := ⟨_, List.getElem?_eq_getElem (by omega)⟩
      have q1 := hcc k v hv
      have HCL := Hd.mk (HF.out k v p hv hp)
      have HS := Hd.mk (strs_snoc ringL hp)
      have HVR := Hd.mk (HV.out.below hB)
      have HB := Hd.mk hB
      clear hcc hp hv
      go_wp2_with fail
      refine (HCL.out _ HB.out HVR.out).mono ?_
      rintro e w5 ⟨rfl, hb⟩
      have HO5 := Hd.mk (own_below HO.out hb)
      have hB5 := below_on hB hb
      have hsz := hB5.size
      clear hb q1
      obtain ⟨i0, hi, hz0, hz1, hz2⟩ := info_parts infoStrW
      have hu : Tryz.prog.underlying 104 = some (.slice 9) := by kernel_rfl
      go_wp2_with (at_builtin; refine wpList_append_own_at _ rfl (.tmp 14) (.tmp 18) 104 rfl w.heap.size 9 i0 (.string ByteArray.empty) 1 16 hu hi hz0 hz1 hz2 rfl (by decide) _ k _ rfl (HO5.out.alloc _) ⟨w5.heap.size, 0, none⟩ 1 1 [.string (bs (ringL p))] rfl rfl (cell_one_new _ _ _) ?c2 ?b1 ?b2 ?b3 ?go)
      case c2 => intro u hu; simp at hu; subst hu; rfl
      case b1 => unfold maxLen; omega
      case b2 => omega
      case b3 => simp; omega
      case go =>
        intro v' w6 hown' hgrow _ hat
        have hr : ∀ k, u5.ownBlock = some k → w.heap.size ≤ k := fun k hk => own_ge HO5.out hk
        have hb6 : Below w.heap.size w w6 := (hB5.alloc hB5.size _).trans (below_grown hgrow (fun k hk => hr k hk) (by simp; omega))
        have HO6 := Hd.mk hown'
        clear hown' hgrow hat hr hi hz0 hz1 hz2 hu HO HO5
        go_wp2
        go_roundw
        case rel => exact ⟨k + 1, by go_num, by omega, ⟨by rw [HS.out]; exact HO6.out⟩, hb6⟩
        case measure => simp [intOf]; omega
    · obtain rfl : k = Ls.length := by omega
      have hd1 : decide (((Ls.length : Nat) : Int) < (Ls.length : Int)) = false := by simp
      have HO2 : Hd (wr.ownsRow w.heap.size 9 1 u5 Ls.length (Ls.map fun p => Value.string (bs (ringL p)))) := ⟨by have := HO.out; rwa [List.take_of_length_le (by simp)] at this⟩
      clear HO
      go_wp2_with fail
      refine (HJ.out _ _ HO2.out).mono ?_
      rintro e w5 ⟨rfl, hb⟩
      have hB5 := below_on hB hb
      clear hb
      go_wp2
      go_ret
      exact ⟨by rw [← HE.out]; rfl, hB5⟩
theorem node_64 {p : Nd} (h : nodeB p.1 p.2 = true) : P64 p := by
  have := node_range h
  unfold P64 I64
  omega
theorem wcheck_ok {s : Shp} (h : checkV s = 0) : (s.is = true ∧ s.rs = [] ∧ sgB s.sg = true) ∨ (s.is = false ∧ s.sg = ((0, 0), (0, 0)) ∧ TextOk s.rs ∧ (∀ l ∈ s.rs, RingOk l) ∧ total s.rs ≤ 512) := by
  obtain ⟨is, g, Ls⟩ := s
  unfold checkV at h
  cases is with
  | true =>
    rw [if_pos rfl] at h
    split at h
    · cases h
    · rename_i hr
      split at h
      · rename_i hg
        exact .inl ⟨rfl, by simpa using hr, hg⟩
      · cases h
  | false =>
    rw [if_neg (by simp)] at h
    split at h
    · cases h
    · rename_i hz
      split at h
      · rename_i hok
        split at h
        · cases h
        · rename_i hn
          have h2 : Ls ≠ [] := fun e => hz (.inr e)
          have hn' : total Ls ≤ 512 := by have h5 : ¬ 512 < total Ls := hn; omega
          have hm : Ls.length ≤ total Ls := rings_many hok
          refine .inr ⟨rfl, Classical.byContradiction fun e => hz (.inl e), ⟨h2, by show Ls.length ≤ _; omega, fun l hl => ⟨by have := (hok l hl).1; omega, by have := total_mem hl; omega, fun p hp => node_64 ((hok l hl).2 p hp)⟩⟩, hok, hn'⟩
      · cases h
theorem tailL_len2 {Ls : List (List Nd)} (h : TextOk Ls) : (tailL Ls).length ≤ 10000000001 := by
  have hlen : ∀ p ∈ Ls.map ringL, p.length ≤ 1000000 := fun p hp => by
    obtain ⟨q, hq, rfl⟩ := List.mem_map.1 hp
    exact ringL_len (h.2.2 q hq).2.1 (h.2.2 q hq).2.2
  have h1 := join_le hlen
  have h2 := h.2.1
  rw [List.length_map] at h1
  unfold tailL
  simp
  omega
set_option maxRecDepth 100000 in
set_option maxHeartbeats 4000000 in
/-- Text, of a shape that may not be. -/
theorem wtext_no (s : Shp) (E : Int) (hE : checkV s = E) (h0 : E ≠ 0) (A : Option Addr) (c : Nat) (w : World) (hR : RingsIn w A s.rs) (ht : total s.rs ≤ 1100000) (hl : s.rs.length ≤ 1100000) :
    Calls Tryz.prog 8 #[.agg (shV s A c)] w fun e w' => e = .returned (.tuple #[.string ⟨#[]⟩, .int .i64 E]) ∧ Below w.heap.size w w' := by
  have HC : Hd (∀ W, Below w.heap.size w W → Calls Tryz.prog 12 #[.agg (shV s A c)] W fun e w' => e = .returned (.int .i64 E) ∧ Below W.heap.size W w') := ⟨fun W hB => by
    have h := wcheck_any s A c W (hR.below hB) ht hl
    rw [hE] at h
    exact h⟩
  have hne : (E == 0) = false := by simpa using h0
  clear hR hE
  unfold shV at HC ⊢
  go_enter Tryz.func8, Tryz.ntmps8
  go_wp2_with fail
  refine (HC.out _ ((Below.refl _ _).alloc (Nat.le_refl _) _)).mono ?_
  rintro e w1 ⟨rfl, hb⟩
  have hB : Below w.heap.size w w1 := below_on ((Below.refl _ _).alloc (Nat.le_refl _) _) hb
  clear hb
  go_wp2
  go_ret2
  exact ⟨rfl, hB⟩
set_option maxRecDepth 100000 in
set_option maxHeartbeats 4000000 in
/-- Text, of a segment. -/
theorem wtext_seg (g : Sgm) (hg : sgB g = true) (A : Option Addr) (c : Nat) (w : World) (hV : Vars w) :
    Calls Tryz.prog 8 #[.agg (shV ⟨true, g, []⟩ A c)] w fun e w' => e = .returned (.tuple #[.string (bs (textL ⟨true, g, []⟩)), .int .i64 0]) ∧ Below w.heap.size w w' := by
  have HC : Hd (∀ W, Calls Tryz.prog 12 #[.agg (shV ⟨true, g, []⟩ A c)] W fun e w' => e = .returned (.int .i64 0) ∧ Below W.heap.size W w') := ⟨fun W => by
    have h := wcheck_seg2 g A c W
    rw [if_pos hg] at h
    exact h⟩
  obtain ⟨⟨a0, a1⟩, ⟨a2, a3⟩⟩ := g
  have HT : Hd (∀ W, Vars W → Calls Tryz.prog 20 #[.agg #[.int .i64 a0, .int .i64 a1, .int .i64 a2, .int .i64 a3]] W fun e w' => e = .returned (.tuple #[.string (bs (sgL ((a0, a1), (a2, a3)))), .int .i64 0]) ∧ Below W.heap.size W w') := ⟨fun W hv => by
    have h := seg_text_ok a0 a1 a2 a3 hg W hv
    rw [bs_self (segS a0 a1 a2 a3)] at h
    exact h⟩
  have HL : Hd ((sgL ((a0, a1), (a2, a3))).length ≤ 1000) := ⟨by
    have hn := segB_nodes hg
    have h1 := nodeL_len (node_64 hn.1)
    have h2 := nodeL_len (node_64 hn.2)
    rw [sgL_parts]
    simp at h1 h2 ⊢
    omega⟩
  have HX : Hd (textL ⟨true, ((a0, a1), (a2, a3)), []⟩ = segW ++ (sgL ((a0, a1), (a2, a3)) ++ [41])) := ⟨by simp [textL]⟩
  rw [HX.out]
  generalize sgL ((a0, a1), (a2, a3)) = T at HT HL
  have r1 := fun w => run_string_add_sum (P := Tryz.prog) w ⟨#[83, 69, 71, 77, 69, 78, 84, 40]⟩ (bs T) (by have := HL.out; simp [ByteArray.size]; omega)
  have r2 := fun w => run_string_add_sum (P := Tryz.prog) w (⟨#[83, 69, 71, 77, 69, 78, 84, 40]⟩ ++ bs T) ⟨#[41]⟩ (by have := HL.out; rw [ByteArray.size_append]; simp [ByteArray.size]; omega)
  have HE : Hd ((⟨#[83, 69, 71, 77, 69, 78, 84, 40]⟩ ++ bs T) ++ ⟨#[41]⟩ = bs (segW ++ (T ++ [41]))) := ⟨by apply bs_of; simp [segW]⟩
  have HV := Hd.mk hV
  clear hV hg
  unfold shV at HC ⊢
  go_enter Tryz.func8, Tryz.ntmps8
  go_wp2_with fail
  refine (HC.out _).mono ?_
  rintro e w1 ⟨rfl, hb⟩
  have z0 := heap_below hb (heap_new w (.cells #[.bool true, .int .i64 a0, .int .i64 a1, .int .i64 a2, .int .i64 a3, .slice A 0 c] 29))
  have hB : Below w.heap.size w w1 := below_on ((Below.refl _ _).alloc (Nat.le_refl _) _) hb
  clear hb
  have c0 := cell_at z0
  go_wp2_with fail
  refine (HT.out _ (HV.out.below hB)).mono ?_
  rintro e w2 ⟨rfl, hb⟩
  have hB2 := below_on hB hb
  clear hb c0 z0 hB
  go_wp2
  go_ret2
  exact ⟨by rw [← HE.out]; rfl, hB2⟩
set_option maxRecDepth 100000 in
set_option maxHeartbeats 4000000 in
/-- Text, of rings. -/
theorem wtext_rings (Ls : List (List Nd)) (hT : TextOk Ls) (hok : ∀ l ∈ Ls, RingOk l) (hn : total Ls ≤ 512) (A : Option Addr) (c : Nat) (w : World) (hV : Vars w) (hR : RingsIn w A Ls) :
    Calls Tryz.prog 8 #[.agg (shV ⟨false, ((0, 0), (0, 0)), Ls⟩ A c)] w fun e w' => e = .returned (.tuple #[.string (bs (textL ⟨false, ((0, 0), (0, 0)), Ls⟩)), .int .i64 0]) ∧ Below w.heap.size w w' := by
  have HC : Hd (∀ W, Below w.heap.size w W → Calls Tryz.prog 12 #[.agg (shV ⟨false, ((0, 0), (0, 0)), Ls⟩ A c)] W fun e w' => e = .returned (.int .i64 0) ∧ Below W.heap.size W w') := ⟨fun W hB => by
    have h := wcheck_rings Ls hT.1 A c W (hR.below hB) (by omega) (by have := hT.2.1; omega)
    rw [checkV_ok hT.1 hok, if_neg (by omega)] at h
    exact h⟩
  have HJ : Hd (∀ W, Below w.heap.size w W → Vars W → Calls Tryz.prog 21 #[.slice A Ls.length c, .func (.func 22) #[] #[]] W fun e w' => e = .returned (.string (bs (40 :: tailL Ls))) ∧ Below W.heap.size W w') := ⟨fun W hB hv => joined_rings A c Ls hT W hv (hR.below hB)⟩
  have HTR : Hd (∀ W, Calls Tryz.prog 26 #[.string ⟨#[80, 79, 76, 89, 71, 79, 78, 40]⟩, .string ⟨#[40]⟩] W fun e w' => e = .returned (.string ⟨#[80, 79, 76, 89, 71, 79, 78]⟩) ∧ w' = W) := ⟨fun W => by
    have h := sh_strings_TrimSuffix ⟨#[80, 79, 76, 89, 71, 79, 78, 40]⟩ ⟨#[40]⟩ W (by decide)
    exact h⟩
  have HL := Hd.mk (tailL_len2 hT)
  have HX : Hd (textL ⟨false, ((0, 0), (0, 0)), Ls⟩ = polW ++ tailL Ls) := ⟨by simp [textL]⟩
  rw [HX.out]
  generalize tailL Ls = T at HJ HL
  have r1 := fun w => run_string_add_sum (P := Tryz.prog) w ⟨#[80, 79, 76, 89, 71, 79, 78]⟩ (bs (40 :: T)) (by have := HL.out; simp [ByteArray.size]; omega)
  have HE : Hd ((⟨#[80, 79, 76, 89, 71, 79, 78]⟩ ++ bs (40 :: T)) = bs (polW ++ T)) := ⟨by apply bs_of; simp [polW]⟩
  have HV := Hd.mk hV
  clear hV hR hT hok hn
  unfold shV at HC ⊢
  go_enter Tryz.func8, Tryz.ntmps8
  go_wp2_with fail
  refine (HC.out _ ((Below.refl _ _).alloc (Nat.le_refl _) _)).mono ?_
  rintro e w1 ⟨rfl, hb⟩
  have z0 := heap_below hb (heap_new w (.cells #[.bool false, .int .i64 0, .int .i64 0, .int .i64 0, .int .i64 0, .slice A Ls.length c] 29))
  have hB : Below w.heap.size w w1 := below_on ((Below.refl _ _).alloc (Nat.le_refl _) _) hb
  clear hb
  have c0 := cell_at z0
  have HB := Hd.mk hB
  go_wp2_with fail
  refine (HJ.out _ HB.out (HV.out.below hB)).mono ?_
  rintro e w2 ⟨rfl, hb⟩
  have hB2 := below_on hB hb
  clear hb c0 z0 hB
  go_wp2_with fail
  refine (HTR.out _).mono ?_
  rintro e w3 ⟨rfl, rfl⟩
  go_wp2
  go_ret2
  exact ⟨by rw [← HE.out]; rfl, hB2⟩
end Go.Proofs.YtfchmikbebdflaaGreatDoor

namespace Go.Proofs.YtfchmikbebdflaaGreatDoor
open Go.RowKit Go.BigFrame Go.Shelf

theorem bs_size (l : Bs) : (bs l).size = l.length := by simp [ByteArray.size]
theorem bs_take (l : Bs) (k : Nat) : (bs l).extract 0 k = bs (l.take k) := by
  apply bs_of
  rw [take_list]
theorem bs_drop (l : Bs) (k : Nat) : (bs l).extract k l.length = bs (l.drop k) := by
  apply bs_of
  rw [ByteArray.data_extract]
  simp
  exact List.take_of_length_le (by simp)
theorem bs_eq (a b : Bs) : ((bs a).toList == (bs b).toList) = decide (a = b) := by
  rw [ByteArray.toList_eq, ByteArray.toList_eq]
  show (a == b) = _
  by_cases h : a = b <;> simp [h]
theorem bs_eq2 (a b : Bs) : ((bs a).toList == b) = decide (a = b) := by
  rw [ByteArray.toList_eq]
  show (a == b) = _
  by_cases h : a = b <;> simp [h]
theorem behind_iff (p t : Bs) : (t.length < p.length → behind p t = none) ∧ (p.length ≤ t.length → behind p t = if t.take p.length = p then some (t.drop p.length) else none) := by
  induction p generalizing t with
  | nil => simp [behind]
  | cons a p ih =>
    cases t with
    | nil => simp [behind]
    | cons b t =>
      obtain ⟨h1, h2⟩ := ih t
      refine ⟨fun h => ?_, fun h => ?_⟩
      · simp only [behind]
        split
        · exact h1 (by simpa using h)
        · rfl
      · simp only [behind, List.length_cons, List.take_succ_cons, List.drop_succ_cons]
        by_cases hab : a = b
        · subst hab
          rw [if_pos rfl, h2 (by simpa using h)]
          simp
        · rw [if_neg hab, if_neg (fun e => hab (by injection e with e _; exact e.symm))]
set_option maxRecDepth 20000 in
set_option maxHeartbeats 2000000 in
theorem rbegins_any (t p : Bs) (_ht : t.length ≤ 1100000) (hp : p.length ≤ 100) (w : World) :
    Calls Tryz.prog 37 #[.string (bs t), .string (bs p)] w fun e w' => (∃ r b, ((b = true ∧ behind p t = some r) ∨ (b = false ∧ behind p t = none ∧ r = t)) ∧ e = .returned (.tuple #[.string (bs r), .bool b])) ∧ w' = w := by
  have hsz1 := bs_size t
  have hsz2 := bs_size p
  obtain ⟨b1, b2⟩ := behind_iff p t
  by_cases hlt : t.length < p.length
  · have hd1 : decide ((t.length : Int) < (p.length : Int)) = true := by simp; omega
    have HB := Hd.mk (b1 hlt)
    clear b1 b2
    go_enter Tryz.func37, Tryz.ntmps37
    go_wp2
    go_ret2
    exact ⟨⟨t, false, .inr ⟨rfl, HB.out, rfl⟩, rfl⟩, rfl⟩
  · have hd1 : decide ((t.length : Int) < (p.length : Int)) = false := by simp; omega
    have e1 := bs_take t p.length
    have e2 := bs_drop t p.length
    have e3 := bs_eq2 (t.take p.length) p
    have HB := Hd.mk (b2 (by omega))
    clear b1 b2
    have hi1 : (p.length : Int) ≤ (t.length : Int) := by omega
    have hi2 : p.length ≤ t.length := by omega
    have hi3 : (0 : Int) ≤ (p.length : Int) := by omega
    by_cases hq : t.take p.length = p
    · have hr := HB.out
      rw [if_pos hq] at hr
      have HR := Hd.mk hr
      rw [decide_eq_true hq] at e3
      rw [← e1] at e3
      clear HB hr hq e1
      go_enter Tryz.func37, Tryz.ntmps37
      go_wp2
      go_ret2
      exact ⟨⟨t.drop p.length, true, .inl ⟨rfl, HR.out⟩, by rw [← e2]; rfl⟩, rfl⟩
    · have hr := HB.out
      rw [if_neg hq] at hr
      have HR := Hd.mk hr
      rw [decide_eq_false hq] at e3
      rw [← e1] at e3
      clear HB hr hq e1
      go_enter Tryz.func37, Tryz.ntmps37
      go_wp2
      go_ret2
      exact ⟨⟨t, false, .inr ⟨rfl, HR.out, rfl⟩, rfl⟩, rfl⟩
theorem byte_at (t : Bs) (k : Nat) (h : k < t.length) : ∃ c, t[k]? = some c ∧ ∀ h' : k < (bs t).size, (((bs t)[k]'h').toNat : Int) = ((c.toNat : Nat) : Int) := by
  obtain ⟨c, hc, e⟩ := bt_dig (bs t) k (by rw [bs_size]; exact h)
  exact ⟨c, hc, fun h' => (get_bt (bs t) k h').trans e⟩
theorem byte_ne {c d : UInt8} (h : c ≠ d) : (((c.toNat : Nat) : Int) == ((d.toNat : Nat) : Int)) = false := by
  rw [beq_eq_false_iff_ne]
  intro e
  exact h (UInt8.toNat_inj.1 (by omega))
set_option maxRecDepth 20000 in
set_option maxHeartbeats 4000000 in
/-- Without a bracket. -/
theorem runtil_no (t : Bs) (ht : t.length ≤ 1100000) (hno : (41 : UInt8) ∉ t) (w : World) :
    Calls Tryz.prog 38 #[.string (bs t)] w fun e w' => e = .returned (.tuple #[.string ⟨#[]⟩, .string (bs t), .bool false]) ∧ w' = w := by
  have hsz1 := bs_size t
  have HN := Hd.mk hno
  clear hno
  go_enter Tryz.func38, Tryz.ntmps38
  go_wp2
  go_loopw [5] (fun iv wr => ∃ k : Nat, k ≤ t.length ∧ iv = .int .i64 k ∧ wr = w) (fun iv _ => t.length - (intOf iv).toNat)
  case atStart => exact ⟨0, Nat.zero_le _, rfl, rfl⟩
  case round =>
    obtain ⟨k, hk, rfl, rfl⟩ := hrel
    by_cases hlt : k < t.length
    · have hd1 : decide ((k : Int) < (t.length : Int)) = true := by simp; omega
      obtain ⟨c, hc, hbc⟩ := byte_at t k hlt
      have hb := hbc (by rw [bs_size]; exact hlt)
      have hne : (((c.toNat : Nat) : Int) == 41) = false := byte_ne (d := 41) (fun e => HN.out (by rw [← e]; exact List.mem_of_getElem? hc))
      clear hc hbc
      go_wp2
      go_roundw
      case rel => exact ⟨k + 1, by omega, by go_num, trivial⟩
      case measure => simp [intOf]; omega
    · obtain rfl : k = t.length := by omega
      have hd1 : decide (((t.length : Nat) : Int) < (t.length : Int)) = false := by simp
      go_wp2
      refine bodyPost_ret (results_tmp3 rfl _ _ _) rfl ?_
      exact ⟨rfl, rfl⟩
set_option maxRecDepth 20000 in
set_option maxHeartbeats 4000000 in
/-- Up to the first bracket. -/
theorem runtil_at (a r : Bs) (ht : (a ++ 41 :: r).length ≤ 1100000) (hno : (41 : UInt8) ∉ a) (w : World) :
    Calls Tryz.prog 38 #[.string (bs (a ++ 41 :: r))] w fun e w' => e = .returned (.tuple #[.string (bs a), .string (bs r), .bool true]) ∧ Below w.heap.size w w' := by
  obtain ⟨t, hT⟩ : ∃ t, t = a ++ 41 :: r := ⟨_, rfl⟩
  have hlt : t.length = a.length + r.length + 1 := by rw [hT]; simp; omega
  have e1 : (bs t).extract 0 a.length = bs a := by rw [bs_take, hT]; simp
  have e2 : (bs t).extract (a.length + 1) t.length = bs r := by rw [bs_drop, hT]; simp
  have hat : t[a.length]? = some 41 := by rw [hT]; simp
  have hbe : ∀ k c, k < a.length → t[k]? = some c → c ≠ 41 := fun k c hk hc e => by
    rw [hT, List.getElem?_append_left hk] at hc
    exact hno (by rw [← e]; exact List.mem_of_getElem? hc)
  rw [← hT] at ht ⊢
  have hsz1 := bs_size t
  have HN := Hd.mk hbe
  have HE := Hd.mk (And.intro e1 e2)
  have HLT := Hd.mk hlt
  clear hT hno hbe e1 e2 hlt
  go_enter Tryz.func38, Tryz.ntmps38
  go_wp2
  go_loopw [5] (fun iv wr => ∃ k : Nat, k ≤ a.length ∧ iv = .int .i64 k ∧ wr = w) (fun iv _ => t.length - (intOf iv).toNat)
  case atStart => exact ⟨0, Nat.zero_le _, rfl, rfl⟩
  case round =>
    obtain ⟨k, hk, rfl, rfl⟩ := hrel
    have hkl : k < t.length := by have := HLT.out; omega
    have hd1 : decide ((k : Int) < (t.length : Int)) = true := by simp; omega
    obtain ⟨c, hc, hbc⟩ := byte_at t k hkl
    have hb := hbc (by rw [bs_size]; exact hkl)
    by_cases hka : k = a.length
    · subst hka
      obtain rfl : (41 : UInt8) = c := Option.some.inj (hat.symm.trans hc)
      have e1 := HE.out.1
      have e2 := HE.out.2
      have hi1 : (a.length : Int) ≤ (t.length : Int) := by omega
      have hi2 : (a.length : Int) + 1 ≤ (t.length : Int) := by omega
      have hi3 : (0 : Int) ≤ (a.length : Int) + 1 := by omega
      have hi4 : ((a.length : Int) + 1).toNat = a.length + 1 := by omega
      have hi5 : a.length ≤ t.length := by omega
      clear hc hbc hat
      go_upto_region 5 with (fail)
      go_region
      go_wp2
      refine bodyPost_ret (results_tmp3 rfl _ _ _) rfl ?_
      exact ⟨rfl, Below.drew (Below.refl _ _)⟩
    · have hne : (((c.toNat : Nat) : Int) == 41) = false := byte_ne (d := 41) (HN.out k c (by omega) hc)
      clear hc hbc
      go_wp2
      go_roundw
      case rel => exact ⟨k + 1, by omega, by go_num, trivial⟩
      case measure => simp [intOf]; omega
end Go.Proofs.YtfchmikbebdflaaGreatDoor

namespace Go.Proofs.YtfchmikbebdflaaGreatDoor
open Go.RowKit Go.BigFrame Go.Shelf

theorem nodesP_snoc : ∀ {a : List Bs} {m : List Nd} {t : Bs} {p : Nd}, nodesP a = some m → nodeP t = some p → nodesP (a ++ [t]) = some (m ++ [p])
  | [], m, t, p, h, hp => by
    obtain rfl : [] = m := by simpa [nodesP] using h
    simp [nodesP, hp]
  | x :: a, m, t, p, h, hp => by
    simp only [nodesP] at h
    cases hx : nodeP x with
    | none => rw [hx] at h; cases h
    | some q =>
      rw [hx] at h
      cases ha : nodesP a with
      | none => rw [ha] at h; cases h
      | some m' =>
        rw [ha] at h
        obtain rfl : q :: m' = m := by simpa using h
        rw [List.cons_append, nodesP, hx]
        simp only
        rw [nodesP_snoc ha hp]
        rfl
theorem nodesP_mid {a r : List Bs} {t : Bs} (h : nodeP t = none) : nodesP (a ++ t :: r) = none := nodesP_bad (k := a.length) (by simp) h
theorem rnode_p (t : Bs) (ht : t.length ≤ 1100000) : (∃ p, nodeP t = some p ∧ Hd (∀ w : World, Calls Tryz.prog 64 #[.string (bs t)] w fun e w' => e = .returned (.tuple #[.agg #[.int .i64 p.1, .int .i64 p.2], .bool true]) ∧ Below w.heap.size w w')) ∨
    (nodeP t = none ∧ ∃ x y : Int, Hd (∀ w : World, Calls Tryz.prog 64 #[.string (bs t)] w fun e w' => e = .returned (.tuple #[.agg #[.int .i64 x, .int .i64 y], .bool false]) ∧ Below w.heap.size w w')) := by
  obtain ⟨x, y, b, h1, h2, hc⟩ := rnode_ex (bs t) (by rw [bs_size]; exact ht)
  cases b with
  | true =>
    obtain ⟨e1, e2⟩ := h1 rfl
    have e : t = nodeL (x, y) := by
      have := congrArg (fun s : ByteArray => s.data.toList) e1
      simpa [nodeL] using this
    exact .inl ⟨(x, y), by rw [e]; exact nodeP_text e2, ⟨hc⟩⟩
  | false =>
    refine .inr ⟨nodeP_none fun p hp he => ?_, x, y, ⟨hc⟩⟩
    have := h2 p.1 p.2 hp (by rw [nodeS_bs, he])
    cases this
theorem bs_mid (t : Bs) (f i : Nat) (_h : i ≤ t.length) : (bs t).extract f i = bs ((t.take i).drop f) := by
  apply bs_of
  rw [ByteArray.data_extract]
  simp [List.drop_take]
theorem split_at_mid {t : Bs} {f i : Nat} (hf : f ≤ i) (hi : t[i]? = some 44) (hno : ∀ j c, f ≤ j → j < i → t[j]? = some c → c ≠ 44) : splitC 44 (t.drop f) = (t.take i).drop f :: splitC 44 (t.drop (i + 1)) := by
  have hlt := (List.getElem?_eq_some_iff.1 hi).1
  have e : t.drop f = (t.take i).drop f ++ 44 :: t.drop (i + 1) := by
    conv => lhs; rw [← List.take_append_drop i t]
    rw [List.drop_append_of_le_length (by simp; omega), List.drop_eq_getElem_cons hlt]
    congr 2
    exact (List.getElem?_eq_some_iff.1 hi).2
  rw [e, splitC_at]
  intro hm
  obtain ⟨j, hj⟩ := List.getElem?_of_mem hm
  have hjl := (List.getElem?_eq_some_iff.1 hj).1
  rw [List.length_drop, List.length_take] at hjl
  rw [List.getElem?_drop, List.getElem?_take_of_lt (by omega)] at hj
  exact hno (f + j) 44 (by omega) (by omega) hj rfl
theorem split_at_end {t : Bs} {f : Nat} (hno : ∀ j c, f ≤ j → j < t.length → t[j]? = some c → c ≠ 44) : splitC 44 (t.drop f) = [(t.take t.length).drop f] := by
  rw [List.take_length]
  refine splitC_no _ _ fun hm => ?_
  obtain ⟨j, hj⟩ := List.getElem?_of_mem hm
  have hjl := (List.getElem?_eq_some_iff.1 hj).1
  rw [List.length_drop] at hjl
  rw [List.getElem?_drop] at hj
  exact hno (f + j) 44 (by omega) (by omega) hj rfl
/-- What ring tells. -/
def RingR (t : Bs) (e : Ending) (w w' : World) : Prop := Below w.heap.size w w' ∧ ((∃ l v, ringP t = some l ∧ e = .returned (.tuple #[v, .bool true]) ∧ RowN w' v l) ∨ (ringP t = none ∧ e = .returned (.tuple #[.slice none 0 0, .bool false])))
set_option maxRecDepth 100000 in
set_option maxHeartbeats 8000000 in
theorem rring_any (t : Bs) (ht : t.length ≤ 1100000) (w : World) :
    Calls Tryz.prog 40 #[.string (bs t)] w fun e w' => RingR t e w w' := by
  have HNO : Hd (∀ w', ringP t = none → Below w.heap.size w w' → RingR t (.returned (.tuple #[.slice none 0 0, .bool false])) w w') := ⟨fun _ h hb => ⟨hb, .inr ⟨h, rfl⟩⟩⟩
  have hsz1 := bs_size t
  go_enter Tryz.func40, Tryz.ntmps40
  go_wp2
  go_loopw [4, 5, 6] (fun v4 fv iv wr => ∃ (i f : Nat) (done : List Bs) (dn : List Nd), iv = .int .i64 i ∧ fv = .int .i64 f ∧ i ≤ t.length + 1 ∧ f ≤ i ∧ dn.length ≤ f ∧
    Hd ((i ≤ t.length ∧ splitC 44 t = done ++ splitC 44 (t.drop f) ∧ ∀ j c, f ≤ j → j < i → t[j]? = some c → c ≠ 44) ∨ (i = t.length + 1 ∧ splitC 44 t = done)) ∧ Hd (nodesP done = some dn) ∧ Hd (wr.ownsRow w.heap.size 24 2 v4 dn.length (ndsC dn)) ∧ Below w.heap.size w wr) (fun _ _ iv _ => t.length + 1 - (intOf iv).toNat)
  case atStart => exact ⟨0, 0, [], [], rfl, rfl, by omega, by omega, by simp, ⟨.inl ⟨by omega, by simp, fun j c h1 h2 => by omega⟩⟩, ⟨rfl⟩, ⟨⟨rfl, .inl ⟨rfl, rfl⟩⟩⟩, Below.refl _ _⟩
  case round =>
    obtain ⟨i, f, done, dn, rfl, rfl, hi, hf, hdl, HS, HND, HO, hB⟩ := hrel
    have hsw := hB.size
    by_cases hle : i ≤ t.length
    · have hd1 : decide ((i : Int) ≤ (t.length : Int)) = true := by simp; omega
      have hst : splitC 44 t = done ++ splitC 44 (t.drop f) ∧ ∀ j c, f ≤ j → j < i → t[j]? = some c → c ≠ 44 := by
        rcases HS.out with h | h
        · exact h.2
        · omega
      have HST := Hd.mk hst
      clear HS hst
      by_cases hcont : i < t.length ∧ t[i]? ≠ some 44
      · obtain ⟨hlt, hne44⟩ := hcont
        have hd2 : decide ((i : Int) < (t.length : Int)) = true := by simp; omega
        obtain ⟨c, hc, hbc⟩ := byte_at t i hlt
        have hb := hbc (by rw [bs_size]; exact hlt)
        have hc44 : c ≠ 44 := fun e => hne44 (by rw [hc, e])
        have hne : (((c.toNat : Nat) : Int) == 44) = false := byte_ne (d := 44) hc44
        have HS2 : Hd ((i + 1 ≤ t.length ∧ splitC 44 t = done ++ splitC 44 (t.drop f) ∧ ∀ j c, f ≤ j → j < i + 1 → t[j]? = some c → c ≠ 44) ∨ (i + 1 = t.length + 1 ∧ splitC 44 t = done)) := ⟨.inl ⟨by omega, HST.out.1, fun j d h1 h2 hj => by
          by_cases hji : j = i
          · subst hji
            rw [hc] at hj
            rw [← Option.some.inj hj]
            exact hc44
          · exact HST.out.2 j d h1 (by omega) hj⟩⟩
        clear hc hbc hc44 hne44 HST
        go_wp2
        go_roundw
        case rel => exact ⟨i + 1, f, done, dn, by go_num, by rfl, by omega, by omega, hdl, HS2, HND, HO, hB⟩
        case measure => simp [intOf]; omega
      · have hcond : i = t.length ∨ t[i]? = some 44 := by
          by_cases h : i < t.length
          · exact .inr (Classical.byContradiction fun e => hcont ⟨h, e⟩)
          · exact .inl (by omega)
        have hsp : ∃ rest, splitC 44 t = done ++ ((t.take i).drop f) :: rest ∧ ((i + 1 ≤ t.length ∧ rest = splitC 44 (t.drop (i + 1))) ∨ (i = t.length ∧ rest = [])) := by
          rcases hcond with h | h
          · subst h
            exact ⟨[], by rw [HST.out.1, split_at_end HST.out.2], .inr ⟨rfl, rfl⟩⟩
          · have hlt := (List.getElem?_eq_some_iff.1 h).1
            exact ⟨_, by rw [HST.out.1, split_at_mid hf h HST.out.2], .inl ⟨by omega, rfl⟩⟩
        obtain ⟨rest, hsp1, hsp2⟩ := hsp
        have HSP := Hd.mk (And.intro hsp1 hsp2)
        have e1 := bs_mid t f i hle
        have hpl : ((t.take i).drop f).length ≤ 1100000 := by rw [List.length_drop, List.length_take]; omega
        generalize (t.take i).drop f = pc at HSP e1 hpl
        have hi1 : (i : Int) ≤ (t.length : Int) := by omega
        have hi2 : (f : Int) ≤ (i : Int) := by omega
        have hi3 : (0 : Int) ≤ (f : Int) := by omega
        have cond : (¬ i < t.length) ∨ (i < t.length ∧ t[i]? = some 44) := by
          rcases hcond with h | h
          · exact .inl (by omega)
          · have hlt := (List.getElem?_eq_some_iff.1 h).1
            exact .inr ⟨hlt, h⟩
        clear hcond hcont hsp1 hsp2 HST
        rcases cond with hnlt | ⟨hlt, h44⟩
        · have hd2 : decide ((i : Int) < (t.length : Int)) = false := by simp; omega
          have hd2n : decide (i < t.length) = false := by simp; omega
          go_upto_region 7 with (fail)
          rcases rnode_p pc hpl with ⟨p, hp, HC⟩ | ⟨hp, x, y, HC⟩
          · have HN2 := Hd.mk (nodesP_snoc HND.out hp)
            obtain ⟨x, y⟩ := p
            have HSN : Hd ((i + 1 ≤ t.length ∧ splitC 44 t = (done ++ [pc]) ++ splitC 44 (t.drop (i + 1)) ∧ ∀ j c, i + 1 ≤ j → j < i + 1 → t[j]? = some c → c ≠ 44) ∨ (i + 1 = t.length + 1 ∧ splitC 44 t = done ++ [pc])) := ⟨by
              obtain ⟨s1, s2⟩ := HSP.out
              rcases s2 with ⟨s3, rfl⟩ | ⟨s3, rfl⟩
              · exact .inl ⟨s3, by rw [s1]; simp, fun j c h1 h2 => by omega⟩
              · exact .inr ⟨by omega, s1⟩⟩
            clear hp HSP
            go_wp2_with fail
            refine (HC.out _).mono ?_
            rintro e w5 ⟨rfl, hb⟩
            have HO5 := Hd.mk (own_below (own_below HO.out hb) ((Below.refl _ _).alloc (Nat.le_refl _) (.cells #[.int .i64 x, .int .i64 y] 24)))
            have hB5 := (below_on hB hb).alloc (below_on hB hb).size (.cells #[.int .i64 x, .int .i64 y] 24)
            have z7 := heap_new w5 (.cells #[.int .i64 x, .int .i64 y] 24)
            clear hb e1
            go_upto_region 10 with (fail)
            generalize w5.alloc (.cells #[.int .i64 x, .int .i64 y] 24) = w8 at HO5 hB5 z7 ⊢
            have c7 := cell_at z7
            have hsz := hB5.size
            obtain ⟨i0, hi0, hz0, hz1, hz2⟩ := info_parts infoNodeW
            have hu : Tryz.prog.underlying 30 = some (.slice 24) := by kernel_rfl
            go_wp2_with (at_builtin; refine wpList_append_own_at _ rfl (.tmp 35) (.tmp 37) 30 rfl w.heap.size 24 i0 (.agg #[.int .i64 0, .int .i64 0]) 2 16 hu hi0 hz0 hz1 hz2 rfl (by decide) _ dn.length _ rfl (HO5.out.alloc _) ⟨w8.heap.size, 0, none⟩ 1 1 [.int .i64 x, .int .i64 y] rfl rfl (cell_two_new _ _ _ _) ?c2 ?b1 ?b2 ?b3 ?go)
            case c2 => intro u hu; simp at hu; rcases hu with rfl | rfl <;> rfl
            case b1 => unfold maxLen; omega
            case b2 => omega
            case b3 => simp; omega
            case go =>
              intro v' w6 hown' hgrow _ hat
              have hr : ∀ k, u4.ownBlock = some k → w.heap.size ≤ k := fun k hk => own_ge HO5.out hk
              have hb6 : Below w.heap.size w w6 := (hB5.alloc hB5.size _).trans (below_grown hgrow (fun k hk => hr k hk) (by simp; omega))
              have HO6 := Hd.mk hown'
              clear hown' hgrow hat hr hi0 hz0 hz1 hz2 hu HO HO5 c7 z7
              go_wp2
              go_roundw
              case rel =>
                refine ⟨i + 1, i + 1, done ++ [pc], dn ++ [(x, y)], by go_num, by go_num, by omega, by omega, by simp; omega, HSN, HN2, ⟨?_⟩, hb6⟩
                rw [List.length_append, ndsC_append]
                exact HO6.out
              case measure => simp [intOf]; omega
          · have hn : ringP t = none := by
              unfold ringP
              rw [HSP.out.1, nodesP_mid hp]
              rfl
            clear HSP
            go_wp2_with fail
            refine (HC.out _).mono ?_
            rintro e w5 ⟨rfl, hb⟩
            have hB5 := (below_on hB hb).alloc (below_on hB hb).size (.cells #[.int .i64 x, .int .i64 y] 24)
            clear hb e1
            go_wp2
            go_ret2
            exact HNO.out _ hn hB5
        · obtain ⟨c, hc, hbc⟩ := byte_at t i hlt
          obtain rfl : (44 : UInt8) = c := Option.some.inj (h44.symm.trans hc)
          have hb := hbc (by rw [bs_size]; exact hlt)
          have hd2 : decide ((i : Int) < (t.length : Int)) = true := by simp; omega
          have hd2n : decide (i < t.length) = true := by simp; omega
          clear hc hbc h44
          go_upto_region 7 with (fail)
          rcases rnode_p pc hpl with ⟨p, hp, HC⟩ | ⟨hp, x, y, HC⟩
          · have HN2 := Hd.mk (nodesP_snoc HND.out hp)
            obtain ⟨x, y⟩ := p
            have HSN : Hd ((i + 1 ≤ t.length ∧ splitC 44 t = (done ++ [pc]) ++ splitC 44 (t.drop (i + 1)) ∧ ∀ j c, i + 1 ≤ j → j < i + 1 → t[j]? = some c → c ≠ 44) ∨ (i + 1 = t.length + 1 ∧ splitC 44 t = done ++ [pc])) := ⟨by
              obtain ⟨s1, s2⟩ := HSP.out
              rcases s2 with ⟨s3, rfl⟩ | ⟨s3, rfl⟩
              · exact .inl ⟨s3, by rw [s1]; simp, fun j c h1 h2 => by omega⟩
              · exact .inr ⟨by omega, s1⟩⟩
            clear hp HSP
            go_wp2_with fail
            refine (HC.out _).mono ?_
            rintro e w5 ⟨rfl, hb⟩
            have HO5 := Hd.mk (own_below (own_below HO.out hb) ((Below.refl _ _).alloc (Nat.le_refl _) (.cells #[.int .i64 x, .int .i64 y] 24)))
            have hB5 := (below_on hB hb).alloc (below_on hB hb).size (.cells #[.int .i64 x, .int .i64 y] 24)
            have z7 := heap_new w5 (.cells #[.int .i64 x, .int .i64 y] 24)
            clear hb e1
            go_upto_region 10 with (fail)
            generalize w5.alloc (.cells #[.int .i64 x, .int .i64 y] 24) = w8 at HO5 hB5 z7 ⊢
            have c7 := cell_at z7
            have hsz := hB5.size
            obtain ⟨i0, hi0, hz0, hz1, hz2⟩ := info_parts infoNodeW
            have hu : Tryz.prog.underlying 30 = some (.slice 24) := by kernel_rfl
            go_wp2_with (at_builtin; refine wpList_append_own_at _ rfl (.tmp 35) (.tmp 37) 30 rfl w.heap.size 24 i0 (.agg #[.int .i64 0, .int .i64 0]) 2 16 hu hi0 hz0 hz1 hz2 rfl (by decide) _ dn.length _ rfl (HO5.out.alloc _) ⟨w8.heap.size, 0, none⟩ 1 1 [.int .i64 x, .int .i64 y] rfl rfl (cell_two_new _ _ _ _) ?c2 ?b1 ?b2 ?b3 ?go)
            case c2 => intro u hu; simp at hu; rcases hu with rfl | rfl <;> rfl
            case b1 => unfold maxLen; omega
            case b2 => omega
            case b3 => simp; omega
            case go =>
              intro v' w6 hown' hgrow _ hat
              have hr : ∀ k, u4.ownBlock = some k → w.heap.size ≤ k := fun k hk => own_ge HO5.out hk
              have hb6 : Below w.heap.size w w6 := (hB5.alloc hB5.size _).trans (below_grown hgrow (fun k hk => hr k hk) (by simp; omega))
              have HO6 := Hd.mk hown'
              clear hown' hgrow hat hr hi0 hz0 hz1 hz2 hu HO HO5 c7 z7
              go_wp2
              go_roundw
              case rel =>
                refine ⟨i + 1, i + 1, done ++ [pc], dn ++ [(x, y)], by go_num, by go_num, by omega, by omega, by simp; omega, HSN, HN2, ⟨?_⟩, hb6⟩
                rw [List.length_append, ndsC_append]
                exact HO6.out
              case measure => simp [intOf]; omega
          · have hn : ringP t = none := by
              unfold ringP
              rw [HSP.out.1, nodesP_mid hp]
              rfl
            clear HSP
            go_wp2_with fail
            refine (HC.out _).mono ?_
            rintro e w5 ⟨rfl, hb⟩
            have hB5 := (below_on hB hb).alloc (below_on hB hb).size (.cells #[.int .i64 x, .int .i64 y] 24)
            clear hb e1
            go_wp2
            go_ret2
            exact HNO.out _ hn hB5
    · obtain rfl : i = t.length + 1 := by omega
      have hd1 : decide (((t.length + 1 : Nat) : Int) ≤ (t.length : Int)) = false := by simp; omega
      have hd1b : decide ((t.length : Int) + 1 ≤ (t.length : Int)) = false := by simp; omega
      have hsp : splitC 44 t = done := by
        rcases HS.out with h | h
        · omega
        · exact h.2
      have hring : ringP t = shut dn := by
        unfold ringP
        rw [hsp, HND.out]
        rfl
      have hrow := own_row HO.out
      have HR := Hd.mk hring
      have hdl2 : dn.length ≤ 1100001 := by omega
      have HBW := Hd.mk hB
      clear hsp hring HS HND HO hB hdl
      by_cases h3 : 3 < dn.length
      · have hd3 : decide ((dn.length : Int) < 4) = false := by simp; omega
        obtain ⟨A, cp, rfl, hcp, hless⟩ := hrow.less
        obtain ⟨A2, c2, e2, _, _, hcells⟩ := hrow
        injection e2 with e3 _ e4
        subst e3 e4
        obtain ⟨g, cur, rfl, hg, hcur⟩ := hcells (by omega)
        obtain ⟨m, hm⟩ : ∃ m, dn.length = m + 1 := ⟨dn.length - 1, by omega⟩
        obtain ⟨⟨x0, y0⟩, hp0⟩ : ∃ p, dn[0]? = some p := ⟨_, List.getElem?_eq_getElem (by omega)⟩
        obtain ⟨⟨x9, y9⟩, hp9⟩ : ∃ p, dn[m]? = some p := ⟨_, List.getElem?_eq_getElem (by omega)⟩
        have hE2 : (dn.head? = dn.getLast?) ↔ (x0 = x9 ∧ y0 = y9) := by
          rw [List.head?_eq_getElem?, List.getLast?_eq_getElem?, hp0, hm, Nat.add_sub_cancel, hp9]
          simp
        have HG := Hd.mk hg
        have HC0 := Hd.mk (hcur 0 _ hp0)
        have HC9 := Hd.mk (hcur m _ hp9)
        have HLS := Hd.mk hless
        have hno : ¬ (x0 = x9 ∧ y0 = y9) → ringP t = none := fun he => by
          rw [HR.out]
          unfold shut
          rw [if_neg (fun h => he (hE2.1 h.2))]
        have hyes : (x0 = x9 ∧ y0 = y9) → ringP t = some dn.dropLast := fun he => by
          rw [HR.out]
          unfold shut
          rw [if_pos ⟨h3, hE2.2 he⟩]
        have HNN := Hd.mk hno
        have HYES := Hd.mk hyes
        rw [hm] at hd3 h3 hdl2 hcp ⊢
        have HM := Hd.mk hm
        have hd4 : decide ((m : Int) + 1 < 4) = false := by simp; omega
        have hsl1 : (m : Int) ≤ (cp : Int) := by omega
        have hsl2 : m ≤ cp := by omega
        clear hcells hg hcur hp0 hp9 hless hE2 hm hno hyes HR
        by_cases hxx : x0 = x9
        · by_cases hyy : y0 = y9
          · have hring := HYES.out ⟨hxx, hyy⟩
            have HRG := Hd.mk hring
            subst hxx hyy
            clear hring HNN HYES
            go_wp2
            refine region_qt 14 (by kernel_rfl) (by kernel_rfl) fun X _ mk hmk hcl => ?_
            have ew0 : ∀ x : X, (mk x).cell? ⟨g, 0, none⟩ = some (.int .i64 x0) := fun x => (mk_cell hmk HG.out x 0).trans HC0.out.1
            have ew1 : ∀ x : X, (mk x).cell? ⟨g, 1, none⟩ = some (.int .i64 y0) := fun x => (mk_cell hmk HG.out x 1).trans HC0.out.2
            have ew2 : ∀ x : X, (mk x).cell? ⟨g, m * 2, none⟩ = some (.int .i64 x0) := fun x => (mk_cell hmk HG.out x _).trans HC9.out.1
            have ew3 : ∀ x : X, (mk x).cell? ⟨g, m * 2 + 1, none⟩ = some (.int .i64 y0) := fun x => (mk_cell hmk HG.out x _).trans HC9.out.2
            simp only [List.take_succ_cons, List.take_zero, List.drop_succ_cons, List.drop_zero]
            repeat (go_big_quiet_step (skip))
            refine wpQuiet_nil ?_
            rintro _ ⟨x, rfl⟩
            clear ew0 ew1 ew2 ew3
            have hx := hmk x
            clear hcl hmk
            generalize mk x = W6 at hx
            have hls6 := (HLS.out).kept (NKept.below hx)
            have hB6 := below_on HBW.out hx
            clear hx
            rw [HM.out, Nat.add_sub_cancel] at hls6
            go_wp2
            go_ret2
            exact ⟨hB6, .inl ⟨_, _, HRG.out, rfl, hls6⟩⟩
          · have hn := HNN.out (fun h => hyy h.2)
            have hne : (y0 == y9) = false := by simpa using hyy
            subst hxx
            clear HNN HYES
            go_wp2
            refine region_qt 14 (by kernel_rfl) (by kernel_rfl) fun X _ mk hmk hcl => ?_
            have ew0 : ∀ x : X, (mk x).cell? ⟨g, 0, none⟩ = some (.int .i64 x0) := fun x => (mk_cell hmk HG.out x 0).trans HC0.out.1
            have ew1 : ∀ x : X, (mk x).cell? ⟨g, 1, none⟩ = some (.int .i64 y0) := fun x => (mk_cell hmk HG.out x 1).trans HC0.out.2
            have ew2 : ∀ x : X, (mk x).cell? ⟨g, m * 2, none⟩ = some (.int .i64 x0) := fun x => (mk_cell hmk HG.out x _).trans HC9.out.1
            have ew3 : ∀ x : X, (mk x).cell? ⟨g, m * 2 + 1, none⟩ = some (.int .i64 y9) := fun x => (mk_cell hmk HG.out x _).trans HC9.out.2
            simp only [List.take_succ_cons, List.take_zero, List.drop_succ_cons, List.drop_zero]
            repeat (go_big_quiet_step (skip))
            refine wpQuiet_nil ?_
            rintro _ ⟨x, rfl⟩
            clear ew0 ew1 ew2 ew3
            have hx := hmk x
            clear hcl hmk
            generalize mk x = W6 at hx
            have hB6 := below_on HBW.out hx
            clear hx
            go_wp2
            go_ret2
            exact HNO.out _ hn hB6
        · have hn := HNN.out (fun h => hxx h.1)
          have hne : (x0 == x9) = false := by simpa using hxx
          clear HNN HYES
          go_wp2
          refine region_qt 14 (by kernel_rfl) (by kernel_rfl) fun X _ mk hmk hcl => ?_
          have ew0 : ∀ x : X, (mk x).cell? ⟨g, 0, none⟩ = some (.int .i64 x0) := fun x => (mk_cell hmk HG.out x 0).trans HC0.out.1
          have ew1 : ∀ x : X, (mk x).cell? ⟨g, 1, none⟩ = some (.int .i64 y0) := fun x => (mk_cell hmk HG.out x 1).trans HC0.out.2
          have ew2 : ∀ x : X, (mk x).cell? ⟨g, m * 2, none⟩ = some (.int .i64 x9) := fun x => (mk_cell hmk HG.out x _).trans HC9.out.1
          have ew3 : ∀ x : X, (mk x).cell? ⟨g, m * 2 + 1, none⟩ = some (.int .i64 y9) := fun x => (mk_cell hmk HG.out x _).trans HC9.out.2
          simp only [List.take_succ_cons, List.take_zero, List.drop_succ_cons, List.drop_zero]
          repeat (go_big_quiet_step (skip))
          refine wpQuiet_nil ?_
          rintro _ ⟨x, rfl⟩
          clear ew0 ew1 ew2 ew3
          have hx := hmk x
          clear hcl hmk
          generalize mk x = W6 at hx
          have hB6 := below_on HBW.out hx
          clear hx
          go_wp2
          go_ret2
          exact HNO.out _ hn hB6
      · have hd3 : decide ((dn.length : Int) < 4) = true := by simp; omega
        have hn : ringP t = none := by
          rw [HR.out]
          unfold shut
          rw [if_neg (fun h => h3 h.1)]
        obtain ⟨A, cp, rfl, hcp, hless⟩ := hrow.less
        clear hless hrow
        go_wp2
        refine region_qt 14 (by kernel_rfl) (by kernel_rfl) fun X _ mk hmk hcl => ?_
        simp only [List.take_succ_cons, List.take_zero, List.drop_succ_cons, List.drop_zero]
        repeat (go_big_quiet_step (skip))
        refine wpQuiet_nil ?_
        rintro _ ⟨x, rfl⟩
        have hx := hmk x
        clear hcl hmk
        generalize mk x = W6 at hx
        have hB6 := below_on HBW.out hx
        clear hx
        go_wp2
        go_ret2
        exact HNO.out _ hn hB6
end Go.Proofs.YtfchmikbebdflaaGreatDoor
