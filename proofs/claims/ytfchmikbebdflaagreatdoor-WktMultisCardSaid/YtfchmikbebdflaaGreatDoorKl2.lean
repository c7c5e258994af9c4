/-
  works of the laws of wkt. Conditions stand in each theorem.
-/
import Derived.Test.YtfchmikbebdflaaGreatDoorKt2
namespace Go.Proofs.YtfchmikbebdflaaGreatDoor
open Go.RowKit Go.BigFrame Go.Shelf
attribute [-go_sem] Builtin.append_

theorem ringL_len {l : List Nd} (hl : l.length ≤ 9000) (h : ∀ p ∈ l, P64 p) : (ringL l).length ≤ 1000000 := by
  have h1 := join_le (B := 43) (ps := (l ++ l.take 1).map nodeL) (fun p hp => by
    obtain ⟨q, hq, rfl⟩ := List.mem_map.1 hp
    rcases List.mem_append.1 hq with h2 | h2
    · exact nodeL_len (h q h2)
    · exact nodeL_len (h q (List.mem_of_mem_take h2)))
  rw [List.length_map, List.length_append, List.length_take] at h1
  unfold ringL bodyL
  rw [List.length_cons, List.length_append, List.length_cons, List.length_nil]
  omega
/-- Rings of which a text is asked. -/
def TextOk (Ls : List (List Nd)) : Prop := Ls ≠ [] ∧ Ls.length ≤ 9000 ∧ ∀ l ∈ Ls, 0 < l.length ∧ l.length ≤ 9000 ∧ ∀ p ∈ l, P64 p
set_option maxRecDepth 100000 in
set_option maxHeartbeats 4000000 in
/-- joined, of rings. -/
theorem joined_rings (A : Option Addr) (c : Nat) (Ls : List (List Nd)) (hok : TextOk Ls) (w : World) (hV : Vars w) (hR : RingsIn w A Ls) :
    Calls Tryz.prog 21 #[.slice A Ls.length c, .func (.func 22) #[] #[]] w fun e w' => e = .returned (.string (bs (40 :: tailL Ls))) ∧ Below w.heap.size w w' := by
  obtain ⟨hne, hl, hall⟩ := hok
  obtain ⟨vs, hcl, hro⟩ := hR
  have hvl := hro.1
  have hlen : ∀ p ∈ Ls.map ringL, p.length ≤ 1000000 := fun p hp => by
    obtain ⟨q, hq, rfl⟩ := List.mem_map.1 hp
    exact ringL_len (hall q hq).2.1 (hall q hq).2.2
  have HJ : Hd (∀ v W, W.ownsRow w.heap.size 9 1 v Ls.length (Ls.map fun p => Value.string (bs (ringL p))) → Calls Tryz.prog 54 #[v, .string ⟨#[44]⟩] W fun e w' => e = .returned (.string (bs (Lib.join (Ls.map ringL) [44]))) ∧ Below W.heap.size W w') := ⟨fun v W h => by
    refine wjoin_own (base := w.heap.size) (ps := Ls.map ringL) (by simpa using hne) (by rw [List.length_map]; omega) (fun p hp => ?_) (by rw [List.length_map, List.map_map]; exact h)
    have := hlen p hp
    omega⟩
  have HLN : Hd ((Lib.join (Ls.map ringL) [44]).length ≤ 10000000000) := ⟨by
    have h1 := join_le hlen
    rw [List.length_map] at h1
    omega⟩
  have HF : Hd (∀ (j : Nat) v l, vs[j]? = some v → Ls[j]? = some l → ∀ W, Below w.heap.size w W → Vars W → Calls Tryz.prog 22 #[v] W fun e w' => e = .returned (.string (bs (ringL l))) ∧ Below W.heap.size W w') := ⟨fun j v l hv hl W hB hVW => by
    have h := hall l (List.mem_of_getElem? hl)
    exact ringtext_any v l h.1 h.2.1 h.2.2 W hVW ((hro.2 j v l hv hl).below hB)⟩
  have HV := Hd.mk hV
  have HC := Hd.mk hcl
  have HT : Hd (40 :: tailL Ls = 40 :: (Lib.join (Ls.map ringL) [44] ++ [41])) := ⟨rfl⟩
  rw [HT.out]
  generalize hT : Lib.join (Ls.map ringL) [44] = T at HJ HLN ⊢
  have r1 := fun w => run_string_add_sum (P := Tryz.prog) w ⟨#[40]⟩ (bs T) (by have := HLN.out; simp [ByteArray.size]; omega)
  have r2 := fun w => run_string_add_sum (P := Tryz.prog) w (⟨#[40]⟩ ++ bs T) ⟨#[41]⟩ (by have := HLN.out; rw [ByteArray.size_append]; simp [ByteArray.size]; omega)
  have HE : Hd ((⟨#[40]⟩ ++ bs T) ++ ⟨#[41]⟩ = bs (40 :: (T ++ [41]))) := ⟨by apply bs_of; simp⟩
  clear hV hcl hT hne hall hlen hro
  go_enter Tryz.func21, Tryz.ntmps21
  go_wp2
  go_loopw [5, 10] (fun v iv wr => ∃ k : Nat, iv = .int .i64 k ∧ k ≤ Ls.length ∧ Hd (wr.ownsRow w.heap.size 9 1 v k ((Ls.map fun p => Value.string (bs (ringL p))).take k)) ∧ Below w.heap.size w wr) (fun _ iv _ => Ls.length - (intOf iv).toNat)
  case atStart => exact ⟨0, rfl, Nat.zero_le _, ⟨⟨rfl, .inl ⟨rfl, rfl⟩⟩⟩, Below.refl _ _⟩
  case round =>
    obtain ⟨k, rfl, hk, HO, hB⟩ := hrel
    by_cases hlt : k < Ls.length
    · have hd1 : decide ((k : Int) < (Ls.length : Int)) = true := by simp; omega
      have hd2 : decide (k < Ls.length) = true := by simp; omega
      obtain ⟨b, off, rfl, hcc⟩ := HC.out.below hB (by omega)
      obtain ⟨p, hp⟩ : ∃ p, Ls[k]? = some p := ⟨_, List.getElem?_eq_getElem hlt⟩
      obtain ⟨v, hv⟩ : ∃ v, vs[k]? = some v := ⟨_, List.getElem?_eq_getElem (by omega)⟩
      have q1 := hcc k v hv
      have HCL := Hd.mk (HF.out k v p hv hp)
      have HS := Hd.mk (strs_snoc ringL hp)
      have HVR := Hd.mk (HV.out.below hB)
      have HB := Hd.mk hB
      clear hcc hp hv
      go_wp2_with fail
      refine (HCL.out _ HB.out HVR.out).mono ?_
      rintro e w5 ⟨rfl, hb⟩
      have HO5 := Hd.mk (own_below HO.out hb)
      have hB5 := below_on hB hb
      have hsz := hB5.size
      clear hb q1
      obtain ⟨i0, hi, hz0, hz1, hz2⟩ := info_parts infoStrW
      have hu : Tryz.prog.underlying 104 = some (.slice 9) := by kernel_rfl
      go_wp2_with (at_builtin; refine wpList_append_own_at _ rfl (.tmp 14) (.tmp 18) 104 rfl w.heap.size 9 i0 (.string ByteArray.empty) 1 16 hu hi hz0 hz1 hz2 rfl (by decide) _ k _ rfl (HO5.out.alloc _) ⟨w5.heap.size, 0, none⟩ 1 1 [.string (bs (ringL p))] rfl rfl (cell_one_new _ _ _) ?c2 ?b1 ?b2 ?b3 ?go)
      case c2 => intro u hu; simp at hu; subst hu; rfl
      case b1 => unfold maxLen; omega
      case b2 => omega
      case b3 => simp; omega
      case go =>
        intro v' w6 hown' hgrow _ hat
        have hr : ∀ k, u5.ownBlock = some k → w.heap.size ≤ k := fun k hk => own_ge HO5.out hk
        have hb6 : Below w.heap.size w w6 := (hB5.alloc hB5.size _).trans (below_grown hgrow (fun k hk => hr k hk) (by simp; omega))
        have HO6 := Hd.mk hown'
        clear hown' hgrow hat hr hi hz0 hz1 hz2 hu HO HO5
        go_wp2
        go_roundw
        case rel => exact ⟨k + 1, by go_num, by omega, ⟨by rw [HS.out]; exact HO6.out⟩, hb6⟩
        case measure => simp [intOf]; omega
    · obtain rfl : k = Ls.length := by omega
      have hd1 : decide (((Ls.length : Nat) : Int) < (Ls.length : Int)) = false := by simp
      have HO2 : Hd (wr.ownsRow w.heap.size 9 1 u5 Ls.length (Ls.map fun p => Value.string (bs (ringL p)))) := ⟨by have := HO.out; rwa [List.take_of_length_le (by simp)] at this⟩
      clear HO
      go_wp2_with fail
      refine (HJ.out _ _ HO2.out).mono ?_
      rintro e w5 ⟨rfl, hb⟩
      have hB5 := below_on hB hb
      clear hb
      go_wp2
      go_ret
      exact ⟨by rw [← HE.out]; rfl, hB5⟩
theorem node_64 {p : Nd} (h : nodeB p.1 p.2 = true) : P64 p := by
  have := node_range h
  unfold P64 I64
  omega
theorem wcheck_ok {s : Shp} (h : checkV s = 0) : (s.is = true ∧ s.rs = [] ∧ sgB s.sg = true) ∨ (s.is = false ∧ s.sg = ((0, 0), (0, 0)) ∧ TextOk s.rs ∧ (∀ l ∈ s.rs, RingOk l) ∧ total s.rs ≤ 512) := by
  obtain ⟨is, g, Ls⟩ := s
  unfold checkV at h
  cases is with
  | true =>
    rw [if_pos rfl] at h
    split at h
    · cases h
    · rename_i hr
      split at h
      · rename_i hg
        exact .inl ⟨rfl, by simpa using hr, hg⟩
      · cases h
  | false =>
    rw [if_neg (by simp)] at h
    split at h
    · cases h
    · rename_i hz
      split at h
      · rename_i hok
        split at h
        · cases h
        · rename_i hn
          have h2 : Ls ≠ [] := fun e => hz (.inr e)
          have hn' : total Ls ≤ 512 := by have h5 : ¬ 512 < total Ls := hn; omega
          have hm : Ls.length ≤ total Ls := rings_many hok
          refine .inr ⟨rfl, Classical.byContradiction fun e => hz (.inl e), ⟨h2, by show Ls.length ≤ _; omega, fun l hl => ⟨by have := (hok l hl).1; omega, by have := total_mem hl; omega, fun p hp => node_64 ((hok l hl).2 p hp)⟩⟩, hok, hn'⟩
      · cases h
theorem tailL_len2 {Ls : List (List Nd)} (h : TextOk Ls) : (tailL Ls).length ≤ 10000000001 := by
  have hlen : ∀ p ∈ Ls.map ringL, p.length ≤ 1000000 := fun p hp => by
    obtain ⟨q, hq, rfl⟩ := List.mem_map.1 hp
    exact ringL_len (h.2.2 q hq).2.1 (h.2.2 q hq).2.2
  have h1 := join_le hlen
  have h2 := h.2.1
  rw [List.length_map] at h1
  unfold tailL
  simp
  omega
set_option maxRecDepth 100000 in
set_option maxHeartbeats 4000000 in
/-- Text, of a shape that may not be. -/
theorem wtext_no (s : Shp) (E : Int) (hE : checkV s = E) (h0 : E ≠ 0) (A : Option Addr) (c : Nat) (w : World) (hR : RingsIn w A s.rs) (ht : total s.rs ≤ 1100000) (hl : s.rs.length ≤ 1100000) :
    Calls Tryz.prog 8 #[.agg (shV s A c)] w fun e w' => e = .returned (.tuple #[.string ⟨#[]⟩, .int .i64 E]) ∧ Below w.heap.size w w' := by
  have HC : Hd (∀ W, Below w.heap.size w W → Calls Tryz.prog 12 #[.agg (shV s A c)] W fun e w' => e = .returned (.int .i64 E) ∧ Below W.heap.size W w') := ⟨fun W hB => by
    have h := wcheck_any s A c W (hR.below hB) ht hl
    rw [hE] at h
    exact h⟩
  have hne : (E == 0) = false := by simpa using h0
  clear hR hE
  unfold shV at HC ⊢
  go_enter Tryz.func8, Tryz.ntmps8
  go_wp2_with fail
  refine (HC.out _ ((Below.refl _ _).alloc (Nat.le_refl _) _)).mono ?_
  rintro e w1 ⟨rfl, hb⟩
  have hB : Below w.heap.size w w1 := below_on ((Below.refl _ _).alloc (Nat.le_refl _) _) hb
  clear hb
  go_wp2
  go_ret2
  exact ⟨rfl, hB⟩
set_option maxRecDepth 100000 in
set_option maxHeartbeats 4000000 in
/-- Text, of a segment. -/
theorem wtext_seg (g : Sgm) (hg : sgB g = true) (A : Option Addr) (c : Nat) (w : World) (hV : Vars w) :
    Calls Tryz.prog 8 #[.agg (shV ⟨true, g, []⟩ A c)] w fun e w' => e = .returned (.tuple #[.string (bs (textL ⟨true, g, []⟩)), .int .i64 0]) ∧ Below w.heap.size w w' := by
  have HC : Hd (∀ W, Calls Tryz.prog 12 #[.agg (shV ⟨true, g, []⟩ A c)] W fun e w' => e = .returned (.int .i64 0) ∧ Below W.heap.size W w') := ⟨fun W => by
    have h := wcheck_seg2 g A c W
    rw [if_pos hg] at h
    exact h⟩
  obtain ⟨⟨a0, a1⟩, ⟨a2, a3⟩⟩ := g
  have HT : Hd (∀ W, Vars W → Calls Tryz.prog 20 #[.agg #[.int .i64 a0, .int .i64 a1, .int .i64 a2, .int .i64 a3]] W fun e w' => e = .returned (.tuple #[.string (bs (sgL ((a0, a1), (a2, a3)))), .int .i64 0]) ∧ Below W.heap.size W w') := ⟨fun W hv => by
    have h := seg_text_ok a0 a1 a2 a3 hg W hv
    rw [bs_self (segS a0 a1 a2 a3)] at h
    exact h⟩
  have HL : Hd ((sgL ((a0, a1), (a2, a3))).length ≤ 1000) := ⟨by
    have hn := segB_nodes hg
    have h1 := nodeL_len (node_64 hn.1)
    have h2 := nodeL_len (node_64 hn.2)
    rw [sgL_parts]
    simp at h1 h2 ⊢
    omega⟩
  have HX : Hd (textL ⟨true, ((a0, a1), (a2, a3)), []⟩ = segW ++ (sgL ((a0, a1), (a2, a3)) ++ [41])) := ⟨by simp [textL]⟩
  rw [HX.out]
  generalize sgL ((a0, a1), (a2, a3)) = T at HT HL
  have r1 := fun w => run_string_add_sum (P := Tryz.prog) w ⟨#[83, 69, 71, 77, 69, 78, 84, 40]⟩ (bs T) (by have := HL.out; simp [ByteArray.size]; omega)
  have r2 := fun w => run_string_add_sum (P := Tryz.prog) w (⟨#[83, 69, 71, 77, 69, 78, 84, 40]⟩ ++ bs T) ⟨#[41]⟩ (by have := HL.out; rw [ByteArray.size_append]; simp [ByteArray.size]; omega)
  have HE : Hd ((⟨#[83, 69, 71, 77, 69, 78, 84, 40]⟩ ++ bs T) ++ ⟨#[41]⟩ = bs (segW ++ (T ++ [41]))) := ⟨by apply bs_of; simp [segW]⟩
  have HV := Hd.mk hV
  clear hV hg
  unfold shV at HC ⊢
  go_enter Tryz.func8, Tryz.ntmps8
  go_wp2_with fail
  refine (HC.out _).mono ?_
  rintro e w1 ⟨rfl, hb⟩
  have z0 := heap_below hb (heap_new w (.cells #[.bool true, .int .i64 a0, .int .i64 a1, .int .i64 a2, .int .i64 a3, .slice A 0 c] 29))
  have hB : Below w.heap.size w w1 := below_on ((Below.refl _ _).alloc (Nat.le_refl _) _) hb
  clear hb
  have c0 := cell_at z0
  go_wp2_with fail
  refine (HT.out _ (HV.out.below hB)).mono ?_
  rintro e w2 ⟨rfl, hb⟩
  have hB2 := below_on hB hb
  clear hb c0 z0 hB
  go_wp2
  go_ret2
  exact ⟨by rw [← HE.out]; rfl, hB2⟩
set_option maxRecDepth 100000 in
set_option maxHeartbeats 4000000 in
/-- Text, of rings. -/
theorem wtext_rings (Ls : List (List Nd)) (hT : TextOk Ls) (hok : ∀ l ∈ Ls, RingOk l) (hn : total Ls ≤ 512) (A : Option Addr) (c : Nat) (w : World) (hV : Vars w) (hR : RingsIn w A Ls) :
    Calls Tryz.prog 8 #[.agg (shV ⟨false, ((0, 0), (0, 0)), Ls⟩ A c)] w fun e w' => e = .returned (.tuple #[.string (bs (textL ⟨false, ((0, 0), (0, 0)), Ls⟩)), .int .i64 0]) ∧ Below w.heap.size w w' := by
  have HC : Hd (∀ W, Below w.heap.size w W → Calls Tryz.prog 12 #[.agg (shV ⟨false, ((0, 0), (0, 0)), Ls⟩ A c)] W fun e w' => e = .returned (.int .i64 0) ∧ Below W.heap.size W w') := ⟨fun W hB => by
    have h := wcheck_rings Ls hT.1 A c W (hR.below hB) (by omega) (by have := hT.2.1; omega)
    rw [checkV_ok hT.1 hok, if_neg (by omega)] at h
    exact h⟩
  have HJ : Hd (∀ W, Below w.heap.size w W → Vars W → Calls Tryz.prog 21 #[.slice A Ls.length c, .func (.func 22) #[] #[]] W fun e w' => e = .returned (.string (bs (40 :: tailL Ls))) ∧ Below W.heap.size W w') := ⟨fun W hB hv => joined_rings A c Ls hT W hv (hR.below hB)⟩
  have HTR : Hd (∀ W, Calls Tryz.prog 26 #[.string ⟨#[80, 79, 76, 89, 71, 79, 78, 40]⟩, .string ⟨#[40]⟩] W fun e w' => e = .returned (.string ⟨#[80, 79, 76, 89, 71, 79, 78]⟩) ∧ w' = W) := ⟨fun W => by
    have h := sh_strings_TrimSuffix ⟨#[80, 79, 76, 89, 71, 79, 78, 40]⟩ ⟨#[40]⟩ W (by decide)
    exact h⟩
  have HL := Hd.mk (tailL_len2 hT)
  have HX : Hd (textL ⟨false, ((0, 0), (0, 0)), Ls⟩ = polW ++ tailL Ls) := ⟨by simp [textL]⟩
  rw [HX.out]
  generalize tailL Ls = T at HJ HL
  have r1 := fun w => run_string_add_sum (P := Tryz.prog) w ⟨#[80, 79, 76, 89, 71, 79, 78]⟩ (bs (40 :: T)) (by have := HL.out; simp [ByteArray.size]; omega)
  have HE : Hd ((⟨#[80, 79, 76, 89, 71, 79, 78]⟩ ++ bs (40 :: T)) = bs (polW ++ T)) := ⟨by apply bs_of; simp [polW]⟩
  have HV := Hd.mk hV
  clear hV hR hT hok hn
  unfold shV at HC ⊢
  go_enter Tryz.func8, Tryz.ntmps8
  go_wp2_with fail
  refine (HC.out _ ((Below.refl _ _).alloc (Nat.le_refl _) _)).mono ?_
  rintro e w1 ⟨rfl, hb⟩
  have z0 := heap_below hb (heap_new w (.cells #[.bool false, .int .i64 0, .int .i64 0, .int .i64 0, .int .i64 0, .slice A Ls.length c] 29))
  have hB : Below w.heap.size w w1 := below_on ((Below.refl _ _).alloc (Nat.le_refl _) _) hb
  clear hb
  have c0 := cell_at z0
  have HB := Hd.mk hB
  go_wp2_with fail
  refine (HJ.out _ HB.out (HV.out.below hB)).mono ?_
  rintro e w2 ⟨rfl, hb⟩
  have hB2 := below_on hB hb
  clear hb c0 z0 hB
  go_wp2_with fail
  refine (HTR.out _).mono ?_
  rintro e w3 ⟨rfl, rfl⟩
  go_wp2
  go_ret2
  exact ⟨by rw [← HE.out]; rfl, hB2⟩
end Go.Proofs.YtfchmikbebdflaaGreatDoor

namespace Go.Proofs.YtfchmikbebdflaaGreatDoor
open Go.RowKit Go.BigFrame Go.Shelf

theorem bs_size (l : Bs) : (bs l).size = l.length := by simp [ByteArray.size]
theorem bs_take (l : Bs) (k : Nat) : (bs l).extract 0 k = bs (l.take k) := by
  apply bs_of
  rw [take_list]
theorem bs_drop (l : Bs) (k : Nat) : (bs l).extract k l.length = bs (l.drop k) := by
  apply bs_of
  rw [ByteArray.data_extract]
  simp
  exact List.take_of_length_le (by simp)
theorem bs_eq (a b : Bs) : ((bs a).toList == (bs b).toList) = decide (a = b) := by
  rw [ByteArray.toList_eq, ByteArray.toList_eq]
  show (a == b) = _
  by_cases h : a = b <;> simp [h]
theorem bs_eq2 (a b : Bs) : ((bs a).toList == b) = decide (a = b) := by
  rw [ByteArray.toList_eq]
  show (a == b) = _
  by_cases h : a = b <;> simp [h]
theorem behind_iff (p t : Bs) : (t.length < p.length → behind p t = none) ∧ (p.length ≤ t.length → behind p t = if t.take p.length = p then some (t.drop p.length) else none) := by
  induction p generalizing t with
  | nil => simp [behind]
  | cons a p ih =>
    cases t with
    | nil => simp [behind]
    | cons b t =>
      obtain ⟨h1, h2⟩ := ih t
      refine ⟨fun h => ?_, fun h => ?_⟩
      · simp only [behind]
        split
        · exact h1 (by simpa using h)
        · rfl
      · simp only [behind, List.length_cons, List.take_succ_cons, List.drop_succ_cons]
        by_cases hab : a = b
        · subst hab
          rw [if_pos rfl, h2 (by simpa using h)]
          simp
        · rw [if_neg hab, if_neg (fun e => hab (by injection e with e _; exact e.symm))]
set_option maxRecDepth 20000 in
set_option maxHeartbeats 2000000 in
theorem rbegins_any (t p : Bs) (_ht : t.length ≤ 1100000) (hp : p.length ≤ 100) (w : World) :
    Calls Tryz.prog 37 #[.string (bs t), .string (bs p)] w fun e w' => (∃ r b, ((b = true ∧ behind p t = some r) ∨ (b = false ∧ behind p t = none ∧ r = t)) ∧ e = .returned (.tuple #[.string (bs r), .bool b])) ∧ w' = w := by
  have hsz1 := bs_size t
  have hsz2 := bs_size p
  obtain ⟨b1, b2⟩ := behind_iff p t
  by_cases hlt : t.length < p.length
  · have hd1 : decide ((t.length : Int) < (p.length : Int)) = true := by simp; omega
    have HB := Hd.mk (b1 hlt)
    clear b1 b2
    go_enter Tryz.func37, Tryz.ntmps37
    go_wp2
    go_ret2
    exact ⟨⟨t, false, .inr ⟨rfl, HB.out, rfl⟩, rfl⟩, rfl⟩
  · have hd1 : decide ((t.length : Int) < (p.length : Int)) = false := by simp; omega
    have e1 := bs_take t p.length
    have e2 := bs_drop t p.length
    have e3 := bs_eq2 (t.take p.length) p
    have HB := Hd.mk (b2 (by omega))
    clear b1 b2
    have hi1 : (p.length : Int) ≤ (t.length : Int) := by omega
    have hi2 : p.length ≤ t.length := by omega
    have hi3 : (0 : Int) ≤ (p.length : Int) := by omega
    by_cases hq : t.take p.length = p
    · have hr := HB.out
      rw [if_pos hq] at hr
      have HR := Hd.mk hr
      rw [decide_eq_true hq] at e3
      rw [← e1] at e3
      clear HB hr hq e1
      go_enter Tryz.func37, Tryz.ntmps37
      go_wp2
      go_ret2
      exact ⟨⟨t.drop p.length, true, .inl ⟨rfl, HR.out⟩, by rw [← e2]; rfl⟩, rfl⟩
    · have hr := HB.out
      rw [if_neg hq] at hr
      have HR := Hd.mk hr
      rw [decide_eq_false hq] at e3
      rw [← e1] at e3
      clear HB hr hq e1
      go_enter Tryz.func37, Tryz.ntmps37
      go_wp2
      go_ret2
      exact ⟨⟨t, false, .inr ⟨rfl, HR.out, rfl⟩, rfl⟩, rfl⟩
theorem byte_at (t : Bs) (k : Nat) (h : k < t.length) : ∃ c, t[k]? = some c ∧ ∀ h' : k < (bs t).size, (((bs t)[k]'h').toNat : Int) = ((c.toNat : Nat) : Int) := by
  obtain ⟨c, hc, e⟩ := bt_dig (bs t) k (by rw [bs_size]; exact h)
  exact ⟨c, hc, fun h' => (get_bt (bs t) k h').trans e⟩
theorem byte_ne {c d : UInt8} (h : c ≠ d) : (((c.toNat : Nat) : Int) == ((d.toNat : Nat) : Int)) = false := by
  rw [beq_eq_false_iff_ne]
  intro e
  exact h (UInt8.toNat_inj.1 (by omega))
set_option maxRecDepth 20000 in
set_option maxHeartbeats 4000000 in
/-- Without a bracket. -/
theorem runtil_no (t : Bs) (ht : t.length ≤ 1100000) (hno : (41 : UInt8) ∉ t) (w : World) :
    Calls Tryz.prog 38 #[.string (bs t)] w fun e w' => e = .returned (.tuple #[.string ⟨#[]⟩, .string (bs t), .bool false]) ∧ w' = w := by
  have hsz1 := bs_size t
  have HN := Hd.mk hno
  clear hno
  go_enter Tryz.func38, Tryz.ntmps38
  go_wp2
  go_loopw [5] (fun iv wr => ∃ k : Nat, k ≤ t.length ∧ iv = .int .i64 k ∧ wr = w) (fun iv _ => t.length - (intOf iv).toNat)
  case atStart => exact ⟨0, Nat.zero_le _, rfl, rfl⟩
  case round =>
    obtain ⟨k, hk, rfl, rfl⟩ := hrel
    by_cases hlt : k < t.length
    · have hd1 : decide ((k : Int) < (t.length : Int)) = true := by simp; omega
      obtain ⟨c, hc, hbc⟩ := byte_at t k hlt
      have hb := hbc (by rw [bs_size]; exact hlt)
      have hne : (((c.toNat : Nat) : Int) == 41) = false := byte_ne (d := 41) (fun e => HN.out (by rw [← e]; exact List.mem_of_getElem? hc))
      clear hc hbc
      go_wp2
      go_roundw
      case rel => exact ⟨k + 1, by omega, by go_num, trivial⟩
      case measure => simp [intOf]; omega
    · obtain rfl : k = t.length := by omega
      have hd1 : decide (((t.length : Nat) : Int) < (t.length : Int)) = false := by simp
      go_wp2
      refine bodyPost_ret (results_tmp3 rfl _ _ _) rfl ?_
      exact ⟨rfl, rfl⟩
set_option maxRecDepth 20000 in
set_option maxHeartbeats 4000000 in
/-- Up to the first bracket. -/
theorem runtil_at (a r : Bs) (ht : (a ++ 41 :: r).length ≤ 1100000) (hno : (41 : UInt8) ∉ a) (w : World) :
    Calls Tryz.prog 38 #[.string (bs (a ++ 41 :: r))] w fun e w' => e = .returned (.tuple #[.string (bs a), .string (bs r), .bool true]) ∧ Below w.heap.size w w' := by
  obtain ⟨t, hT⟩ : ∃ t, t = a ++ 41 :: r := ⟨_, rfl⟩
  have hlt : t.length = a.length + r.length + 1 := by rw [hT]; simp; omega
  have e1 : (bs t).extract 0 a.length = bs a := by rw [bs_take, hT]; simp
  have e2 : (bs t).extract (a.length + 1) t.length = bs r := by rw [bs_drop, hT]; simp
  have hat : t[a.length]? = some 41 := by rw [hT]; simp
  have hbe : ∀ k c, k < a.length → t[k]? = some c → c ≠ 41 := fun k c hk hc e => by
    rw [hT, List.getElem?_append_left hk] at hc
    exact hno (by rw [← e]; exact List.mem_of_getElem? hc)
  rw [← hT] at ht ⊢
  have hsz1 := bs_size t
  have HN := Hd.mk hbe
  have HE := Hd.mk (And.intro e1 e2)
  have HLT := Hd.mk hlt
  clear hT hno hbe e1 e2 hlt
  go_enter Tryz.func38, Tryz.ntmps38
  go_wp2
  go_loopw [5] (fun iv wr => ∃ k : Nat, k ≤ a.length ∧ iv = .int .i64 k ∧ wr = w) (fun iv _ => t.length - (intOf iv).toNat)
  case atStart => exact ⟨0, Nat.zero_le _, rfl, rfl⟩
  case round =>
    obtain ⟨k, hk, rfl, rfl⟩ := hrel
    have hkl : k < t.length := by have := HLT.out; omega
    have hd1 : decide ((k : Int) < (t.length : Int)) = true := by simp; omega
    obtain ⟨c, hc, hbc⟩ := byte_at t k hkl
    have hb := hbc (by rw [bs_size]; exact hkl)
    by_cases hka : k = a.length
    · subst hka
      obtain rfl : (41 : UInt8) = c := Option.some.inj (hat.symm.trans hc)
      have e1 := HE.out.1
      have e2 := HE.out.2
      have hi1 : (a.length : Int) ≤ (t.length : Int) := by omega
      have hi2 : (a.length : Int) + 1 ≤ (t.length : Int) := by omega
      have hi3 : (0 : Int) ≤ (a.length : Int) + 1 := by omega
      have hi4 : ((a.length : Int) + 1).toNat = a.length + 1 := by omega
      have hi5 : a.length ≤ t.length := by omega
      clear hc hbc hat
      go_upto_region 5 with (fail)
      go_region
      go_wp2
      refine bodyPost_ret (results_tmp3 rfl _ _ _) rfl ?_
      exact ⟨rfl, Below.drew (Below.refl _ _)⟩
    · have hne : (((c.toNat : Nat) : Int) == 41) = false := byte_ne (d := 41) (HN.out k c (by omega) hc)
      clear hc hbc
      go_wp2
      go_roundw
      case rel => exact ⟨k + 1, by omega, by go_num, trivial⟩
      case measure => simp [intOf]; omega
end Go.Proofs.YtfchmikbebdflaaGreatDoor

namespace Go.Proofs.YtfchmikbebdflaaGreatDoor
open Go.RowKit Go.BigFrame Go.Shelf

theorem nodesP_snoc : ∀ {a : List Bs} {m : List Nd} {t : Bs} {p : Nd}, nodesP a = some m → nodeP t = some p → nodesP (a ++ [t]) = some (m ++ [p])
  | [], m, t, p, h, hp => by
    obtain rfl : [] = m := by simpa [nodesP] using h
    simp [nodesP, hp]
  | x :: a, m, t, p, h, hp => by
    simp only [nodesP] at h
    cases hx : nodeP x with
    | none => rw [hx] at h; cases h
    | some q =>
      rw [hx] at h
      cases ha : nodesP a with
      | none => rw [ha] at h; cases h
      | some m' =>
        rw [ha] at h
        obtain rfl : q :: m' = m := by simpa using h
        rw [List.cons_append, nodesP, hx]
        simp only
        rw [nodesP_snoc ha hp]
        rfl
theorem nodesP_mid {a r : List Bs} {t : Bs} (h : nodeP t = none) : nodesP (a ++ t :: r) = none := nodesP_bad (k := a.length) (by simp) h
theorem rnode_p (t : Bs) (ht : t.length ≤ 1100000) : (∃ p, nodeP t = some p ∧ Hd (∀ w : World, Calls Tryz.prog 64 #[.string (bs t)] w fun e w' => e = .returned (.tuple #[.agg #[.int .i64 p.1, .int .i64 p.2], .bool true]) ∧ Below w.heap.size w w')) ∨
    (nodeP t = none ∧ ∃ x y : Int, Hd (∀ w : World, Calls Tryz.prog 64 #[.string (bs t)] w fun e w' => e = .returned (.tuple #[.agg #[.int .i64 x, .int .i64 y], .bool false]) ∧ Below w.heap.size w w')) := by
  obtain ⟨x, y, b, h1, h2, hc⟩ := rnode_ex (bs t) (by rw [bs_size]; exact ht)
  cases b with
  | true =>
    obtain ⟨e1, e2⟩ := h1 rfl
    have e : t = nodeL (x, y) := by
      have := congrArg (fun s : ByteArray => s.data.toList) e1
      simpa [nodeL] using this
    exact .inl ⟨(x, y), by rw [e]; exact nodeP_text e2, ⟨hc⟩⟩
  | false =>
    refine .inr ⟨nodeP_none fun p hp he => ?_, x, y, ⟨hc⟩⟩
    have := h2 p.1 p.2 hp (by rw [nodeS_bs, he])
    cases this
theorem bs_mid (t : Bs) (f i : Nat) (_h : i ≤ t.length) : (bs t).extract f i = bs ((t.take i).drop f) := by
  apply bs_of
  rw [ByteArray.data_extract]
  simp [List.drop_take]
theorem split_at_mid {t : Bs} {f i : Nat} (hf : f ≤ i) (hi : t[i]? = some 44) (hno : ∀ j c, f ≤ j → j < i → t[j]? = some c → c ≠ 44) : splitC 44 (t.drop f) = (t.take i).drop f :: splitC 44 (t.drop (i + 1)) := by
  have hlt := (List.getElem?_eq_some_iff.1 hi).1
  have e : t.drop f = (t.take i).drop f ++ 44 :: t.drop (i + 1) := by
    conv => lhs; rw [← List.take_append_drop i t]
    rw [List.drop_append_of_le_length (by simp; omega), List.drop_eq_getElem_cons hlt]
    congr 2
    exact (List.getElem?_eq_some_iff.1 hi).2
  rw [e, splitC_at]
  intro hm
  obtain ⟨j, hj⟩ := List.getElem?_of_mem hm
  have hjl := (List.getElem?_eq_some_iff.1 hj).1
  rw [List.length_drop, List.length_take] at hjl
  rw [List.getElem?_drop, List.getElem?_take_of_lt (by omega)] at hj
  exact hno (f + j) 44 (by omega) (by omega) hj rfl
theorem split_at_end {t : Bs} {f : Nat} (hno : ∀ j c, f ≤ j → j < t.length → t[j]? = some c → c ≠ 44) : splitC 44 (t.drop f) = [(t.take t.length).drop f] := by
  rw [List.take_length]
  refine splitC_no _ _ fun hm => ?_
  obtain ⟨j, hj⟩ := List.getElem?_of_mem hm
  have hjl := (List.getElem?_eq_some_iff.1 hj).1
  rw [List.length_drop] at hjl
  rw [List.getElem?_drop] at hj
  exact hno (f + j) 44 (by omega) (by omega) hj rfl
/-- What ring tells. -/
def RingR (t : Bs) (e : Ending) (w w' : World) : Prop := Below w.heap.size w w' ∧ ((∃ l v, ringP t = some l ∧ e = .returned (.tuple #[v, .bool true]) ∧ RowN w' v l) ∨ (ringP t = none ∧ e = .returned (.tuple #[.slice none 0 0, .bool false])))
set_option maxRecDepth 100000 in
set_option maxHeartbeats 8000000 in
theorem rring_any (t : Bs) (ht : t.length ≤ 1100000) (w : World) :
    Calls Tryz.prog 40 #[.string (bs t)] w fun e w' => RingR t e w w' := by
  have HNO : Hd (∀ w', ringP t = none → Below w.heap.size w w' → RingR t (.returned (.tuple #[.slice none 0 0, .bool false])) w w') := ⟨fun _ h hb => ⟨hb, .inr ⟨h, rfl⟩⟩⟩
  have hsz1 := bs_size t
  go_enter Tryz.func40, Tryz.ntmps40
  go_wp2
  go_loopw [4, 5, 6] (fun v4 fv iv wr => ∃ (i f : Nat) (done : List Bs) (dn : List Nd), iv = .int .i64 i ∧ fv = .int .i64 f ∧ i ≤ t.length + 1 ∧ f ≤ i ∧ dn.length ≤ f ∧
    Hd ((i ≤ t.length ∧ splitC 44 t = done ++ splitC 44 (t.drop f) ∧ ∀ j c, f ≤ j → j < i → t[j]? = some c → c ≠ 44) ∨ (i = t.length + 1 ∧ splitC 44 t = done)) ∧ Hd (nodesP done = some dn) ∧ Hd (wr.ownsRow w.heap.size 24 2 v4 dn.length (ndsC dn)) ∧ Below w.heap.size w wr) (fun _ _ iv _ => t.length + 1 - (intOf iv).toNat)
  case atStart => exact ⟨0, 0, [], [], rfl, rfl, by omega, by omega, by simp, ⟨.inl ⟨by omega, by simp, fun j c h1 h2 => by omega⟩⟩, ⟨rfl⟩, ⟨⟨rfl, .inl ⟨rfl, rfl⟩⟩⟩, Below.refl _ _⟩
  case round =>
    obtain ⟨i, f, done, dn, rfl, rfl, hi, hf, hdl, HS, HND, HO, hB⟩ := hrel
    have hsw := hB.size
    by_cases hle : i ≤ t.length
    · have hd1 : decide ((i : Int) ≤ (t.length : Int)) = true := by simp; omega
      have hst : splitC 44 t = done ++ splitC 44 (t.drop f) ∧ ∀ j c, f ≤ j → j < i → t[j]? = some c → c ≠ 44 := by
        rcases HS.out with h | h
        · exact h.2
        · omega
      have HST := Hd.mk hst
      clear HS hst
      by_cases hcont : i < t.length ∧ t[i]? ≠ some 44
      · obtain ⟨hlt, hne44⟩ := hcont
        have hd2 : decide ((i : Int) < (t.length : Int)) = true := by simp; omega
        obtain ⟨c, hc, hbc⟩ := byte_at t i hlt
        have hb := hbc (by rw [bs_size]; exact hlt)
        have hc44 : c ≠ 44 := fun e => hne44 (by rw [hc, e])
        have hne : (((c.toNat : Nat) : Int) == 44) = false := byte_ne (d := 44) hc44
        have HS2 : Hd ((i + 1 ≤ t.length ∧ splitC 44 t = done ++ splitC 44 (t.drop f) ∧ ∀ j c, f ≤ j → j < i + 1 → t[j]? = some c → c ≠ 44) ∨ (i + 1 = t.length + 1 ∧ splitC 44 t = done)) := ⟨.inl ⟨by omega, HST.out.1, fun j d h1 h2 hj => by
          by_cases hji : j = i
          · subst hji
            rw [hc] at hj
            rw [← Option.some.inj hj]
            exact hc44
          · exact HST.out.2 j d h1 (by omega) hj⟩⟩
        clear hc hbc hc44 hne44 HST
        go_wp2
        go_roundw
        case rel => exact ⟨i + 1, f, done, dn, by go_num, by rfl, by omega, by omega, hdl, HS2, HND, HO, hB⟩
        case measure => simp [intOf]; omega
      · have hcond : i = t.length ∨ t[i]? = some 44 := by
          by_cases h : i < t.length
          · exact .inr (Classical.byContradiction fun e => hcont ⟨h, e⟩)
          · exact .inl (by omega)
        have hsp : ∃ rest, splitC 44 t = done ++ ((t.take i).drop f) :: rest ∧ ((i + 1 ≤ t.length ∧ rest = splitC 44 (t.drop (i + 1))) ∨ (i = t.length ∧ rest = [])) := by
          rcases hcond with h | h
          · subst h
            exact ⟨[], by rw [HST.out.1, split_at_end HST.out.2], .inr ⟨rfl, rfl⟩⟩
          · have hlt := (List.getElem?_eq_some_iff.1 h).1
            exact ⟨_, by rw [HST.out.1, split_at_mid hf h HST.out.2], .inl ⟨by omega, rfl⟩⟩
        obtain ⟨rest, hsp1, hsp2⟩ := hsp
        have HSP := Hd.mk (And.intro hsp1 hsp2)
        have e1 := bs_mid t f i hle
        have hpl : ((t.take i).drop f).length ≤ 1100000 := by rw [List.length_drop, List.length_take]; omega
        generalize (t.take i).drop f = pc at HSP e1 hpl
        have hi1 : (i : Int) ≤ (t.length : Int) := by omega
        have hi2 : (f : Int) ≤ (i : Int) := by omega
        have hi3 : (0 : Int) ≤ (f : Int) := by omega
        have cond : (¬ i < t.length) ∨ (i < t.length ∧ t[i]? = some 44) := by
          rcases hcond with h | h
          · exact .inl (by omega)
          · have hlt := (List.getElem?_eq_some_iff.1 h).1
            exact .inr ⟨hlt, h⟩
        clear hcond hcont hsp1 hsp2 HST
        rcases cond with hnlt | ⟨hlt, h44⟩
        · have hd2 : decide ((i : Int) < (t.length : Int)) = false := by simp; omega
          have hd2n : decide (i < t.length) = false := by simp; omega
          go_upto_region 7 with (fail)
          rcases rnode_p pc hpl with ⟨p, hp, HC⟩ | ⟨hp, x, y, HC⟩
          · have HN2 := Hd.mk (nodesP_snoc HND.out hp)
            obtain ⟨x, y⟩ := p
            have HSN : Hd ((i + 1 ≤ t.length ∧ splitC 44 t = (done ++ [pc]) ++ splitC 44 (t.drop (i + 1)) ∧ ∀ j c, i + 1 ≤ j → j < i + 1 → t[j]? = some c → c ≠ 44) ∨ (i + 1 = t.length + 1 ∧ splitC 44 t = done ++ [pc])) := ⟨by
              obtain ⟨s1, s2⟩ := HSP.out
              rcases s2 with ⟨s3, rfl⟩ | ⟨s3, rfl⟩
              · exact .inl ⟨s3, by rw [s1]; simp, fun j c h1 h2 => by omega⟩
              · exact .inr ⟨by omega, s1⟩⟩
            clear hp HSP
            go_wp2_with fail
            refine (HC.out _).mono ?_
            rintro e w5 ⟨rfl, hb⟩
            have HO5 := Hd.mk (own_below (own_below HO.out hb) ((Below.refl _ _).alloc (Nat.le_refl _) (.cells #[.int .i64 x, .int .i64 y] 24)))
            have hB5 := (below_on hB hb).alloc (below_on hB hb).size (.cells #[.int .i64 x, .int .i64 y] 24)
            have z7 := heap_new w5 (.cells #[.int .i64 x, .int .i64 y] 24)
            clear hb e1
            go_upto_region 10 with (fail)
            generalize w5.alloc (.cells #[.int .i64 x, .int .i64 y] 24) = w8 at HO5 hB5 z7 ⊢
            have c7 := cell_at z7
            have hsz := hB5.size
            obtain ⟨i0, hi0, hz0, hz1, hz2⟩ := info_parts infoNodeW
            have hu : Tryz.prog.underlying 30 = some (.slice 24) := by kernel_rfl
            go_wp2_with (at_builtin; refine wpList_append_own_at _ rfl (.tmp 35) (.tmp 37) 30 rfl w.heap.size 24 i0 (.agg #[.int .i64 0, .int .i64 0]) 2 16 hu hi0 hz0 hz1 hz2 rfl (by decide) _ dn.length _ rfl (HO5.out.alloc _) ⟨w8.heap.size, 0, none⟩ 1 1 [.int .i64 x, .int .i64 y] rfl rfl (cell_two_new _ _ _ _) ?c2 ?b1 ?b2 ?b3 ?go)
            case c2 => intro u hu; simp at hu; rcases hu with rfl | rfl <;> rfl
            case b1 => unfold maxLen; omega
            case b2 => omega
            case b3 => simp; omega
            case go =>
              intro v' w6 hown' hgrow _ hat
              have hr : ∀ k, u4.ownBlock = some k → w.heap.size ≤ k := fun k hk => own_ge HO5.out hk
              have hb6 : Below w.heap.size w w6 := (hB5.alloc hB5.size _).trans (below_grown hgrow (fun k hk => hr k hk) (by simp; omega))
              have HO6 := Hd.mk hown'
              clear hown' hgrow hat hr hi0 hz0 hz1 hz2 hu HO HO5 c7 z7
              go_wp2
              go_roundw
              case rel =>
                refine ⟨i + 1, i + 1, done ++ [pc], dn ++ [(x, y)], by go_num, by go_num, by omega, by omega, by simp; omega, HSN, HN2, ⟨?_⟩, hb6⟩
                rw [List.length_append, ndsC_append]
                exact HO6.out
              case measure => simp [intOf]; omega
          · have hn : ringP t = none := by
              unfold ringP
              rw [HSP.out.1, nodesP_mid hp]
              rfl
            clear HSP
            go_wp2_with fail
            refine (HC.out _).mono ?_
            rintro e w5 ⟨rfl, hb⟩
            have hB5 := (below_on hB hb).alloc (below_on hB hb).size (.cells #[.int .i64 x, .int .i64 y] 24)
            clear hb e1
            go_wp2
            go_ret2
            exact HNO.out _ hn hB5
        · obtain ⟨c, hc, hbc⟩ := byte_at t i hlt
          obtain rfl : (44 : UInt8) = c := Option.some.inj (h44.symm.trans hc)
          have hb := hbc (by rw [bs_size]; exact hlt)
          have hd2 : decide ((i : Int) < (t.length : Int)) = true := by simp; omega
          have hd2n : decide (i < t.length) = true := by simp; omega
          clear hc hbc h44
          go_upto_region 7 with (fail)
          rcases rnode_p pc hpl with ⟨p, hp, HC⟩ | ⟨hp, x, y, HC⟩
          · have HN2 := Hd.mk (nodesP_snoc HND.out hp)
            obtain ⟨x, y⟩ := p
            have HSN : Hd ((i + 1 ≤ t.length ∧ splitC 44 t = (done ++ [pc]) ++ splitC 44 (t.drop (i + 1)) ∧ ∀ j c, i + 1 ≤ j → j < i + 1 → t[j]? = some c → c ≠ 44) ∨ (i + 1 = t.length + 1 ∧ splitC 44 t = done ++ [pc])) := ⟨by
              obtain ⟨s1, s2⟩ := HSP.out
              rcases s2 with ⟨s3, rfl⟩ | ⟨s3, rfl⟩
              · exact .inl ⟨s3, by rw [s1]; simp, fun j c h1 h2 => by omega⟩
              · exact .inr ⟨by omega, s1⟩⟩
            clear hp HSP
            go_wp2_with fail
            refine (HC.out _).mono ?_
            rintro e w5 ⟨rfl, hb⟩
            have HO5 := Hd.mk (own_below (own_below HO.out hb) ((Below.refl _ _).alloc (Nat.le_refl _) (.cells #[.int .i64 x, .int .i64 y] 24)))
            have hB5 := (below_on hB hb).alloc (below_on hB hb).size (.cells #[.int .i64 x, .int .i64 y] 24)
            have z7 := heap_new w5 (.cells #[.int .i64 x, .int .i64 y] 24)
            clear hb e1
            go_upto_region 10 with (fail)
            generalize w5.alloc (.cells #[.int .i64 x, .int .i64 y] 24) = w8 at HO5 hB5 z7 ⊢
            have c7 := cell_at z7
            have hsz := hB5.size
            obtain ⟨i0, hi0, hz0, hz1, hz2⟩ := info_parts infoNodeW
            have hu : Tryz.prog.underlying 30 = some (.slice 24) := by kernel_rfl
            go_wp2_with (at_builtin; refine wpList_append_own_at _ rfl (.tmp 35) (.tmp 37) 30 rfl w.heap.size 24 i0 (.agg #[.int .i64 0, .int .i64 0]) 2 16 hu hi0 hz0 hz1 hz2 rfl (by decide) _ dn.length _ rfl (HO5.out.alloc _) ⟨w8.heap.size, 0, none⟩ 1 1 [.int .i64 x, .int .i64 y] rfl rfl (cell_two_new _ _ _ _) ?c2 ?b1 ?b2 ?b3 ?go)
            case c2 => intro u hu; simp at hu; rcases hu with rfl | rfl <;> rfl
            case b1 => unfold maxLen; omega
            case b2 => omega
            case b3 => simp; omega
            case go =>
              intro v' w6 hown' hgrow _ hat
              have hr : ∀ k, u4.ownBlock = some k → w.heap.size ≤ k := fun k hk => own_ge HO5.out hk
              have hb6 : Below w.heap.size w w6 := (hB5.alloc hB5.size _).trans (below_grown hgrow (fun k hk => hr k hk) (by simp; omega))
              have HO6 := Hd.mk hown'
              clear hown' hgrow hat hr hi0 hz0 hz1 hz2 hu HO HO5 c7 z7
              go_wp2
              go_roundw
              case rel =>
                refine ⟨i + 1, i + 1, done ++ [pc], dn ++ [(x, y)], by go_num, by go_num, by omega, by omega, by simp; omega, HSN, HN2, ⟨?_⟩, hb6⟩
                rw [List.length_append, ndsC_append]
                exact HO6.out
              case measure => simp [intOf]; omega
          · have hn : ringP t = none := by
              unfold ringP
              rw [HSP.out.1, nodesP_mid hp]
              rfl
            clear HSP
            go_wp2_with fail
            refine (HC.out _).mono ?_
            rintro e w5 ⟨rfl, hb⟩
            have hB5 := (below_on hB hb).alloc (below_on hB hb).size (.cells #[.int .i64 x, .int .i64 y] 24)
            clear hb e1
            go_wp2
            go_ret2
            exact HNO.out _ hn hB5
    · obtain rfl : i = t.length + 1 := by omega
      have hd1 : decide (((t.length + 1 : Nat) : Int) ≤ (t.length : Int)) = false := by simp; omega
      have hd1b : decide ((t.length : Int) + 1 ≤ (t.length : Int)) = false := by simp; omega
      have hsp : splitC 44 t = done := by
        rcases HS.out with h | h
        · omega
        · exact h.2
      have hring : ringP t = shut dn := by
        unfold ringP
        rw [hsp, HND.out]
        rfl
      have hrow := own_row HO.out
      have HR := Hd.mk hring
      have hdl2 : dn.length ≤ 1100001 := by omega
      have HBW := Hd.mk hB
      clear hsp hring HS HND HO hB hdl
      by_cases h3 : 3 < dn.length
      · have hd3 : decide ((dn.length : Int) < 4) = false := by simp; omega
        obtain ⟨A, cp, rfl, hcp, hless⟩ := hrow.less
        obtain ⟨A2, c2, e2, _, _, hcells⟩ := hrow
        injection e2 with e3 _ e4
        subst e3 e4
        obtain ⟨g, cur, rfl, hg, hcur⟩ := hcells (by omega)
        obtain ⟨m, hm⟩ : ∃ m, dn.length = m + 1 := ⟨dn.length - 1, by omega⟩
        obtain ⟨⟨x0, y0⟩, hp0⟩ : ∃ p, dn[0]? = some p := ⟨_, List.getElem?_eq_getElem (by omega)⟩
        obtain ⟨⟨x9, y9⟩, hp9⟩ : ∃ p, dn[m]? = some p := ⟨_, List.getElem?_eq_getElem (by omega)⟩
        have hE2 : (dn.head? = dn.getLast?) ↔ (x0 = x9 ∧ y0 = y9) := by
          rw [List.head?_eq_getElem?, List.getLast?_eq_getElem?, hp0, hm, Nat.add_sub_cancel, hp9]
          simp
        have HG := Hd.mk hg
        have HC0 := Hd.mk (hcur 0 _ hp0)
        have HC9 := Hd.mk (hcur m _ hp9)
        have HLS := Hd.mk hless
        have hno : ¬ (x0 = x9 ∧ y0 = y9) → ringP t = none := fun he => by
          rw [HR.out]
          unfold shut
          rw [if_neg (fun h => he (hE2.1 h.2))]
        have hyes : (x0 = x9 ∧ y0 = y9) → ringP t = some dn.dropLast := fun he => by
          rw [HR.out]
          unfold shut
          rw [if_pos ⟨h3, hE2.2 he⟩]
        have HNN := Hd.mk hno
        have HYES := Hd.mk hyes
        rw [hm] at hd3 h3 hdl2 hcp ⊢
        have HM := Hd.mk hm
        have hd4 : decide ((m : Int) + 1 < 4) = false := by simp; omega
        have hsl1 : (m : Int) ≤ (cp : Int) := by omega
        have hsl2 : m ≤ cp := by omega
        clear hcells hg hcur hp0 hp9 hless hE2 hm hno hyes HR
        by_cases hxx : x0 = x9
        · by_cases hyy : y0 = y9
          · have hring := HYES.out ⟨hxx, hyy⟩
            have HRG := Hd.mk hring
            subst hxx hyy
            clear hring HNN HYES
            go_wp2
            refine region_qt 14 (by kernel_rfl) (by kernel_rfl) fun X _ mk hmk hcl => ?_
            have ew0 : ∀ x : X, (mk x).cell? ⟨g, 0, none⟩ = some (.int .i64 x0) := fun x => (mk_cell hmk HG.out x 0).trans HC0.out.1
            have ew1 : ∀ x : X, (mk x).cell? ⟨g, 1, none⟩ = some (.int .i64 y0) := fun x => (mk_cell hmk HG.out x 1).trans HC0.out.2
            have ew2 : ∀ x : X, (mk x).cell? ⟨g, m * 2, none⟩ = some (.int .i64 x0) := fun x => (mk_cell hmk HG.out x _).trans HC9.out.1
            have ew3 : ∀ x : X, (mk x).cell? ⟨g, m * 2 + 1, none⟩ = some (.int .i64 y0) := fun x => (mk_cell hmk HG.out x _).trans HC9.out.2
            simp only [List.take_succ_cons, List.take_zero, List.drop_succ_cons, List.drop_zero]
            repeat (go_big_quiet_step (skip))
            refine wpQuiet_nil ?_
            rintro _ ⟨x, rfl⟩
            clear ew0 ew1 ew2 ew3
            have hx := hmk x
            clear hcl hmk
            generalize mk x = W6 at hx
            have hls6 := (HLS.out).kept (NKept.below hx)
            have hB6 := below_on HBW.out hx
            clear hx
            rw [HM.out, Nat.add_sub_cancel] at hls6
            go_wp2
            go_ret2
            exact ⟨hB6, .inl ⟨_, _, HRG.out, rfl, hls6⟩⟩
          · have hn := HNN.out (fun h => hyy h.2)
            have hne : (y0 == y9) = false := by simpa using hyy
            subst hxx
            clear HNN HYES
            go_wp2
            refine region_qt 14 (by kernel_rfl) (by kernel_rfl) fun X _ mk hmk hcl => ?_
            have ew0 : ∀ x : X, (mk x).cell? ⟨g, 0, none⟩ = some (.int .i64 x0) := fun x => (mk_cell hmk HG.out x 0).trans HC0.out.1
            have ew1 : ∀ x : X, (mk x).cell? ⟨g, 1, none⟩ = some (.int .i64 y0) := fun x => (mk_cell hmk HG.out x 1).trans HC0.out.2
            have ew2 : ∀ x : X, (mk x).cell? ⟨g, m * 2, none⟩ = some (.int .i64 x0) := fun x => (mk_cell hmk HG.out x _).trans HC9.out.1
            have ew3 : ∀ x : X, (mk x).cell? ⟨g, m * 2 + 1, none⟩ = some (.int .i64 y9) := fun x => (mk_cell hmk HG.out x _).trans HC9.out.2
            simp only [List.take_succ_cons, List.take_zero, List.drop_succ_cons, List.drop_zero]
            repeat (go_big_quiet_step (skip))
            refine wpQuiet_nil ?_
            rintro _ ⟨x, rfl⟩
            clear ew0 ew1 ew2 ew3
            have hx := hmk x
            clear hcl hmk
            generalize mk x = W6 at hx
            have hB6 := below_on HBW.out hx
            clear hx
            go_wp2
            go_ret2
            exact HNO.out _ hn hB6
        · have hn := HNN.out (fun h => hxx h.1)
          have hne : (x0 == x9) = false := by simpa using hxx
          clear HNN HYES
          go_wp2
          refine region_qt 14 (by kernel_rfl) (by kernel_rfl) fun X _ mk hmk hcl => ?_
          have ew0 : ∀ x : X, (mk x).cell? ⟨g, 0, none⟩ = some (.int .i64 x0) := fun x => (mk_cell hmk HG.out x 0).trans HC0.out.1
          have ew1 : ∀ x : X, (mk x).cell? ⟨g, 1, none⟩ = some (.int .i64 y0) := fun x => (mk_cell hmk HG.out x 1).trans HC0.out.2
          have ew2 : ∀ x : X, (mk x).cell? ⟨g, m * 2, none⟩ = some (.int .i64 x9) := fun x => (mk_cell hmk HG.out x _).trans HC9.out.1
          have ew3 : ∀ x : X, (mk x).cell? ⟨g, m * 2 + 1, none⟩ = some (.int .i64 y9) := fun x => (mk_cell hmk HG.out x _).trans HC9.out.2
          simp only [List.take_succ_cons, List.take_zero, List.drop_succ_cons, List.drop_zero]
          repeat (go_big_quiet_step (skip))
          refine wpQuiet_nil ?_
          rintro _ ⟨x, rfl⟩
          clear ew0 ew1 ew2 ew3
          have hx := hmk x
          clear hcl hmk
          generalize mk x = W6 at hx
          have hB6 := below_on HBW.out hx
          clear hx
          go_wp2
          go_ret2
          exact HNO.out _ hn hB6
      · have hd3 : decide ((dn.length : Int) < 4) = true := by simp; omega
        have hn : ringP t = none := by
          rw [HR.out]
          unfold shut
          rw [if_neg (fun h => h3 h.1)]
        obtain ⟨A, cp, rfl, hcp, hless⟩ := hrow.less
        clear hless hrow
        go_wp2
        refine region_qt 14 (by kernel_rfl) (by kernel_rfl) fun X _ mk hmk hcl => ?_
        simp only [List.take_succ_cons, List.take_zero, List.drop_succ_cons, List.drop_zero]
        repeat (go_big_quiet_step (skip))
        refine wpQuiet_nil ?_
        rintro _ ⟨x, rfl⟩
        have hx := hmk x
        clear hcl hmk
        generalize mk x = W6 at hx
        have hB6 := below_on HBW.out hx
        clear hx
        go_wp2
        go_ret2
        exact HNO.out _ hn hB6
end Go.Proofs.YtfchmikbebdflaaGreatDoor

namespace Go.Proofs.YtfchmikbebdflaaGreatDoor
open Go.RowKit Go.BigFrame Go.Shelf

set_option maxRecDepth 100000 in
set_option maxHeartbeats 8000000 in
theorem rcheck_rings (Ls : List (List Nd)) (hne : Ls ≠ []) (A : Option Addr) (c : Nat) (w : World) (hR : RingsIn w A Ls) (ht : total Ls ≤ 1100000) (hl : Ls.length ≤ 1100000) :
    Calls Tryz.prog 41 #[.agg (shV ⟨false, ((0, 0), (0, 0)), Ls⟩ A c)] w fun e w' => e = .returned (.int .i64 (checkV ⟨false, ((0, 0), (0, 0)), Ls⟩)) ∧ Below w.heap.size w w' := by
  obtain ⟨vs, hcl, hro⟩ := hR
  have hvl := hro.1
  have hpos : 0 < Ls.length := List.length_pos_iff.2 hne
  have hz0 : ((Ls.length : Int) == 0) = false := by simp; omega
  have HC1 : Hd ((∀ l ∈ Ls, RingOk l) → checkV ⟨false, ((0, 0), (0, 0)), Ls⟩ = if 512 < total Ls then 3 else 0) := ⟨checkV_ok hne⟩
  have HC2 : Hd ((¬ ∀ l ∈ Ls, RingOk l) → checkV ⟨false, ((0, 0), (0, 0)), Ls⟩ = 2) := ⟨checkV_bad hne⟩
  generalize checkV ⟨false, ((0, 0), (0, 0)), Ls⟩ = E at HC1 HC2 ⊢
  have HCL := Hd.mk hcl
  have HRO := Hd.mk hro
  have HT := Hd.mk ht
  unfold shV
  clear hcl hro ht hne
  go_enter Tryz.func41, Tryz.ntmps41
  go_upto_region 7 with (fail)
  refine abs_wp (fun W => W.heap[w.heap.size]? = some (.cells #[.bool false, .int .i64 0, .int .i64 0, .int .i64 0, .int .i64 0, .slice A Ls.length c] 29 (0, 0)) ∧ Below w.heap.size w W) ⟨heap_new _ _, (Below.refl _ _).alloc (Nat.le_refl _) _⟩ fun W0 ⟨y0, hB0⟩ => ?_
  go_wp2
  go_loopw [3, 4] (fun nv iv wr => ∃ i : Nat, iv = .int .i64 i ∧ i ≤ Ls.length ∧ nv = .int .i64 (total (Ls.take i) : Nat) ∧ Hd (∀ l ∈ Ls.take i, RingOk l) ∧ wr.heap[w.heap.size]? = some (.cells #[.bool false, .int .i64 0, .int .i64 0, .int .i64 0, .int .i64 0, .slice A Ls.length c] 29 (0, 0)) ∧ Below w.heap.size w wr) (fun _ iv _ => Ls.length - (intOf iv).toNat)
  case atStart => exact ⟨0, rfl, Nat.zero_le _, rfl, ⟨by simp⟩, y0, hB0⟩
  case round =>
    clear y0 hB0
    obtain ⟨i, rfl, hi, rfl, HOK, z0, hB⟩ := hrel
    have c0 := cell_at z0
    by_cases hlt : i < Ls.length
    · have hd1 : decide ((i : Int) < (Ls.length : Int)) = true := by simp; omega
      have hd2 : decide (i < Ls.length) = true := by simp; omega
      obtain ⟨bb, off, rfl, hcc⟩ := HCL.out.below hB (by omega)
      obtain ⟨lr, hlr⟩ : ∃ lr, Ls[i]? = some lr := ⟨_, List.getElem?_eq_getElem hlt⟩
      obtain ⟨v, hv⟩ : ∃ v, vs[i]? = some v := ⟨_, List.getElem?_eq_getElem (by omega)⟩
      have q1 := hcc i v hv
      have hlm : lr ∈ Ls := List.mem_of_getElem? hlr
      obtain ⟨Ar, cr, rfl, hc1, hc2, hnd⟩ := HRO.out.2 i v lr hv hlr
      have HLM := Hd.mk hlm
      have HLR := Hd.mk hlr
      have hlt1 := total_mem hlm
      have htot := HT.out
      have hsum := total_take hlr
      have htk := total_le Ls (i + 1)
      have hl0 : lr.length ≤ 1100000 := by omega
      have hs1 : total (Ls.take i) ≤ 1100000 := by omega
      have HS := Hd.mk hsum
      have HND := Hd.mk (hnd.below hB)
      have HBW := Hd.mk hB
      clear hcc hv hlr hlm hnd hlt1 htot hsum htk hB
      generalize total (Ls.take i) = N at hs1 HS ⊢
      by_cases h3 : lr.length < 3
      · have hd3 : decide ((lr.length : Int) < 3) = true := by simp; omega
        have hbad : E = 2 := HC2.out (fun h => by have := (h lr HLM.out).1; omega)
        subst hbad
        go_wp2
        go_ret
        exact ⟨rfl, HBW.out⟩
      · have hd3 : decide ((lr.length : Int) < 3) = false := by simp; omega
        go_wp2
        go_loopw [5] (fun kv w2 => ∃ k : Nat, kv = .int .i64 k ∧ k ≤ lr.length ∧ Hd (∀ p ∈ lr.take k, nodeB p.1 p.2 = true) ∧ Below wr.heap.size wr w2) (fun kv _ => lr.length - (intOf kv).toNat)
        case atStart => exact ⟨0, rfl, Nat.zero_le _, ⟨by simp⟩, Below.refl _ _⟩
        case round =>
          obtain ⟨k, rfl, hk, HG, hB3⟩ := hrel
          have y0 := heap_below hB3 z0
          have y1 := (hB3.cell (World.block_lt_of_cell? _ _ q1)).trans q1
          have c0 := cell_at y0
          by_cases hkl : k < lr.length
          · have hdk : decide ((k : Int) < (lr.length : Int)) = true := by simp; omega
            have hdk2 : decide (k < lr.length) = true := by simp; omega
            obtain ⟨b2, o2, rfl, hcc⟩ := (HND.out.below hB3) (by omega)
            obtain ⟨⟨x, y⟩, hp⟩ : ∃ p, lr[k]? = some p := ⟨_, List.getElem?_eq_getElem hkl⟩
            obtain ⟨p1, p2⟩ := hcc k (x, y) hp
            have HP := Hd.mk hp
            have HB3 := Hd.mk hB3
            clear hcc hp hB3
            cases hq : nodeB x y with
            | true =>
              have HK : Hd (∀ w, Calls Tryz.prog 66 #[.agg #[.int .i64 x, .int .i64 y]] w fun e w' => e = .returned (.bool true) ∧ Below w.heap.size w w') := ⟨fun w => by
                have h := rnode_any x y w
                rw [hq] at h
                exact h⟩
              have hgk : Hd (∀ p ∈ lr.take (k + 1), nodeB p.1 p.2 = true) := ⟨by
                intro p hp
                rw [List.take_add_one, HP.out] at hp
                rcases List.mem_append.1 hp with hp | hp
                · exact HG.out p hp
                · simp at hp
                  rw [hp]
                  exact hq⟩
              clear hq
              go_wp2_with fail
              refine (HK.out _).mono ?_
              rintro e w5 ⟨rfl, hb⟩
              have hB5 := below_on HB3.out hb
              clear hb p1 p2 c0 y0 y1
              go_wp2
              go_roundw
              case rel => exact ⟨k + 1, by go_num, by omega, hgk, hB5⟩
              case measure => simp [intOf]; omega
            | false =>
              have HK : Hd (∀ w, Calls Tryz.prog 66 #[.agg #[.int .i64 x, .int .i64 y]] w fun e w' => e = .returned (.bool false) ∧ Below w.heap.size w w') := ⟨fun w => by
                have h := rnode_any x y w
                rw [hq] at h
                exact h⟩
              have hbad : E = 2 := HC2.out (fun h => by
                have h1 := (h lr HLM.out).2 (x, y) (List.mem_of_getElem? HP.out)
                rw [hq] at h1
                cases h1)
              subst hbad
              clear hq
              go_wp2_with fail
              refine (HK.out _).mono ?_
              rintro e w5 ⟨rfl, hb⟩
              have hB5 := below_on HB3.out hb
              clear hb p1 p2 c0 y0 y1
              go_wp2
              go_ret
              exact ⟨rfl, below_on HBW.out hB5⟩
          · obtain rfl : k = lr.length := by omega
            have hdk : decide (((lr.length : Nat) : Int) < (lr.length : Int)) = false := by simp
            have hgood : Hd (RingOk lr) := ⟨by omega, by have := HG.out; rwa [List.take_length] at this⟩
            have HB3 := Hd.mk (below_on HBW.out hB3)
            have HOK2 : Hd (∀ l ∈ Ls.take (i + 1), RingOk l) := ⟨take_all HLR.out HOK.out hgood.out⟩
            have HY0 := Hd.mk y0
            clear hB3
            go_wp2
            go_roundw
            case rel => exact ⟨i + 1, by go_num, by omega, by rw [HS.out]; go_num, HOK2, HY0.out, HB3.out⟩
            case measure => simp [intOf]; omega
    · obtain rfl : i = Ls.length := by omega
      have hd1 : decide (((Ls.length : Nat) : Int) < (Ls.length : Int)) = false := by simp
      have hok := HOK.out
      rw [List.take_length] at hok ⊢
      have he := HC1.out hok
      clear hok HOK
      by_cases hbig : 512 < total Ls
      · have hd : decide (((total Ls : Nat) : Int) > 512) = true := by simp; omega
        rw [if_pos hbig] at he
        subst he
        go_wp2
        go_ret
        exact ⟨rfl, hB⟩
      · have hd : decide (((total Ls : Nat) : Int) > 512) = false := by simp; omega
        rw [if_neg hbig] at he
        subst he
        go_wp2
        go_ret
        exact ⟨rfl, hB⟩
end Go.Proofs.YtfchmikbebdflaaGreatDoor

namespace Go.Proofs.YtfchmikbebdflaaGreatDoor
open Go.RowKit Go.BigFrame Go.Shelf

set_option maxRecDepth 100000 in
set_option maxHeartbeats 4000000 in
theorem rwparse_long (t : Bs) (hl : 1048576 < t.length) (ht : t.length ≤ 1100000) (w : World) :
    Calls Tryz.prog 13 #[.string (bs t)] w fun e w' => e = .returned (.tuple #[.agg #[.bool false, .int .i64 0, .int .i64 0, .int .i64 0, .int .i64 0, .slice none 0 0], .int .i64 3]) ∧ Below w.heap.size w w' := by
  have hsz := bs_size t
  have hd1 : decide ((t.length : Int) > 1048576) = true := by simp; omega
  go_enter Tryz.func13, Tryz.ntmps13
  go_upto_region 2 with (fail)
  have z0 := heap_new w (.cells #[.bool false, .int .i64 0, .int .i64 0, .int .i64 0, .int .i64 0, .slice none 0 0] 29)
  go_wp2_with (refine wpList_store_block rfl 29 (.tmp 2) (.tmp 28) rfl w.heap.size #[.bool false, .int .i64 0, .int .i64 0, .int .i64 0, .int .i64 0, .slice none 0 0] rfl rfl z0 rfl (by kernel_rfl) rfl ?_; rintro wz hWz)
  have kz := cell_at hWz.here
  refine bodyPost_ret (by first | (simp [results, Tryz.results13, go_sem, kz]; done) | (simp [results, Tryz.results13, go_sem, kz]; rfl)) rfl ⟨rfl, ((Below.refl _ _).alloc (Nat.le_refl _) _).trans (hWz.below _ (Nat.le_refl _))⟩

theorem rsparse_any (t : Bs) (ht : t.length ≤ 1100000) : ∃ c0 c1 c2 c3 e : Int, (∀ w, Calls Tryz.prog 39 #[.string (bs t)] w fun x w' => x = .returned (.tuple #[.agg #[.int .i64 c0, .int .i64 c1, .int .i64 c2, .int .i64 c3], .int .i64 e]) ∧ Below w.heap.size w w') ∧
    ((e = 0 ∧ segP t = some ((c0, c1), (c2, c3))) ∨ (e = 140 ∧ segP t = none)) := by
  obtain ⟨c0, c1, c2, c3, e, hor, hc⟩ := rparse_ex (bs t) (by rw [bs_size]; exact ht)
  refine ⟨c0, c1, c2, c3, e, hc, ?_⟩
  rcases hor with ⟨he, hg, hs⟩ | ⟨he, _, _, _, _, hno⟩
  · refine .inl ⟨he, ?_⟩
    have e2 : t = sgL ((c0, c1), (c2, c3)) := by
      have := congrArg (fun s : ByteArray => s.data.toList) hs
      simpa [sgL] using this
    rw [e2]
    exact segP_text (g := ((c0, c1), (c2, c3))) hg
  · refine .inr ⟨he, segP_none fun g hg e2 => ?_⟩
    refine hno g.1.1 g.1.2 g.2.1 g.2.2 hg ?_
    rw [e2]
    exact (bs_self _).symm
def PzP (w : World) (e : Ending) (w' : World) : Prop := e = .returned (.tuple #[.agg #[.bool false, .int .i64 0, .int .i64 0, .int .i64 0, .int .i64 0, .slice none 0 0], .int .i64 190]) ∧ Below w.heap.size w w'
set_option maxRecDepth 100000 in
set_option maxHeartbeats 8000000 in
theorem rwparse_seg (t r0 : Bs) (ht : t.length ≤ 1048576) (hw : behind segW t = some r0) (w : World) :
    Calls Tryz.prog 13 #[.string (bs t)] w fun e w' => match segQ r0 with
      | some g => e = .returned (.tuple #[.agg #[.bool true, .int .i64 g.1.1, .int .i64 g.1.2, .int .i64 g.2.1, .int .i64 g.2.2, .slice none 0 0], .int .i64 0]) ∧ Below w.heap.size w w'
      | none => PzP w e w' := by
  have hsz := bs_size t
  have hd1 : decide ((t.length : Int) > 1048576) = false := by simp; omega
  have hrl : r0.length ≤ 1048576 := by
    have := behind_some hw
    rw [this] at ht
    simp at ht
    omega
  have HBG : Hd (∀ W, Calls Tryz.prog 37 #[.string (bs t), .string ⟨#[83, 69, 71, 77, 69, 78, 84, 40]⟩] W fun e w' => e = .returned (.tuple #[.string (bs r0), .bool true]) ∧ w' = W) := ⟨fun W => by
    refine (rbegins_any t segW (by omega) (by decide) W).mono ?_
    rintro e w' ⟨⟨r, b, (⟨rfl, h⟩ | ⟨rfl, h, _⟩), rfl⟩, rfl⟩
    · rw [hw] at h
      obtain rfl := Option.some.inj h
      exact ⟨rfl, rfl⟩
    · rw [hw] at h
      cases h⟩
  have hsq := segQ_of r0
  generalize segQ r0 = O at hsq ⊢
  clear hw
  go_enter Tryz.func13, Tryz.ntmps13
  go_upto_region 1 with (fail)
  refine abs_wp (fun W => W.heap[w.heap.size]? = some (.cells #[.bool false, .int .i64 0, .int .i64 0, .int .i64 0, .int .i64 0, .slice none 0 0] 29 (0, 0)) ∧ Below w.heap.size w W) ⟨heap_new _ _, (Below.refl _ _).alloc (Nat.le_refl _) _⟩ fun W0 ⟨z0, hB⟩ => ?_
  go_wp2_with fail
  refine (HBG.out _).mono ?_
  rintro e w1 ⟨rfl, rfl⟩
  cases hc : cutC 41 r0 with
  | none =>
    have hO : O = none := by rw [hsq]; unfold segR; rw [hc]
    subst hO
    go_wp2_with fail
    refine (runtil_no r0 (by omega) (cutC_none hc) _).mono ?_
    rintro e w2 ⟨rfl, rfl⟩
    obtain ⟨a0, a1, a2, a3, er, HC, _⟩ := rsparse_any [] (by simp)
    have HC := Hd.mk HC
    go_wp2_with fail
    refine (HC.out _).mono ?_
    rintro e w3 ⟨rfl, hb⟩
    have y0 := heap_old (heap_below hb z0) (.cells #[.int .i64 a0, .int .i64 a1, .int .i64 a2, .int .i64 a3] 26)
    have hB3 := (below_on hB hb).alloc (below_on hB hb).size (.cells #[.int .i64 a0, .int .i64 a1, .int .i64 a2, .int .i64 a3] 26)
    clear hb z0 hB
    go_wp2_with (refine wpList_store_block rfl 29 (.tmp 2) (.tmp 56) rfl w.heap.size #[.bool false, .int .i64 0, .int .i64 0, .int .i64 0, .int .i64 0, .slice none 0 0] rfl rfl y0 rfl (by kernel_rfl) rfl ?_; rintro wz hWz)
    have kz := cell_at hWz.here
    refine bodyPost_ret (by first | (simp [results, Tryz.results13, go_sem, kz]; done) | (simp [results, Tryz.results13, go_sem, kz]; rfl)) rfl ⟨rfl, hB3.trans (hWz.below _ (Nat.le_refl _))⟩
  | some q =>
    obtain ⟨body, left⟩ := q
    obtain ⟨hr0, hno⟩ := cutC_some hc
    have hbl : body.length ≤ 1100000 := by rw [hr0] at hrl; simp at hrl; omega
    have hsr : segR r0 = (segP body).map fun g => (g, left) := by unfold segR; rw [hc]
    rw [hsr] at hsq
    have HU : Hd (∀ W, Calls Tryz.prog 38 #[.string (bs r0)] W fun e w' => e = .returned (.tuple #[.string (bs body), .string (bs left), .bool true]) ∧ Below W.heap.size W w') := ⟨fun W => by
      have h := runtil_at body left (by rw [← hr0]; omega) hno W
      rw [← hr0] at h
      exact h⟩
    clear hr0 hno hc hsr
    go_wp2_with fail
    refine (HU.out _).mono ?_
    rintro e w2 ⟨rfl, hb⟩
    have z2 := heap_below hb z0
    have hB2 := below_on hB hb
    clear hb z0 hB
    obtain ⟨a0, a1, a2, a3, er, HC, hor⟩ := rsparse_any body hbl
    have HC := Hd.mk HC
    go_wp2_with fail
    refine (HC.out _).mono ?_
    rintro e w3 ⟨rfl, hb⟩
    have y0 := heap_old (heap_below hb z2) (.cells #[.int .i64 a0, .int .i64 a1, .int .i64 a2, .int .i64 a3] 26)
    have y9 := heap_new w3 (.cells #[.int .i64 a0, .int .i64 a1, .int .i64 a2, .int .i64 a3] 26)
    have hB3 := (below_on hB2 hb).alloc (below_on hB2 hb).size (.cells #[.int .i64 a0, .int .i64 a1, .int .i64 a2, .int .i64 a3] 26)
    clear hb z2 hB2
    cases left with
    | cons a left =>
      have hO : O = none := by
        rw [hsq]
        cases segP body <;> rfl
      subst hO
      have he1 := bs_cons_ne a left
      have he2 := bs_cons_ne2 a left
      go_wp2_with (refine wpList_store_block rfl 29 (.tmp 2) (.tmp 56) rfl w.heap.size #[.bool false, .int .i64 0, .int .i64 0, .int .i64 0, .int .i64 0, .slice none 0 0] rfl rfl y0 rfl (by kernel_rfl) rfl ?_; rintro wz hWz)
      have kz := cell_at hWz.here
      refine bodyPost_ret (by first | (simp [results, Tryz.results13, go_sem, kz]; done) | (simp [results, Tryz.results13, go_sem, kz]; rfl)) rfl ⟨rfl, hB3.trans (hWz.below _ (Nat.le_refl _))⟩
    | nil =>
      rcases hor with ⟨rfl, hp⟩ | ⟨rfl, hp⟩
      · have hO : O = some ((a0, a1), (a2, a3)) := by rw [hsq, hp]; rfl
        subst hO
        have c9 := cell_at y9
        go_wp2_with (refine wpList_store_block rfl 29 (.tmp 2) (.tmp 58) rfl w.heap.size #[.bool true, .int .i64 a0, .int .i64 a1, .int .i64 a2, .int .i64 a3, .slice none 0 0] rfl rfl y0 rfl (by kernel_rfl) rfl ?_; rintro wz hWz)
        have kz := cell_at hWz.here
        refine bodyPost_ret (by first | (simp [results, Tryz.results13, go_sem, kz]; done) | (simp [results, Tryz.results13, go_sem, kz]; rfl)) rfl ⟨rfl, hB3.trans (hWz.below _ (Nat.le_refl _))⟩
      · have hO : O = none := by rw [hsq, hp]; rfl
        subst hO
        go_wp2_with (refine wpList_store_block rfl 29 (.tmp 2) (.tmp 56) rfl w.heap.size #[.bool false, .int .i64 0, .int .i64 0, .int .i64 0, .int .i64 0, .slice none 0 0] rfl rfl y0 rfl (by kernel_rfl) rfl ?_; rintro wz hWz)
        have kz := cell_at hWz.here
        refine bodyPost_ret (by first | (simp [results, Tryz.results13, go_sem, kz]; done) | (simp [results, Tryz.results13, go_sem, kz]; rfl)) rfl ⟨rfl, hB3.trans (hWz.below _ (Nat.le_refl _))⟩
set_option maxRecDepth 100000 in
set_option maxHeartbeats 4000000 in
theorem rwparse_word (t : Bs) (ht : t.length ≤ 1048576) (h1 : behind segW t = none) (h2 : behind polW t = none) (w : World) :
    Calls Tryz.prog 13 #[.string (bs t)] w fun e w' => PzP w e w' := by
  have hsz := bs_size t
  have hd1 : decide ((t.length : Int) > 1048576) = false := by simp; omega
  have HB1 : Hd (∀ W, Calls Tryz.prog 37 #[.string (bs t), .string ⟨#[83, 69, 71, 77, 69, 78, 84, 40]⟩] W fun e w' => e = .returned (.tuple #[.string (bs t), .bool false]) ∧ w' = W) := ⟨fun W => by
    refine (rbegins_any t segW (by omega) (by decide) W).mono ?_
    rintro e w' ⟨⟨r, b, (⟨rfl, h⟩ | ⟨rfl, h, rfl⟩), rfl⟩, rfl⟩
    · rw [h1] at h
      cases h
    · exact ⟨rfl, rfl⟩⟩
  have HB2 : Hd (∀ W, Calls Tryz.prog 37 #[.string (bs t), .string ⟨#[80, 79, 76, 89, 71, 79, 78, 40]⟩] W fun e w' => e = .returned (.tuple #[.string (bs t), .bool false]) ∧ w' = W) := ⟨fun W => by
    refine (rbegins_any t polW (by omega) (by decide) W).mono ?_
    rintro e w' ⟨⟨r, b, (⟨rfl, h⟩ | ⟨rfl, h, rfl⟩), rfl⟩, rfl⟩
    · rw [h2] at h
      cases h
    · exact ⟨rfl, rfl⟩⟩
  go_enter Tryz.func13, Tryz.ntmps13
  go_upto_region 1 with (fail)
  refine abs_wp (fun W => W.heap[w.heap.size]? = some (.cells #[.bool false, .int .i64 0, .int .i64 0, .int .i64 0, .int .i64 0, .slice none 0 0] 29 (0, 0)) ∧ Below w.heap.size w W) ⟨heap_new _ _, (Below.refl _ _).alloc (Nat.le_refl _) _⟩ fun W0 ⟨z0, hB⟩ => ?_
  go_wp2_with fail
  refine (HB1.out _).mono ?_
  rintro e w1 ⟨rfl, rfl⟩
  go_wp2_with fail
  refine (HB2.out _).mono ?_
  rintro e w2 ⟨rfl, rfl⟩
  go_wp2_with (refine wpList_store_block rfl 29 (.tmp 2) (.tmp 66) rfl w.heap.size #[.bool false, .int .i64 0, .int .i64 0, .int .i64 0, .int .i64 0, .slice none 0 0] rfl rfl z0 rfl (by kernel_rfl) rfl ?_; rintro wz hWz)
  have kz := cell_at hWz.here
  refine bodyPost_ret (by first | (simp [results, Tryz.results13, go_sem, kz]; done) | (simp [results, Tryz.results13, go_sem, kz]; rfl)) rfl ⟨rfl, hB.trans (hWz.below _ (Nat.le_refl _))⟩
end Go.Proofs.YtfchmikbebdflaaGreatDoor

namespace Go.Proofs.YtfchmikbebdflaaGreatDoor
open Go.RowKit Go.BigFrame Go.Shelf

theorem runtil_any (t : Bs) (ht : t.length ≤ 1100000) : ∃ body left ok, ((ok = true ∧ cutC 41 t = some (body, left)) ∨ (ok = false ∧ cutC 41 t = none)) ∧ body.length ≤ 1100000 ∧
    Hd (∀ W, Calls Tryz.prog 38 #[.string (bs t)] W fun e w' => e = .returned (.tuple #[.string (bs body), .string (bs left), .bool ok]) ∧ Below W.heap.size W w') := by
  cases hc : cutC 41 t with
  | none => exact ⟨[], t, false, .inr ⟨rfl, rfl⟩, by simp, ⟨fun W => (runtil_no t ht (cutC_none hc) W).mono fun _ _ ⟨h, k⟩ => ⟨h, k ▸ Below.refl _ _⟩⟩⟩
  | some q =>
    obtain ⟨body, left⟩ := q
    obtain ⟨hr0, hno⟩ := cutC_some hc
    refine ⟨body, left, true, .inl ⟨rfl, rfl⟩, by rw [hr0] at ht; simp at ht; omega, ⟨fun W => ?_⟩⟩
    have h := runtil_at body left (by rw [← hr0]; omega) hno W
    rw [← hr0] at h
    exact h
/-- The state while rings are read. -/
structure PSr (w : World) (Ls : List (List Nd)) (vs : List Value) (v : Value) (W : World) : Prop where
  out : W.heap[w.heap.size]? = some (.cells #[.bool false, .int .i64 0, .int .i64 0, .int .i64 0, .int .i64 0, .slice none 0 0] 29 (0, 0))
  buf : W.heap[w.heap.size + 1]? = some (.cells #[.bool false, .int .i64 0, .int .i64 0, .int .i64 0, .int .i64 0, v] 29 (0, 0))
  own : W.ownsRow (w.heap.size + 2) 30 1 v Ls.length vs
  rows : RowsN W vs Ls
  low : Below w.heap.size w W
theorem PSr.below {w W W' : World} {Ls : List (List Nd)} {vs : List Value} {v : Value} (h : PSr w Ls vs v W) (hb : Below W.heap.size W W') : PSr w Ls vs v W' :=
  ⟨heap_below hb h.out, heap_below hb h.buf, own_below h.own hb, h.rows.kept (NKept.below hb), below_on h.low hb⟩
theorem PSr.push {w W w1 : World} {Ls : List (List Nd)} {vs : List Value} {v : Value} (h : PSr w Ls vs v W) {l : List Nd} {rv v' : Value} (hrow : RowN W rv l) {ty : TypeId}
    (hown : w1.ownsRow (w.heap.size + 2) 30 1 v' (Ls.length + 1) (vs ++ [rv])) (hgrow : (W.alloc (.cells #[rv] ty)).grownBy w1 v.ownBlock) :
    PSr w (Ls ++ [l]) (vs ++ [rv]) v' (w1.setCell ⟨w.heap.size + 1, 5, none⟩ v') ∧ (∀ o, w1.cell? ⟨w.heap.size + 1, o, none⟩ = (#[.bool false, .int .i64 0, .int .i64 0, .int .i64 0, .int .i64 0, v] : Array Value)[o]?) ∧ (∀ o, w1.frozen? ⟨w.heap.size + 1, o, none⟩ = false) := by
  have hold : ∀ k o, W.heap[k]? = some o → v.ownBlock ≠ some k → w1.heap[k]? = some o := fun k o ho hne => (hgrow.block k (by have := lt_of_block ho; simp; omega) (fun e => hne e.symm)).trans (heap_old ho _)
  have ne : ∀ {b : Nat} {cs : Array Value} {T : TypeId}, W.heap[b]? = some (.cells cs T (0, 0)) → T ≠ 30 → v.ownBlock ≠ some b := fun hb hT => by
    rcases own_ne h.own hb hT with e | e
    · rw [e]
      exact fun x => by cases x
    · exact e
  have y1 := hold _ _ h.out (ne h.out (by decide))
  have y2 := hold _ _ h.buf (ne h.buf (by decide))
  have hk1 : NKept W w1 := fun k cur e => hold k _ e (ne e (by decide))
  have hW : Wr (w.heap.size + 1) #[.bool false, .int .i64 0, .int .i64 0, .int .i64 0, .int .i64 0, v'] 29 w1 (w1.setCell ⟨w.heap.size + 1, 5, none⟩ v') :=
    ⟨(heap_set y2 5 v').trans (by rfl), fun k o hk ho => heap_set_other ho hk _, fun n hn => (Below.refl n w1).setCell (p := ⟨w.heap.size + 1, 5, none⟩) hn _⟩
  have hk2 : NKept w1 (w1.setCell ⟨w.heap.size + 1, 5, none⟩ v') := NKept.wr hW y2 (by decide)
  have hlow : Below w.heap.size W w1 := (Below.alloc (Below.refl w.heap.size W) (by have := lt_of_block h.buf; omega) _).trans (below_grown hgrow (fun k hk => by have := (h.own.lt k hk).1; omega) (by have := lt_of_block h.buf; simp; omega))
  refine ⟨⟨heap_set_other y1 (by simp) _, hW.here, ?_, ?_, (h.low.trans hlow).trans (hW.below _ (by omega))⟩, cell_at y2, frozen_at y2⟩
  · rw [List.length_append]
    exact hown.kept hW.grown (own_ne hown y2 (by decide))
  · exact (h.rows.snoc hrow).kept (hk1.trans hk2)
set_option maxRecDepth 100000 in
set_option maxHeartbeats 8000000 in
theorem rwparse_pol (t r0 : Bs) (ht : t.length ≤ 1048576) (h1 : behind segW t = none) (h2 : behind polW t = some r0) (w : World) :
    Calls Tryz.prog 13 #[.string (bs t)] w fun e w' => match polyQ r0 with
      | some Ls => PolP w Ls e w'
      | none => PzP w e w' := by
  have hsz := bs_size t
  have hd1 : decide ((t.length : Int) > 1048576) = false := by simp; omega
  have hrl : r0.length + 8 = t.length := by
    have := behind_some h2
    rw [this]
    simp [polW]
  have hpi := polyQ_iff r0
  have HB1 : Hd (∀ W, Calls Tryz.prog 37 #[.string (bs t), .string ⟨#[83, 69, 71, 77, 69, 78, 84, 40]⟩] W fun e w' => e = .returned (.tuple #[.string (bs t), .bool false]) ∧ w' = W) := ⟨fun W => by
    refine (rbegins_any t segW (by omega) (by decide) W).mono ?_
    rintro e w' ⟨⟨r, b, (⟨rfl, h⟩ | ⟨rfl, h, rfl⟩), rfl⟩, rfl⟩
    · rw [h1] at h
      cases h
    · exact ⟨rfl, rfl⟩⟩
  have HB2 : Hd (∀ W, Calls Tryz.prog 37 #[.string (bs t), .string ⟨#[80, 79, 76, 89, 71, 79, 78, 40]⟩] W fun e w' => e = .returned (.tuple #[.string (bs r0), .bool true]) ∧ w' = W) := ⟨fun W => by
    refine (rbegins_any t polW (by omega) (by decide) W).mono ?_
    rintro e w' ⟨⟨r, b, (⟨rfl, h⟩ | ⟨rfl, h, _⟩), rfl⟩, rfl⟩
    · rw [h2] at h
      obtain rfl := Option.some.inj h
      exact ⟨rfl, rfl⟩
    · rw [h2] at h
      cases h⟩
  generalize hO : polyQ r0 = O at hpi ⊢
  have HRL := Hd.mk hrl
  have HPI := Hd.mk hpi
  have HO := Hd.mk hO
  clear h1 h2 hrl hpi hO
  go_enter Tryz.func13, Tryz.ntmps13
  go_upto_region 1 with (fail)
  refine abs_wp (fun W => W.heap[w.heap.size]? = some (.cells #[.bool false, .int .i64 0, .int .i64 0, .int .i64 0, .int .i64 0, .slice none 0 0] 29 (0, 0)) ∧ Below w.heap.size w W ∧ W.heap.size = w.heap.size + 1) ⟨heap_new _ _, (Below.refl _ _).alloc (Nat.le_refl _) _, by simp⟩ fun W0 ⟨z0, hB, hs0⟩ => ?_
  go_wp2_with fail
  refine (HB1.out _).mono ?_
  rintro e w1 ⟨rfl, rfl⟩
  go_wp2_with fail
  refine (HB2.out _).mono ?_
  rintro e w2 ⟨rfl, rfl⟩
  go_upto_region 14 with (fail)
  have hst : PSr w [] [] (.slice none 0 0) (w2.alloc (.cells #[.bool false, .int .i64 0, .int .i64 0, .int .i64 0, .int .i64 0, .slice none 0 0] 29)) := ⟨heap_old z0 _, heap_at hs0 _, ⟨rfl, .inl ⟨rfl, rfl⟩⟩, ⟨rfl, by simp⟩, hB.alloc hB.size _⟩
  generalize w2.alloc (.cells #[.bool false, .int .i64 0, .int .i64 0, .int .i64 0, .int .i64 0, .slice none 0 0] 29) = w3 at hst ⊢
  clear z0 hB hs0 HB1 HB2
  go_wp2
  go_loopw [11, 14] (fun tv iv wr => ∃ (i : Nat) (t' : Bs) (Ls : List (List Nd)) (vs : List Value) (v : Value), tv = .string (bs t') ∧ iv = .int .i64 i ∧ Hd (polyQ r0 = (polyQ t').map (Ls ++ ·)) ∧ i + t'.length ≤ r0.length ∧ Ls.length ≤ i ∧ PSr w Ls vs v wr) (fun _ iv _ => t.length - (intOf iv).toNat)
  case atStart =>
    refine ⟨0, r0, [], [], .slice none 0 0, rfl, rfl, ⟨?_⟩, by omega, Nat.le_refl _, hst⟩
    cases polyQ r0 <;> rfl
  case round =>
    clear hst
    obtain ⟨i, t', Ls, vs, v, rfl, rfl, HQ, hil, hLl, hst⟩ := hrel
    have hrl := HRL.out
    have hdi : decide ((i : Int) < (t.length : Int)) = true := by simp; omega
    have hdi2 : decide (i < t.length) = true := by simp; omega
    have htl : t'.length ≤ 1100000 := by omega
    have bad : ∀ x, polyQ t' = none → x = O → x = none ∨ O = none := fun x h _ => .inr (by rw [← HO.out, HQ.out, h]; rfl)
    have HBAD : Hd (polyQ t' = none → O = none) := ⟨fun h => by rw [← HO.out, HQ.out, h]; rfl⟩
    clear bad
    have hbg := rbegins_any t' [40] htl (by decide) wr
    have HL := Hd.mk (And.intro hrl (And.intro hil hLl))
    clear hrl hil
    go_wp2_with fail
    refine hbg.mono ?_
    rintro e w4 ⟨⟨op, a, ha, rfl⟩, rfl⟩
    clear hbg
    have hopl : op.length ≤ 1100000 := by
      rcases ha with ⟨_, h⟩ | ⟨_, _, rfl⟩
      · have := behind_some h
        rw [this] at htl
        simp at htl
        omega
      · exact htl
    obtain ⟨body, left, ok, hok, hbl, HU⟩ := runtil_any op hopl
    go_wp2_with fail
    refine (HU.out _).mono ?_
    rintro e w5 ⟨rfl, hb⟩
    have hst5 := hst.below hb
    clear hb hst HU
    have hrg := rring_any body hbl w5
    go_wp2_with fail
    refine hrg.mono ?_
    rintro e w6 ⟨hb, hcase⟩
    have hst6 := hst5.below hb
    clear hb hst5 hrg
    rcases hcase with ⟨l, rv, hrp, rfl, hrow⟩ | ⟨hrp, rfl⟩
    rotate_left
    · have hn : O = none := by
        refine HBAD.out ?_
        rcases ha with ⟨_, h⟩ | ⟨_, h, _⟩
        · have e := behind_some h
          subst e
          rcases hok with ⟨_, h2⟩ | ⟨_, h2⟩
          · exact polyQ_ring h2 hrp
          · exact polyQ_shut h2
        · cases t' with
          | nil => rfl
          | cons c t' => exact polyQ_not (fun e => by rw [e] at h; simp [behind] at h)
      subst hn
      have z0 := hst6.out
      cases a <;> cases ok
      all_goals
        go_wp2_with (refine wpList_store_block rfl 29 (.tmp 2) (.tmp 99) rfl w.heap.size #[.bool false, .int .i64 0, .int .i64 0, .int .i64 0, .int .i64 0, .slice none 0 0] rfl rfl z0 rfl (by kernel_rfl) rfl ?_; rintro wz hWz)
        have kz := cell_at hWz.here
        refine bodyPost_ret (by first | (simp [results, Tryz.results13, go_sem, kz]; done) | (simp [results, Tryz.results13, go_sem, kz]; rfl)) rfl ⟨rfl, hst6.low.trans (hWz.below _ (Nat.le_refl _))⟩
    · rcases ha with ⟨rfl, h⟩ | ⟨rfl, h, rfl⟩
      rotate_left
      · have hn : O = none := by
          refine HBAD.out ?_
          cases op with
          | nil => rfl
          | cons c t' => exact polyQ_not (fun e => by rw [e] at h; simp [behind] at h)
        subst hn
        have z0 := hst6.out
        cases ok
        all_goals
          go_wp2_with (refine wpList_store_block rfl 29 (.tmp 2) (.tmp 99) rfl w.heap.size #[.bool false, .int .i64 0, .int .i64 0, .int .i64 0, .int .i64 0, .slice none 0 0] rfl rfl z0 rfl (by kernel_rfl) rfl ?_; rintro wz hWz)
          have kz := cell_at hWz.here
          refine bodyPost_ret (by first | (simp [results, Tryz.results13, go_sem, kz]; done) | (simp [results, Tryz.results13, go_sem, kz]; rfl)) rfl ⟨rfl, hst6.low.trans (hWz.below _ (Nat.le_refl _))⟩
      · have e := behind_some h
        rcases hok with ⟨rfl, hcut⟩ | ⟨rfl, hcut⟩
        rotate_left
        · have hn : O = none := HBAD.out (by rw [e]; exact polyQ_shut hcut)
          subst hn
          have z0 := hst6.out
          go_wp2_with (refine wpList_store_block rfl 29 (.tmp 2) (.tmp 99) rfl w.heap.size #[.bool false, .int .i64 0, .int .i64 0, .int .i64 0, .int .i64 0, .slice none 0 0] rfl rfl z0 rfl (by kernel_rfl) rfl ?_; rintro wz hWz)
          have kz := cell_at hWz.here
          refine bodyPost_ret (by first | (simp [results, Tryz.results13, go_sem, kz]; done) | (simp [results, Tryz.results13, go_sem, kz]; rfl)) rfl ⟨rfl, hst6.low.trans (hWz.below _ (Nat.le_refl _))⟩
        · subst e
          have hll : body.length + left.length + 1 = op.length := by
            have := (cutC_some hcut).1
            rw [this]
            simp
            omega
          have hol : op.length + 1 = ([40] ++ op).length := by simp
          have HCUT := Hd.mk (And.intro hcut (And.intro hrp (And.intro hll hol)))
          obtain ⟨i1, hi1, hz0, hz1, hz2⟩ := info_parts infoRingW
          have hu : Tryz.prog.underlying 27 = some (.slice 30) := by kernel_rfl
          obtain ⟨A, cp, rfl, _⟩ := hrow
          have hrow : RowN w6 (.slice A l.length cp) l := ⟨A, cp, rfl, by assumption⟩
          have cb := cell_at hst6.buf
          have hsz6 := lt_of_block hst6.buf
          have HST := Hd.mk hst6
          have HROW := Hd.mk hrow
          have hil2 : Ls.length ≤ 1100000 := by have := HL.out; omega
          clear hcut hrp hrow hst6 h htl hopl hll hol
          go_wp2_with (at_builtin; refine wpList_append_own_at _ rfl (.tmp 101) (.tmp 103) 27 rfl (w.heap.size + 2) 30 i1 (.slice none 0 0) 1 24 hu hi1 hz0 hz1 hz2 rfl (by decide) v Ls.length vs rfl (HST.out.own.alloc _) ⟨w6.heap.size, 0, none⟩ 1 1 [.slice A l.length cp] rfl rfl (cell_one_new _ _ _) ?c2 ?b1 ?b2 ?b3 ?go)
          case c2 => intro u hu; simp at hu; subst hu; rfl
          case b1 => unfold maxLen; omega
          case b2 => omega
          case b3 => simp; omega
          case go =>
            intro v' w7 hown' hgrow _ hat
            obtain ⟨gg, cc, rfl⟩ : ∃ gg cc, v' = .slice (some ⟨gg, 0, none⟩) (Ls.length + 1) cc := by
              rcases hown'.2 with ⟨_, h0⟩ | ⟨g', c', cur', e, _⟩
              · omega
              · exact ⟨g', c', e⟩
            obtain ⟨hst8, hc8, hf8⟩ := HST.out.push HROW.out hown' hgrow
            have HS8 := Hd.mk hst8
            clear hown' hgrow hat hi1 hz0 hz1 hz2 hu HST HROW cb hst8
            by_cases hlast : left = [41]
            · subst hlast
              have hQ : polyQ r0 = some (Ls ++ [l]) := by
                rw [HQ.out]
                show (polyQ (40 :: op)).map _ = _
                rw [polyQ_last HCUT.out.1 HCUT.out.2.1]
                rfl
              have hOo : O = some (Ls ++ [l]) := by rw [← HO.out, hQ]
              obtain ⟨e1, hne, hall⟩ := (HPI.out _).1 hOo
              subst hOo
              have htt : total (Ls ++ [l]) ≤ 1100000 := by
                have h5 := total_tail _ hall
                rw [← e1] at h5
                have := HRL.out
                omega
              have hlm : (Ls ++ [l]).length ≤ 1100000 := Nat.le_trans (rings_many hall) htt
              have HCK : Hd (∀ W A' c', RingsIn W A' (Ls ++ [l]) → Calls Tryz.prog 41 #[.agg #[.bool false, .int .i64 0, .int .i64 0, .int .i64 0, .int .i64 0, .slice A' (Ls ++ [l]).length c']] W fun e w' => e = .returned (.int .i64 (if 512 < total (Ls ++ [l]) then 3 else 0)) ∧ Below W.heap.size W w') := ⟨fun W A' c' hR => by
                have h := rcheck_rings (Ls ++ [l]) hne A' c' W hR htt hlm
                rw [checkV_ok hne hall] at h
                exact h⟩
              clear hQ e1 hne hall htt hlm HCUT
              go_upto_region 28 with (fail)
              generalize hW8 : w7.setCell ⟨w.heap.size + 1, 5, none⟩ (.slice (some ⟨gg, 0, none⟩) (Ls.length + 1) cc) = w8 at HS8 ⊢
              have c8 := cell_at HS8.out.buf
              have hlen : (Ls ++ [l]).length = Ls.length + 1 := by simp
              have HR8 : Hd (RingsIn w8 (some ⟨gg, 0, none⟩) (Ls ++ [l])) := ⟨by
                have h5 := HS8.out.own
                rw [← hlen] at h5
                exact rings_of_own h5 HS8.out.rows⟩
              rw [hlen] at HCK
              clear hc8 hf8 hW8
              generalize hRs : Ls ++ [l] = Rs at HCK HR8 HS8 hlen
              have HRS := Hd.mk hRs
              clear hRs
              go_wp2_with fail
              refine (HCK.out _ _ _ HR8.out).mono ?_
              rintro e w9 ⟨rfl, hb⟩
              have hst9 := HS8.out.below hb
              have hR9 := Hd.mk (HR8.out.below hb)
              clear hb HS8 HR8 HCK c8
              have z0 := hst9.out
              have c9 := cell_at hst9.buf
              have HLOW := Hd.mk hst9.low
              have HZ0 := Hd.mk z0
              have HROWS := Hd.mk hst9.rows
              have hown9 := hst9.own
              rw [hlen] at hown9
              have HOWN := Hd.mk hown9
              clear hown9
              clear hst9
              by_cases hbig : 512 < total Rs
              · rw [if_pos hbig]
                have HBIG := Hd.mk hbig
                clear hbig
                go_wp2_with (refine wpList_store_block rfl 29 (.tmp 2) (.tmp 121) rfl w.heap.size #[.bool false, .int .i64 0, .int .i64 0, .int .i64 0, .int .i64 0, .slice none 0 0] rfl rfl z0 rfl (by kernel_rfl) rfl ?_; rintro wz hWz)
                have kz := cell_at hWz.here
                refine bodyPost_ret (by first | (simp [results, Tryz.results13, go_sem, kz]; done) | (simp [results, Tryz.results13, go_sem, kz]; rfl)) rfl ?_
                rw [HRS.out]
                unfold PolP
                rw [if_pos HBIG.out]
                exact ⟨rfl, HLOW.out.trans (hWz.below _ (Nat.le_refl _))⟩
              · rw [if_neg hbig]
                have HBIG := Hd.mk hbig
                clear hbig
                go_wp2_with (refine wpList_store_block rfl 29 (.tmp 2) (.tmp 123) rfl w.heap.size #[.bool false, .int .i64 0, .int .i64 0, .int .i64 0, .int .i64 0, .slice (some ⟨gg, 0, none⟩) (Ls.length + 1) cc] rfl rfl z0 rfl (by kernel_rfl) rfl ?_; rintro wz hWz)
                have kz := cell_at hWz.here
                refine bodyPost_ret (by first | (simp [results, Tryz.results13, go_sem, kz]; done) | (simp [results, Tryz.results13, go_sem, kz]; rfl)) rfl ?_
                rw [HRS.out]
                unfold PolP
                rw [if_neg HBIG.out]
                refine ⟨some ⟨gg, 0, none⟩, cc, by rw [hlen], ?_, HLOW.out.trans (hWz.below _ (Nat.le_refl _))⟩
                refine rings_of_own (base := w.heap.size + 2) (c := cc) (vs := _) ?_ (HROWS.out.kept (NKept.wr hWz HZ0.out (by decide)))
                rw [hlen]
                exact HOWN.out.kept hWz.grown (own_ne HOWN.out HZ0.out (by decide))
            · have hne41 : ((bs left).toList == (⟨#[41]⟩ : ByteArray).toList) = false := by rw [ByteArray.toList_eq, ByteArray.toList_eq]; simpa using hlast
              have hne41b : (left == [41]) = false := by simpa using hlast
              have HLS := Hd.mk hlast
              have hllen : left.length ≤ 1100000 := by have := HCUT.out.2.2; have := HL.out; omega
              clear hlast
              go_upto_region 24 with (fail)
              generalize w7.setCell ⟨w.heap.size + 1, 5, none⟩ (.slice (some ⟨gg, 0, none⟩) (Ls.length + 1) cc) = w8 at HS8 ⊢
              have hbg := rbegins_any left [44] hllen (by decide) w8
              clear hc8 hf8 hne41 hne41b
              go_wp2_with fail
              refine hbg.mono ?_
              rintro e w9 ⟨⟨nx, d, hd, rfl⟩, rfl⟩
              clear hbg
              rcases hd with ⟨rfl, h⟩ | ⟨rfl, h, rfl⟩
              · have e := behind_some h
                have hnl : nx.length + 1 = left.length := by rw [e]; simp
                have HQN : Hd (polyQ r0 = (polyQ nx).map ((Ls ++ [l]) ++ ·)) := ⟨by
                  rw [HQ.out]
                  show (polyQ (40 :: op)).map _ = _
                  rw [polyQ_next (next := nx) (by rw [HCUT.out.1, e]; rfl) HCUT.out.2.1]
                  cases polyQ nx with
                  | none => rfl
                  | some q => simp⟩
                have hib : i ≤ 1048576 := by have := HL.out; omega
                clear h e
                go_wp2
                go_roundw
                case rel => exact ⟨i + 1, nx, Ls ++ [l], _, _, rfl, by go_num, HQN, by have := HCUT.out.2.2; have := HL.out; omega, by have := HL.out; simp; omega, HS8.out⟩
                case measure => have := HL.out; simp [intOf]; omega
              · have hn : O = none := HBAD.out (polyQ_end HCUT.out.1 HCUT.out.2.1 HLS.out h)
                subst hn
                have z0 := HS8.out.out
                clear h
                go_wp2_with (refine wpList_store_block rfl 29 (.tmp 2) (.tmp 115) rfl w.heap.size #[.bool false, .int .i64 0, .int .i64 0, .int .i64 0, .int .i64 0, .slice none 0 0] rfl rfl z0 rfl (by kernel_rfl) rfl ?_; rintro wz hWz)
                have kz := cell_at hWz.here
                refine bodyPost_ret (by first | (simp [results, Tryz.results13, go_sem, kz]; done) | (simp [results, Tryz.results13, go_sem, kz]; rfl)) rfl ⟨rfl, HS8.out.low.trans (hWz.below _ (Nat.le_refl _))⟩
end Go.Proofs.YtfchmikbebdflaaGreatDoor

namespace Go.Proofs.YtfchmikbebdflaaGreatDoor
open Go.RowKit Go.BigFrame Go.Shelf

/-- The reference Parse, of any text. -/
theorem rwparse_any (t : Bs) (ht : t.length ≤ 1100000) (w : World) :
    Calls Tryz.prog 13 #[.string (bs t)] w fun e w' => PaPost w (parseS t).1 (parseS t).2 e w' := by
  by_cases hl : 1048576 < t.length
  · have e : parseS t = (zeroS, 3) := by unfold parseS; rw [if_pos hl]
    rw [e]
    exact (rwparse_long t hl ht w).mono fun _ _ h => PaPost.zero h
  · rcases eat_words t with ⟨_, h1, h2⟩ | ⟨r, h1, _⟩ | ⟨r, h1, h2, _⟩
    · have e : parseS t = (zeroS, 190) := by unfold parseS; rw [if_neg hl, h1]; simp only; rw [h2]
      rw [e]
      exact (rwparse_word t (by omega) h1 h2 w).mono fun _ _ h => PaPost.zero h
    · refine (rwparse_seg t r (by omega) h1 w).mono fun x w' hp => ?_
      have e : parseS t = match segQ r with | some g => (⟨true, g, []⟩, 0) | none => (zeroS, 190) := by unfold parseS; rw [if_neg hl, h1]; try rfl
      rw [e]
      cases hq : segQ r with
      | none => rw [hq] at hp; exact PaPost.zero hp
      | some g => rw [hq] at hp; exact ⟨none, 0, hp.1, rings_nil _, hp.2⟩
    · refine (rwparse_pol t r (by omega) h1 h2 w).mono fun x w' hp => ?_
      have e : parseS t = match polyQ r with | some Ls => if 512 < total Ls then (zeroS, 3) else (⟨false, ((0, 0), (0, 0)), Ls⟩, 0) | none => (zeroS, 190) := by unfold parseS; rw [if_neg hl, h1]; simp only; rw [h2]; try rfl
      rw [e]
      cases hq : polyQ r with
      | none => rw [hq] at hp; exact PaPost.zero hp
      | some Ls =>
        rw [hq] at hp
        simp only at hp ⊢
        unfold PolP at hp
        by_cases hb : 512 < total Ls
        · rw [if_pos hb] at hp ⊢
          exact PaPost.zero hp
        · rw [if_neg hb] at hp ⊢
          obtain ⟨A, c, h1, h2, h3⟩ := hp
          exact ⟨A, c, h1, h2, h3⟩
def rowOf (W : World) (A : Option Addr) (vs : List Value) : Prop := CellsIn W A vs
set_option maxRecDepth 100000 in
set_option maxHeartbeats 8000000 in
/-- Same, of the same shapes. -/
theorem rsame_eq (is : Bool) (g0 g1 g2 g3 : Int) (Ls : List (List Nd)) (hl : Ls.length ≤ 1100000) (ht : total Ls ≤ 1100000) (A A' : Option Addr) (c c' : Nat) (w : World) (hR : RingsIn w A Ls) (hR' : RingsIn w A' Ls) :
    Calls Tryz.prog 14 #[.agg #[.bool is, .int .i64 g0, .int .i64 g1, .int .i64 g2, .int .i64 g3, .slice A Ls.length c], .agg #[.bool is, .int .i64 g0, .int .i64 g1, .int .i64 g2, .int .i64 g3, .slice A' Ls.length c']] w fun e w' => e = .returned (.bool true) ∧ Below w.heap.size w w' := by
  obtain ⟨vs, hcl, hro⟩ := hR
  obtain ⟨us, hcu, hru⟩ := hR'
  have HV := Hd.mk (And.intro hcl hro)
  have HU := Hd.mk (And.intro hcu hru)
  have hvl := hro.1
  have hul := hru.1
  have HT := Hd.mk ht
  clear hcl hro hcu hru ht
  go_enter Tryz.func14, Tryz.ntmps14
  go_upto_region 1 with (fail)
  refine abs_wp (fun W => W.heap[w.heap.size]? = some (.cells #[.bool is, .int .i64 g0, .int .i64 g1, .int .i64 g2, .int .i64 g3, .slice A Ls.length c] 29 (0, 0)) ∧ W.heap[w.heap.size + 1]? = some (.cells #[.bool is, .int .i64 g0, .int .i64 g1, .int .i64 g2, .int .i64 g3, .slice A' Ls.length c'] 29 (0, 0)) ∧ Below w.heap.size w W) ⟨heap_old (heap_new _ _) _, heap_at (by simp) _, below_two w _ _⟩ fun W0 ⟨z0, z1, hB⟩ => ?_
  have c0 := cell_at z0
  have c1 := cell_at z1
  have hbb : (is != is) = false := by simp
  have hbe : (is == is) = true := by simp
  go_wp2
  go_loopw [5] (fun iv wr => ∃ i : Nat, iv = .int .i64 i ∧ i ≤ Ls.length ∧ wr.heap[w.heap.size]? = some (.cells #[.bool is, .int .i64 g0, .int .i64 g1, .int .i64 g2, .int .i64 g3, .slice A Ls.length c] 29 (0, 0)) ∧ wr.heap[w.heap.size + 1]? = some (.cells #[.bool is, .int .i64 g0, .int .i64 g1, .int .i64 g2, .int .i64 g3, .slice A' Ls.length c'] 29 (0, 0)) ∧ Below w.heap.size w wr) (fun iv _ => Ls.length - (intOf iv).toNat)
  case atStart => exact ⟨0, rfl, Nat.zero_le _, z0, z1, hB⟩
  case round =>
    clear z0 z1 hB c0 c1
    obtain ⟨i, rfl, hi, z0, z1, hB⟩ := hrel
    have c0 := cell_at z0
    by_cases hlt : i < Ls.length
    · have hd1 : decide ((i : Int) < (Ls.length : Int)) = true := by simp; omega
      have hd2 : decide (i < Ls.length) = true := by simp; omega
      obtain ⟨b1, o1, rfl, hcv⟩ := HV.out.1.below hB (by omega)
      obtain ⟨b2, o2, rfl, hcu⟩ := HU.out.1.below hB (by omega)
      obtain ⟨lr, hlr⟩ : ∃ lr, Ls[i]? = some lr := ⟨_, List.getElem?_eq_getElem hlt⟩
      obtain ⟨v, hv⟩ : ∃ v, vs[i]? = some v := ⟨_, List.getElem?_eq_getElem (by omega)⟩
      obtain ⟨u, hu⟩ : ∃ u, us[i]? = some u := ⟨_, List.getElem?_eq_getElem (by omega)⟩
      have q1 := hcv i v hv
      have q2 := hcu i u hu
      obtain ⟨A1, d1, rfl, _, _, hn1⟩ := HV.out.2.2 i v lr hv hlr
      obtain ⟨A2, d2, rfl, _, _, hn2⟩ := HU.out.2.2 i u lr hu hlr
      have hl0 : lr.length ≤ 1100000 := by
        have h1 := total_mem (List.mem_of_getElem? hlr)
        have := HT.out
        omega
      have HN1 := Hd.mk (hn1.below hB)
      have HN2 := Hd.mk (hn2.below hB)
      have l1 := World.block_lt_of_cell? wr _ q1
      have l2 := World.block_lt_of_cell? wr _ q2
      have HZ := Hd.mk (And.intro z0 (And.intro z1 hB))
      clear hcv hcu hlr hv hu hn1 hn2
      go_wp2
      refine region_qt 12 (by kernel_rfl) (by kernel_rfl) fun X _ mk hmk hcl => ?_
      have e0 := mk_cell hmk z0
      have e1 := mk_cell hmk z1
      have e2 : ∀ x : X, (mk x).cell? ⟨b1, o1 + i, none⟩ = some (.slice A1 lr.length d1) := fun x => ((hmk x).cell l1).trans q1
      have e3 : ∀ x : X, (mk x).cell? ⟨b2, o2 + i, none⟩ = some (.slice A2 lr.length d2) := fun x => ((hmk x).cell l2).trans q2
      simp only [List.take_succ_cons, List.take_zero, List.drop_succ_cons, List.drop_zero]
      repeat (go_big_quiet_step (skip))
      refine wpQuiet_nil ?_
      rintro _ ⟨x, rfl⟩
      clear e0 e1 e2 e3
      have hx := hmk x
      clear hcl hmk
      generalize mk x = W6 at hx
      have HB6 := Hd.mk hx
      have y0 := heap_below hx z0
      have y1 := heap_below hx z1
      have p1 := (hx.cell l1).trans q1
      have p2 := (hx.cell l2).trans q2
      clear hx z0 z1 q1 q2 c0
      go_wp2
      go_loopw [6] (fun kv w2 => ∃ k : Nat, kv = .int .i64 k ∧ k ≤ lr.length ∧ Below wr.heap.size wr w2) (fun kv _ => lr.length - (intOf kv).toNat)
      case atStart => exact ⟨0, rfl, Nat.zero_le _, HB6.out⟩
      case round =>
        obtain ⟨k, rfl, hk, hB3⟩ := hrel
        have x0 := heap_below hB3 HZ.out.1
        have x1 := heap_below hB3 HZ.out.2.1
        have r1 := (hB3.cell l1).trans ((HB6.out.cell l1).symm.trans p1)
        have r2 := (hB3.cell l2).trans ((HB6.out.cell l2).symm.trans p2)
        have c0 := cell_at x0
        by_cases hkl : k < lr.length
        · have hdk : decide ((k : Int) < (lr.length : Int)) = true := by simp; omega
          have hdk2 : decide (k < lr.length) = true := by simp; omega
          obtain ⟨f1, g1', rfl, hc1⟩ := (HN1.out.below hB3) (by omega)
          obtain ⟨f2, g2', rfl, hc2⟩ := (HN2.out.below hB3) (by omega)
          obtain ⟨⟨x, y⟩, hp⟩ : ∃ p, lr[k]? = some p := ⟨_, List.getElem?_eq_getElem hkl⟩
          obtain ⟨s1, s2⟩ := hc1 k (x, y) hp
          obtain ⟨s3, s4⟩ := hc2 k (x, y) hp
          have m1 := World.block_lt_of_cell? _ _ r1
          have m2 := World.block_lt_of_cell? _ _ r2
          have m3 := World.block_lt_of_cell? _ _ s1
          have m4 := World.block_lt_of_cell? _ _ s3
          have HB3 := Hd.mk hB3
          clear hc1 hc2 hp hB3
          go_wp2
          refine region_qt 16 (by kernel_rfl) (by kernel_rfl) fun X _ mk hmk hcl => ?_
          have e0 := mk_cell hmk x0
          have e1 := mk_cell hmk x1
          have e2 : ∀ z : X, (mk z).cell? ⟨b1, o1 + i, none⟩ = some _ := fun z => ((hmk z).cell m1).trans r1
          have e3 : ∀ z : X, (mk z).cell? ⟨b2, o2 + i, none⟩ = some _ := fun z => ((hmk z).cell m2).trans r2
          have e4 : ∀ z : X, (mk z).cell? ⟨f1, g1' + k * 2, none⟩ = some _ := fun z => ((hmk z).cell m3).trans s1
          have e5 : ∀ z : X, (mk z).cell? ⟨f1, g1' + k * 2 + 1, none⟩ = some _ := fun z => ((hmk z).cell m3).trans s2
          have e6 : ∀ z : X, (mk z).cell? ⟨f2, g2' + k * 2, none⟩ = some _ := fun z => ((hmk z).cell m4).trans s3
          have e7 : ∀ z : X, (mk z).cell? ⟨f2, g2' + k * 2 + 1, none⟩ = some _ := fun z => ((hmk z).cell m4).trans s4
          simp only [List.take_succ_cons, List.take_zero, List.drop_succ_cons, List.drop_zero]
          repeat (go_big_quiet_step (skip))
          refine wpQuiet_nil ?_
          rintro _ ⟨x, rfl⟩
          clear e0 e1 e2 e3 e4 e5 e6 e7
          have hx := hmk x
          clear hcl hmk
          generalize mk x = W9 at hx
          have hB9 := below_on HB3.out hx
          clear hx x0 x1 r1 r2 c0
          go_wp2
          go_roundw
          case rel => exact ⟨k + 1, by go_num, by omega, hB9⟩
          case measure => simp [intOf]; omega
        · obtain rfl : k = lr.length := by omega
          have hdk : decide (((lr.length : Nat) : Int) < (lr.length : Int)) = false := by simp
          have HF := Hd.mk (And.intro x0 (And.intro x1 (below_on HZ.out.2.2 hB3)))
          clear hB3
          go_wp2
          go_roundw
          case rel => exact ⟨i + 1, by go_num, by omega, HF.out.1, HF.out.2.1, HF.out.2.2⟩
          case measure => simp [intOf]; omega
    · obtain rfl : i = Ls.length := by omega
      have hd1 : decide (((Ls.length : Nat) : Int) < (Ls.length : Int)) = false := by simp
      go_wp2
      go_ret
      exact ⟨rfl, hB⟩
end Go.Proofs.YtfchmikbebdflaaGreatDoor

namespace Go.Proofs.YtfchmikbebdflaaGreatDoor
open Go.RowKit Go.BigFrame Go.Shelf

theorem itoa_dig {n : Nat} (h : n < 10) : Lib.itoa (n : Int) = [48 + n.toUInt8] := by
  unfold Lib.itoa
  rw [if_neg (by omega), Int.toNat_natCast]
  unfold Lib.decDigits
  simp [h]
theorem seg0_text : textL ⟨true, ((0, 0), (1, 2)), []⟩ = [83, 69, 71, 77, 69, 78, 84, 40, 48, 32, 48, 44, 49, 32, 50, 41] := by
  rw [textL, if_pos rfl]
  show segW ++ ((segS 0 0 1 2).data.toList ++ [41]) = _
  rw [seg_list, node_list, node_list]
  rw [show Lib.itoa 0 = [48] from itoa_dig (n := 0) (by decide), show Lib.itoa 1 = [49] from itoa_dig (n := 1) (by decide), show Lib.itoa 2 = [50] from itoa_dig (n := 2) (by decide)]
  rfl
theorem three_text : textL ⟨false, ((0, 0), (0, 0)), [[(0, 0), (2, 0), (0, 2)]]⟩ = [80, 79, 76, 89, 71, 79, 78, 40, 40, 48, 32, 48, 44, 50, 32, 48, 44, 48, 32, 50, 44, 48, 32, 48, 41, 41] := by
  rw [textL, if_neg (by simp)]
  show polW ++ tailL [[(0, 0), (2, 0), (0, 2)]] = _
  rw [tailL_one]
  show polW ++ 40 :: (Lib.join [nodeL (0, 0), nodeL (2, 0), nodeL (0, 2), nodeL (0, 0)] [44] ++ [41, 41]) = _
  unfold nodeL
  rw [node_list, node_list, node_list]
  simp only
  rw [show Lib.itoa 0 = [48] from itoa_dig (n := 0) (by decide), show Lib.itoa 2 = [50] from itoa_dig (n := 2) (by decide)]
  rfl
theorem open_ring : ringP [48, 32, 48, 44, 50, 32, 48, 44, 48, 32, 50] = none := by
  cases h : ringP [48, 32, 48, 44, 50, 32, 48, 44, 48, 32, 50] with
  | none => rfl
  | some l =>
    obtain ⟨h1, h2⟩ := ringP_some h
    have hl := h2.1
    have e := congrArg (fun b => (splitC 44 b).length) h1
    simp only [bodyL] at e
    rw [split_join 44 _ (fun h0 => by have := congrArg List.length h0; rw [List.length_map, List.length_append, List.length_nil] at this; omega) (fun p hp => by
      obtain ⟨q, _, rfl⟩ := List.mem_map.1 hp
      exact nodeL_no q (by decide) (by decide))] at e
    rw [List.length_map, List.length_append, List.length_take] at e
    have e2 : (splitC 44 [48, 32, 48, 44, 50, 32, 48, 44, 48, 32, 50]).length = 3 := by decide
    omega
theorem open_parse : parseS [80, 79, 76, 89, 71, 79, 78, 40, 40, 48, 32, 48, 44, 50, 32, 48, 44, 48, 32, 50, 41, 41] = (zeroS, 190) := by
  unfold parseS
  rw [if_neg (by decide)]
  rw [show behind segW [80, 79, 76, 89, 71, 79, 78, 40, 40, 48, 32, 48, 44, 50, 32, 48, 44, 48, 32, 50, 41, 41] = none by decide]
  simp only
  rw [show behind polW [80, 79, 76, 89, 71, 79, 78, 40, 40, 48, 32, 48, 44, 50, 32, 48, 44, 48, 32, 50, 41, 41] = some [40, 48, 32, 48, 44, 50, 32, 48, 44, 48, 32, 50, 41, 41] by decide]
  simp only
  rw [polyQ_ring (body := [48, 32, 48, 44, 50, 32, 48, 44, 48, 32, 50]) (left := [41]) (by decide) open_ring]
theorem gap_parse : parseS [80, 79, 76, 89, 71, 79, 78, 32, 40, 40, 48, 32, 48, 44, 50, 32, 48, 44, 48, 32, 50, 44, 48, 32, 48, 41, 41] = (zeroS, 190) := by
  unfold parseS
  rw [if_neg (by decide)]
  rw [show behind segW [80, 79, 76, 89, 71, 79, 78, 32, 40, 40, 48, 32, 48, 44, 50, 32, 48, 44, 48, 32, 50, 44, 48, 32, 48, 41, 41] = none by decide]
  simp only
  rw [show behind polW [80, 79, 76, 89, 71, 79, 78, 32, 40, 40, 48, 32, 48, 44, 50, 32, 48, 44, 48, 32, 50, 44, 48, 32, 48, 41, 41] = none by decide]

set_option maxHeartbeats 1000000 in
/-- num: the number itself. -/
theorem numw_any (n : Int) (w : World) :
    Calls Tryz.prog 11 #[.int .i64 n] w fun e w' => e = .returned (.int .i64 n) ∧ w' = w := by
  go_enter Tryz.func11, Tryz.ntmps11
  go_wp2
  go_ret
  exact ⟨rfl, rfl⟩
/-- Where nothing is given up with, the deferred closure leaves all as it is. -/
theorem multi_idle (p q : Addr) (w : World) :
    CallsD Tryz.prog 42 #[.pointer (some p), .pointer (some q)] .returning w fun e u' w' => e = .returned (.tuple #[]) ∧ u' = .returning ∧ w' = w := by
  refine callsD_of_wpS Tryz.func42 rfl fun c₀ cs hu => ?_
  apply wpS_seq
  apply wpS_region
  simp [wpOpsS, go_sem, recoverD, hu, Tryz.ntmps42, Exit.thenS]
  refine wpS_of_wp ?_
  go_wp2
  cases c₀
  simp_all [bodyPostS, results, Tryz.results42]
set_option maxRecDepth 100000 in
set_option maxHeartbeats 4000000 in
/-- Multi, of none. -/
theorem multi_none (w : World) :
    Calls Tryz.prog 15 #[.slice none 0 0] w fun e w' => e = .returned (.tuple #[.string ⟨#[77, 85, 76, 84, 73, 80, 79, 76, 89, 71, 79, 78, 32, 69, 77, 80, 84, 89]⟩, .int .i64 0]) ∧ Below w.heap.size w w' := by
  have hmf : ∀ (fn : Fn) (first cap : Array Value) (w : World), (Instr.makeFunc fn first cap).run Tryz.prog w = .ok (.func fn first cap) w := fun _ _ _ _ => rfl
  go_enter_defers Tryz.func15, Tryz.ntmps15
  go_upto_region 3 with (fail)
  refine abs_wp (fun W => W.heap[w.heap.size]? = some (.cells #[.string ⟨#[]⟩] 9 (0, 0)) ∧ W.heap[w.heap.size + 1]? = some (.cells #[.int .i64 0] 31 (0, 0)) ∧ Below w.heap.size w W) ⟨heap_old (heap_new _ _) _, heap_at (by simp) _, ((Below.refl _ _).alloc (Nat.le_refl _) _).alloc (by simp) _⟩ fun W4 ⟨y0, y1, hB⟩ => ?_
  have hW2 := wr_one (v' := .string ⟨#[77, 85, 76, 84, 73, 80, 79, 76, 89, 71, 79, 78, 32, 69, 77, 80, 84, 89]⟩) y0 (Below.refl _ _)
  have q1 := hW2.other _ _ (by omega) y1
  have c0 := cell_at y0
  have f0 := frozen_at y0
  have c1 := cell_at q1
  have f1 := frozen_at q1
  go_wp2
  have hB15 := hB.trans (hW2.below _ (Nat.le_refl _))
  have hW3 := wr_one (v' := .int .i64 0) q1 (Below.refl _ _)
  refine leaves_cons (f := 42) (args := #[.pointer (some ⟨w.heap.size, 0, none⟩), .pointer (some ⟨w.heap.size + 1, 0, none⟩)]) (by simp) (by simp [go_sem]) ?_
  refine (multi_idle _ _ _).mono ?_
  rintro e u' w9 ⟨rfl, rfl, rfl⟩
  refine abs_leaves (fun W => W.heap[w.heap.size]? = some (.cells #[.string ⟨#[77, 85, 76, 84, 73, 80, 79, 76, 89, 71, 79, 78, 32, 69, 77, 80, 84, 89]⟩] 9 (0, 0)) ∧ W.heap[w.heap.size + 1]? = some (.cells #[.int .i64 0] 31 (0, 0)) ∧ Below w.heap.size w W) ⟨hW3.other _ _ (by omega) hW2.here, hW3.here, hB15.trans (hW3.below _ (by omega))⟩ fun W ⟨y1, y2, hB⟩ => ?_
  have c1 := cell_at y1
  have c2 := cell_at y2
  simp [Leaves, settle, results, Tryz.results15, go_sem, c1, c2]
  exact hB
end Go.Proofs.YtfchmikbebdflaaGreatDoor

namespace Go.Proofs.YtfchmikbebdflaaGreatDoor
open Go.RowKit Go.BigFrame Go.Shelf

set_option maxRecDepth 100000 in
set_option maxHeartbeats 4000000 in
/-- three: a shape of one ring. -/
theorem three_any (w : World) :
    Calls Tryz.prog 19 #[] w fun e w' => ∃ A c, e = .returned (.agg (shV ⟨false, ((0, 0), (0, 0)), [[(0, 0), (2, 0), (0, 2)]]⟩ A c)) ∧ RingsIn w' A [[(0, 0), (2, 0), (0, 2)]] ∧ Below w.heap.size w w' := by
  go_enter Tryz.func19, Tryz.ntmps19
  go_wp2_with fail
  refine abs_post (fun W => W.heap[w.heap.size]? = some (.cells #[.bool false, .int .i64 0, .int .i64 0, .int .i64 0, .int .i64 0, .slice (some ⟨w.heap.size + 1 + 1, 0, none⟩) 1 1] 29 (0, 0)) ∧ W.heap[w.heap.size + 1]? = some (.cells #[.int .i64 0, .int .i64 0, .int .i64 2, .int .i64 0, .int .i64 0, .int .i64 2] 24 (0, 0)) ∧ W.heap[w.heap.size + 1 + 1]? = some (.cells #[.slice (some ⟨w.heap.size + 1, 0, none⟩) 3 3] 30 (0, 0)) ∧ Below w.heap.size w W) ⟨heap_old (heap_old (heap_new _ _) _) _, heap_old (heap_at (by simp) _) _, heap_at (by simp) _, (((Below.refl _ _).alloc (Nat.le_refl _) _).alloc (by simp) _).alloc (by simp; omega) _⟩ fun W ⟨y0, y1, y2, hB⟩ => ?_
  have c0 := cell_at y0
  simp [bodyPost, results, Tryz.results19, go_sem, c0]
  refine ⟨some ⟨w.heap.size + 1 + 1, 0, none⟩, ⟨1, rfl⟩, ⟨[.slice (some ⟨w.heap.size + 1, 0, none⟩) 3 3], fun _ => ⟨w.heap.size + 1 + 1, 0, rfl, fun j v hj => ?_⟩, rfl, fun j v l hv hl => ?_⟩, hB⟩
  · match j, hj with
    | 0, hj =>
      cases hj
      rw [cell_at y2]
      rfl
  · match j, hv, hl with
    | 0, hv, hl =>
      cases hv
      cases hl
      refine ⟨some ⟨w.heap.size + 1, 0, none⟩, 3, rfl, by decide, by decide, fun _ => ⟨w.heap.size + 1, 0, rfl, fun j p hj => ?_⟩⟩
      rw [cell_at y1, cell_at y1]
      match j, hj with
      | 0, hj => cases hj; exact ⟨rfl, rfl⟩
      | 1, hj => cases hj; exact ⟨rfl, rfl⟩
      | 2, hj => cases hj; exact ⟨rfl, rfl⟩
set_option maxRecDepth 100000 in
set_option maxHeartbeats 4000000 in
/-- works: true. -/
theorem wkt_works (w : World) (hV : Vars w) :
    Calls Tryz.prog 7 #[] w fun e w' => e = .returned (.bool true) ∧ Below w.heap.size w w' := by
  have HV := Hd.mk hV
  have HT1 : Hd (∀ W, Vars W → Calls Tryz.prog 8 #[.agg #[.bool true, .int .i64 0, .int .i64 0, .int .i64 1, .int .i64 2, .slice none 0 0]] W fun e w' => e = .returned (.tuple #[.string ⟨#[83, 69, 71, 77, 69, 78, 84, 40, 48, 32, 48, 44, 49, 32, 50, 41]⟩, .int .i64 0]) ∧ Below W.heap.size W w') := ⟨fun W h => by
    have h1 := wtext_seg ((0, 0), (1, 2)) (by decide) none 0 W h
    rw [seg0_text] at h1
    exact h1⟩
  have hok : ∀ l ∈ [([(0, 0), (2, 0), (0, 2)] : List Nd)], RingOk l := by
    intro l hl
    rw [List.mem_singleton] at hl
    subst hl
    exact ⟨by decide, by decide⟩
  have hT : TextOk [[(0, 0), (2, 0), (0, 2)]] := ⟨by simp, by decide, by
    intro l hl
    rw [List.mem_singleton] at hl
    subst hl
    exact ⟨by decide, by decide, fun p hp => node_64 ((hok _ (by simp)).2 p hp)⟩⟩
  have HT2 : Hd (∀ A c W, Vars W → RingsIn W A [[(0, 0), (2, 0), (0, 2)]] → Calls Tryz.prog 8 #[.agg (shV ⟨false, ((0, 0), (0, 0)), [[(0, 0), (2, 0), (0, 2)]]⟩ A c)] W fun e w' => e = .returned (.tuple #[.string ⟨#[80, 79, 76, 89, 71, 79, 78, 40, 40, 48, 32, 48, 44, 50, 32, 48, 44, 48, 32, 50, 44, 48, 32, 48, 41, 41]⟩, .int .i64 0]) ∧ Below W.heap.size W w') := ⟨fun A c W h hR => by
    have h1 := wtext_rings [[(0, 0), (2, 0), (0, 2)]] hT hok (by decide) A c W h hR
    rw [three_text] at h1
    exact h1⟩
  have HP1 : Hd (∀ W, Vars W → Calls Tryz.prog 9 #[.string ⟨#[80, 79, 76, 89, 71, 79, 78, 40, 40, 48, 32, 48, 44, 50, 32, 48, 44, 48, 32, 50, 41, 41]⟩] W fun e w' => PaPost W zeroS 190 e w') := ⟨fun W h => by
    have h1 := wparse_any [80, 79, 76, 89, 71, 79, 78, 40, 40, 48, 32, 48, 44, 50, 32, 48, 44, 48, 32, 50, 41, 41] (by decide) W h
    rw [open_parse] at h1
    exact h1⟩
  have HP2 : Hd (∀ W, Vars W → Calls Tryz.prog 9 #[.string ⟨#[80, 79, 76, 89, 71, 79, 78, 32, 40, 40, 48, 32, 48, 44, 50, 32, 48, 44, 48, 32, 50, 44, 48, 32, 48, 41, 41]⟩] W fun e w' => PaPost W zeroS 190 e w') := ⟨fun W h => by
    have h1 := wparse_any [80, 79, 76, 89, 71, 79, 78, 32, 40, 40, 48, 32, 48, 44, 50, 32, 48, 44, 48, 32, 50, 44, 48, 32, 48, 41, 41] (by decide) W h
    rw [gap_parse] at h1
    exact h1⟩
  clear hok hT hV
  go_enter Tryz.func7, Tryz.ntmps7
  go_wp2_with fail
  refine (HT1.out _ HV.out).mono ?_
  rintro e w1 ⟨rfl, hB1⟩
  go_wp2_with fail
  refine (three_any _).mono ?_
  rintro e w2 ⟨A, c, rfl, hR, hb⟩
  have hB2 := below_on hB1 hb
  clear hb hB1
  go_wp2_with fail
  refine (HT2.out A c _ (HV.out.below hB2) hR).mono ?_
  rintro e w3 ⟨rfl, hb⟩
  have hB3 := below_on hB2 hb
  clear hb hB2 hR
  go_wp2_with fail
  refine (HP1.out _ (HV.out.below hB3)).mono ?_
  rintro e w4 ⟨A4, c4, rfl, _, hb⟩
  have hB4 := below_on hB3 hb
  clear hb hB3
  unfold shV zeroS
  go_wp2_with fail
  have hB5 := hB4.alloc hB4.size (.cells #[.bool false, .int .i64 0, .int .i64 0, .int .i64 0, .int .i64 0, .slice A4 0 c4] 29)
  refine (HP2.out _ (HV.out.below hB5)).mono ?_
  rintro e w5 ⟨A5, c5, rfl, _, hb⟩
  have hB6 := below_on hB5 hb
  clear hb hB5 hB4
  unfold shV zeroS
  go_wp2_with fail
  have hB7 := hB6.alloc hB6.size (.cells #[.bool false, .int .i64 0, .int .i64 0, .int .i64 0, .int .i64 0, .slice A5 0 c5] 29)
  refine (multi_none _).mono ?_
  rintro e w6 ⟨rfl, hb⟩
  have hB8 := below_on hB7 hb
  clear hb hB7 hB6
  go_wp2_with (go_at_call 11; refine (numw_any _ _).mono ?_; rintro e w7 ⟨rfl, rfl⟩)
  go_ret
  exact ⟨rfl, hB8⟩
end Go.Proofs.YtfchmikbebdflaaGreatDoor
