/-
  Tags: Text. Conditions stand in each theorem.
-/
import Derived.Shelf.RegionOpen
import Derived.Test.YtfgdichdddknlaaDoorGv4
import Derived.Test.YtfgdichdddknlaaDoorShf
namespace Go.Proofs.YtfgdichdddknlaaDoor
open Go.RowKit Go.BigFrame Go.Shelf
attribute [local go_sem] Oper.semAt_some
attribute [-go_sem] Builtin.append_

abbrev BsT := List UInt8
def bsT (l : BsT) : ByteArray := ⟨l.toArray⟩
def strV (xs : List BsT) : List Value := xs.map fun x => Value.string (bsT x)
theorem strV_snoc (l : List BsT) (x : BsT) : strV (l ++ [x]) = strV l ++ [.string (bsT x)] := by unfold strV; simp
/-- What Text tells of counts: the numerals. -/
def strsT (L : List Ct) : List BsT := L.flatMap fun c => List.replicate c.2.toNat (Lib.decDigits c.1.toNat)
def TextI (w : World) (k base : Nat) (xs : List BsT) (W : World) : Prop := ∃ v, W.heap[k]? = some (.cells #[v] 66 (0, 0)) ∧ W.ownsRow base 9 1 v xs.length (strV xs) ∧ Below w.heap.size w W
theorem TextI.alloc {w W : World} {k base : Nat} {L : List BsT} (h : TextI w k base L W) (o : Obj) : TextI w k base L (W.alloc o) := by
  obtain ⟨v, h1, h2, h3⟩ := h
  exact ⟨v, heap_old h1 _, h2.alloc _, h3.alloc h3.size _⟩
theorem TextI.putObj {w W : World} {k base : Nat} {L : List BsT} (h : TextI w k base L W) {r : Nat} (hk : k ≠ r) (hr : r < base) (hw : w.heap.size ≤ r) (o : Obj) : TextI w k base L (W.putObj r o) := by
  obtain ⟨v, h1, h2, h3⟩ := h
  exact ⟨v, (World.putObj_heap_other hk).trans h1, own_putB h2 hr o, h3.trans (below_putObj _ _ _ hw)⟩
theorem own_slice {W : World} {base : Nat} {e : TypeId} {size n : Nat} {v : Value} {xs : List Value} (h : W.ownsRow base e size v n xs) : ∃ A c, v = .slice A n c := by
  rcases h.2 with ⟨rfl, rfl⟩ | ⟨g, cap, cur, rfl, _⟩
  · exact ⟨none, 0, rfl⟩
  · exact ⟨_, cap, rfl⟩
theorem tjoin_own {W : World} {base : Nat} {v : Value} {ps : List BsT} (hne : ps ≠ []) (hl : ps.length ≤ 1100000) (hj : (Lib.join ps [32]).length ≤ 100000) (h : W.ownsRow base 9 1 v ps.length (strV ps)) :
    Calls Tryd.prog 32 #[v, .string ⟨#[32]⟩] W fun e w' => e = .returned (.string (bsT (Lib.join ps [32]))) ∧ Below W.heap.size W w' := by
  have hpos := List.length_pos_iff.2 hne
  obtain ⟨hlen, h2⟩ := h
  have ecomp : (fun s : ByteArray => s.data.toList) ∘ bsT = id := by funext x; simp [bsT]
  rcases h2 with ⟨_, h0⟩ | ⟨g, cap, cur, rfl, _, hg, hc, hm, hs, ht⟩
  · omega
  · have e0 : (ps.map bsT).length = ps.length := by simp
    have h3 := sh_strings_Join g 0 cap (ps.map bsT) ⟨#[32]⟩ W (fun j x hx => by
      rw [Nat.zero_add, cell_at hg]
      rw [List.getElem?_map] at hx
      obtain ⟨q, hq, rfl⟩ := Option.map_eq_some_iff.1 hx
      have h4 : (strV ps)[j]? = some (.string (bsT q)) := by unfold strV; rw [List.getElem?_map, hq]; rfl
      have hjl := (List.getElem?_eq_some_iff.1 hq).1
      rw [← ht, List.getElem?_take, if_pos (by omega)] at h4
      simpa using h4) (lt_of_block hg) (by omega) (by omega) (by
        rw [List.map_map, ecomp, List.map_id]
        show (Lib.join ps [32]).length ≤ _
        omega)
    rw [e0] at h3
    refine h3.mono ?_
    rintro e w' ⟨rfl, hb⟩
    refine ⟨?_, hb⟩
    rw [List.map_map, ecomp, List.map_id]
    rfl
theorem infoStrT : (Tryd.prog.info? 9).map (fun i => (i.zero, i.size, i.bytes)) = some (some (.string ByteArray.empty), 1, 16) := by kernel_rfl
theorem region_abs_i {F : Fence} {m : Nat} {P : Program} {id : Nat} {ops : Array Oper} {dr : Bool} {Q : Exit → Act → World → Prop} {a : Act} {w : World} (Qr : Act → Act → World → Prop)
    (h1 : ∀ K : Act → World → Prop, (∀ a' w', Qr a a' w' → K a' w') → (Code.region id ops dr).wpIn F m P (fun ex a' w' => ex = .normal ∧ K a' w') a w) (h2 : ∀ a' w', Qr a a' w' → Q .normal a' w') : (Code.region id ops dr).wpIn F m P Q a w :=
  wpIn_mono (h1 (fun a' w' => Qr a a' w') (fun _ _ h => h)) (fun ex a' w' h => by obtain ⟨rfl, h⟩ := h; exact h2 a' w' h)
set_option maxRecDepth 100000 in
set_option maxHeartbeats 2000000 in
theorem tg_text (L : List Ct) (hl : L.length ≤ 1000) (hp : ∀ c ∈ L, 0 ≤ c.1 ∧ c.1 < 100 ∧ 0 ≤ c.2 ∧ c.2 ≤ 1000) (hs : ∀ pre, pre <+: L → (strsT pre).length ≤ 1000) (hne : strsT L ≠ []) (hj : (Lib.join (strsT L) [32]).length ≤ 100000) (A : Option Addr) (c : Nat) (w : World) (hN : CtsIn w A L) :
    Calls Tryd.prog 11 #[.agg #[.slice A L.length c]] w fun e w' => e = .returned (.string (bsT (Lib.join (strsT L) [32]))) ∧ Below w.heap.size w w' := by
  have HN := Hd.mk hN
  have HPP := Hd.mk hp
  have HSS := Hd.mk hs
  have HJ : Hd (∀ v W, W.ownsRow w.heap.size 9 1 v (strsT L).length (strV (strsT L)) → Calls Tryd.prog 32 #[v, .string ⟨#[32]⟩] W fun e w' => e = .returned (.string (bsT (Lib.join (strsT L) [32]))) ∧ Below W.heap.size W w') := ⟨fun v W h => tjoin_own hne (Nat.le_trans (hs L (List.prefix_refl _)) (by omega)) hj h⟩
  clear hN hp hs hj hne
  generalize Lib.join (strsT L) [32] = T at HJ ⊢
  refine (callsIn_wide (n := 6)).1 ?_
  refine callsIn_of_wp_marks Tryd.func11 rfl trivial ?_ rfl
  simp only [Tryd.ntmps11, List.size_toArray, List.length_cons, List.length_nil, Nat.reduceAdd, Nat.reduceSub, Array.replicate_succ, Array.replicate_zero, List.push_toArray, List.append_toArray, List.nil_append, List.cons_append]
  refine (wpIn_wide (n := 6)).2 ?_
  go_upto_region 2 with (fail)
  refine abs_wp (fun W => W.heap[w.heap.size]? = some (.cells #[.slice A L.length c] 26 (0, 0)) ∧ W.heap[w.heap.size + 1]? = some (.cells #[.slice none 0 0] 66 (0, 0)) ∧ Below w.heap.size w W) ⟨heap_old (heap_new _ _) _, heap_at (by simp) _, ((Below.refl _ _).alloc (Nat.le_refl _) _).alloc (by simp) _⟩ fun W0 ⟨y0, y1, hB⟩ => ?_
  have c0 := cell_at y0
  go_wp2_with fail
  refine (tg_all A L.length c _).mono ?_
  rintro e wc ⟨bs, rfl, hbs, hge, hb⟩
  have z1 := heap_below hb y1
  have hBc := below_on hB hb
  have HBS := Hd.mk hbs
  have hs1 := lt_of_block z1
  have hsb := lt_of_block hbs
  clear hb hbs hge hB y0 y1 c0
  go_wp2
  refine (wpIn_wide (n := 6)).1 ?_
  refine range_k (by omega) (gf := 27) (lb := #[.pointer (some ⟨bs, 0, none⟩)]) rfl (enters_of Tryd.func27 (by kernel_rfl) rfl)
    (all_seq L A c hl _ bs w.heap.size wc hBc.size HBS.out (fun W' hW' => HN.out.below (hBc.trans hW'))) Below.trans (fun W' o => below_putObj W' _ o (by omega)) (fun _ => rfl)
    (fun pre W' => TextI w (w.heap.size + 1) (wc.heap.size + 2) (strsT pre) W') (fun _ _ _ => False)
    (fun pre A' o h => h.putObj (by omega) (by omega) (by omega) o) (fun pre A' o h => h.alloc o) (fun _ _ _ _ h => h.elim)
    (fun W' hW' => ⟨_, heap_below hW' z1, ⟨rfl, .inl ⟨rfl, rfl⟩⟩, below_on hBc hW'⟩) ?round ?done ?stop
  case round =>
    rintro l' pre ⟨n, q⟩ Wr hpx hI hsr
    have hmem : (n, q) ∈ L := by
      obtain ⟨r, hr⟩ := hpx
      rw [← hr]
      simp
    have hbd := HPP.out _ hmem
    simp only at hbd
    have hln := HSS.out _ hpx
    have HX : Hd (strsT (pre ++ [(n, q)]) = strsT pre ++ List.replicate q.toNat (Lib.decDigits n.toNat)) := ⟨by unfold strsT; simp⟩
    rw [HX.out] at hln
    have HI := Hd.mk hI
    clear hpx hI hmem
    obtain ⟨nn, hnn⟩ : ∃ nn : Nat, n = (nn : Int) := ⟨n.toNat, by omega⟩
    obtain ⟨qq, hqq⟩ : ∃ qq : Nat, q = (qq : Int) := ⟨q.toNat, by omega⟩
    subst hnn hqq
    have hn100 : nn < 100 := by omega
    have hq1000 : qq ≤ 1000 := by omega
    simp only [Int.toNat_natCast] at HX hln
    generalize strsT pre = xs at HI HX hln
    have HF := Hd.mk (fun w => sh_strconv_FormatInt_10_small nn hn100 w)
    obtain ⟨s, hsd⟩ : ∃ s, s = Lib.decDigits nn := ⟨_, rfl⟩
    have e1 : (⟨(Lib.decDigits nn).toArray⟩ : ByteArray) = bsT s := by rw [hsd]; rfl
    rw [e1] at HF
    rw [← hsd] at HX hln
    clear e1 hsd hbd
    unfold encC
    gi_wp2
    refine ⟨KeepR.refl _ _, Below.refl _ _, HI.out, ?_⟩
    rintro o hI
    have hsz2 : wc.heap.size + 1 < (Wr.putObj (wc.heap.size + 1) o).heap.size := by simp; omega
    generalize Wr.putObj (wc.heap.size + 1) o = Wp at hI hsz2 ⊢
    gi_wp2
    gi_loopw [11] (fun iv wr => ∃ k : Nat, iv = .int .i64 k ∧ k ≤ qq ∧ Hd (TextI w (w.heap.size + 1) (wc.heap.size + 2) (xs ++ List.replicate k s) wr) ∧ KeepR wc.heap.size Wp wr ∧ Below w.heap.size Wp wr) (fun iv _ => qq - (intOf iv).toNat)
    case atStart => exact ⟨0, rfl, Nat.zero_le _, ⟨by simpa using hI⟩, KeepR.refl _ _, Below.refl _ _⟩
    case round =>
      obtain ⟨k, rfl, hk, HT, hK, hB⟩ := hrel
      by_cases hlt : k < qq
      · have hd1 : decide ((k : Int) < (qq : Int)) = true := by simp; omega
        have HY : Hd (xs ++ List.replicate (k + 1) s = (xs ++ List.replicate k s) ++ [s]) := ⟨by rw [List.replicate_succ', List.append_assoc]⟩
        have hyl : (xs ++ List.replicate k s).length ≤ 1000 := by
          simp at hln ⊢
          omega
        obtain ⟨v, h1, h2, h3⟩ := HT.out
        generalize xs ++ List.replicate k s = ys at HY hyl h2
        obtain ⟨i0, hi0, hz0, hz1, hz2⟩ := info_parts infoStrT
        have hu : Tryd.prog.underlying 66 = some (.slice 9) := by kernel_rfl
        have hsw : wc.heap.size + 1 < wr.heap.size := Nat.lt_of_lt_of_le hsz2 hK.1
        have hown : (wr.alloc (.cells #[.string (bsT s)] 9)).drew.ownsRow (wc.heap.size + 2) 9 1 v ys.length (strV ys) := own_below h2 (((Below.refl _ wr).alloc (Nat.le_refl _) _).drew)
        obtain ⟨v', w6, hr, hown', hgrow, _, _⟩ := run_append_own_at (P := Tryd.prog) (wr.alloc (.cells #[.string (bsT s)] 9)).drew (wc.heap.size + 2) 66 66 9 i0 (.string ByteArray.empty) 1 16 hu hi0 hz0 hz1 hz2 rfl (by decide) v ys.length (strV ys) hown ⟨wr.heap.size, 0, none⟩ 1 1 [.string (bsT s)] rfl (fun j u hj => cell_one_new wr _ _ j u hj) (by intro u hu; simp at hu; subst hu; rfl) (by unfold maxLen; omega) (by omega) (by simp; omega)
        have hge : ∀ k, v.ownBlock = some k → wc.heap.size + 2 ≤ k := fun k hk => own_ge h2 hk
        have hold : ∀ k o, k < wc.heap.size + 2 → wr.heap[k]? = some o → w6.heap[k]? = some o := fun k o hk ho => (hgrow.block k (by have := lt_of_block ho; simp; omega) (fun e => by have := hge _ e.symm; omega)).trans (heap_drawn (heap_old ho _))
        have x1 := hold _ _ (by omega) h1
        have hb6 : Below w.heap.size wr w6 := (((Below.refl _ _).alloc (by have := h3.size; simpa using this) _).drew).trans (below_grown hgrow (fun k hk => by have := hge k hk; omega) (by have := h3.size; simp; omega))
        have hk6 : KeepR wc.heap.size wr w6 := (KeepR.below (((Below.refl _ _).alloc (Nat.le_refl _) _).drew) hsw).trans (KeepR.grown hgrow hge (by simp; omega))
        have e9 : ys.length + 1 = (ys ++ [s]).length := by simp
        rw [show strV ys ++ [.string (bsT s)] = strV (ys ++ [s]) from (strV_snoc _ _).symm, e9] at hown'
        clear e9
        generalize ys ++ [s] = zs at hown' HY
        obtain ⟨A9, c9, rfl⟩ := own_slice hown'
        have hsv := lt_of_block h1
        have c1 := cell_at h1
        have k1 := cell_at x1
        have g1 := frozen_at x1
        have HO := Hd.mk (own_laid hown' (B := w.heap.size + 1) (by omega) (.slice A9 zs.length c9))
        have HB6 := Hd.mk ((hB.trans hb6).setCell (p := ⟨w.heap.size + 1, 0, none⟩) (by show _ ≤ _; simp) (.slice A9 zs.length c9))
        have HB7 := Hd.mk ((h3.trans hb6).setCell (p := ⟨w.heap.size + 1, 0, none⟩) (by show _ ≤ _; simp) (.slice A9 zs.length c9))
        have HKA := Hd.mk ((hK.trans hk6).trans (KeepR.setCell w6 ⟨w.heap.size + 1, 0, none⟩ (.slice A9 zs.length c9) (by show _ ≠ _; simp; omega) (by show _ ≠ _; simp; omega)))
        have HX1 := Hd.mk ((heap_set x1 0 (.slice A9 zs.length c9)).trans (by rfl))
        have hmx : Tryd.prog.follows .mixedOrders = true := by kernel_rfl
        clear hown hown' hgrow hge hold hb6 hk6 hB hK HT hi0 hz0 hz1 hz2 hu x1 h1 h2 h3
        gi_wp2
        refine region_abs_i (fun a0 a' w' => ∃ vv : Nat → Value, (w' = w6.setCell ⟨w.heap.size + 1, 0, none⟩ (.slice A9 zs.length c9)) ∧ a' = Act.put (Act.put (Act.put (Act.put (Act.put (a0) (some 13) (vv 13)) (some 14) (vv 14)) (some 15) (vv 15)) (some 16) (vv 16)) (some 17) (vv 17)) (fun KR hKR => ?_) ?_
        · gi_region_with_o (refine ⟨trivial, callsIn_round ((HF.out _).mono ?_)⟩; rintro e w' ⟨rfl, rfl⟩)
          all_goals exact ⟨rfl, hKR _ _ (ex_put_t ⟨rfl, by kernel_rfl⟩)⟩
        rintro a' W ⟨vv, rfl, rfl⟩
        simp only [Act.put, List.setIfInBounds_toArray, List.set_cons_succ, List.set_cons_zero]
        gi_wp2
        go_roundw
        case rel => exact ⟨k + 1, by go_num, by omega, ⟨_, HX1.out, by rw [HY.out]; exact HO.out, HB7.out⟩, HKA.out, HB6.out⟩
        case measure => simp [intOf]; omega
      · obtain rfl : k = qq := by omega
        have hd1 : decide ((k : Int) < (k : Int)) = false := by simp
        gi_wp2
        unfold roundEndK
        dsimp only
        exact ⟨hK, hB, by rw [HX.out]; exact HT.out⟩
  case done =>
    rintro Wx ⟨v, h1, h2, h3⟩ hM
    unfold Exit.inBlock Exit.then
    dsimp only
    have h2b : Wx.ownsRow w.heap.size 9 1 v (strsT L).length (strV (strsT L)) := ⟨h2.1, by
      rcases h2.2 with h | ⟨g, cap, cur, e1, e2, e3⟩
      · exact .inl h
      · exact .inr ⟨g, cap, cur, e1, by have := hBc.size; omega, e3⟩⟩
    have c1 := cell_at h1
    have HQ := Hd.mk (And.intro h2b (And.intro h3 hM))
    have hsx := lt_of_block hM
    clear h1 h2 h2b h3 hM
    go_wp2_with fail
    refine (HJ.out _ _ HQ.out.1).mono ?_
    rintro e w5 ⟨rfl, hb⟩
    have hM := heap_below hb HQ.out.2.2
    have HB := Hd.mk (below_on HQ.out.2.1 hb)
    clear hb
    go_wp2
    change LeavesInM Fence.wide 6 Tryd.prog _ _ _ (List.map coll [wc.heap.size]) .returning _
    refine leaves_mark_one wc.heap.size _ hM fun o => ?_
    refine ⟨.string (bsT T), ?_, rfl, HB.out.trans (below_putObj _ _ _ hBc.size)⟩
    simp [results, Tryd.f11, go_sem]
  case stop =>
    rintro co pre Wx hsp h hM
    exact h.elim
end Go.Proofs.YtfgdichdddknlaaDoor
