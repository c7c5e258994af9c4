/-
  Tags: Odd. Conditions stand in each theorem.
-/
import Derived.OwnWalkIn
import Derived.Test.YtfgdichdddknlaaDoorGv5
import Derived.Test.YtfgdichdddknlaaDoorRgi
namespace Go.Proofs.YtfgdichdddknlaaDoor
open Go.RowKit Go.BigFrame Go.Shelf
attribute [local go_sem] Oper.semAt_some
attribute [-go_sem] Builtin.append_

theorem own_putB {W : World} {base : Nat} {e : TypeId} {size n : Nat} {v : Value} {xs : List Value} (h : W.ownsRow base e size v n xs) {r : Nat} (hr : r < base) (o : Obj) : (W.putObj r o).ownsRow base e size v n xs := by
  refine ⟨h.1, ?_⟩
  rcases h.2 with h1 | ⟨g, cap, cur, h1, h2, h3, h4⟩
  · exact .inl h1
  · exact .inr ⟨g, cap, cur, h1, h2, (World.putObj_heap_other (by omega)).trans h3, h4⟩
section
variable {P : Program} {l₀ m : Nat}
theorem wpListIn_append_at {ops : Array Oper} {rest : List Oper} {o : Oper} {a : Act} {w : World} {Q : Exit → Act → World → Prop} (hgd : o.guard = none) (s x : Operand) (t : TypeId)
    (ho : o.op = .call { callee := .builtin .append, args := #[s, x], argTypes := #[t, t] })
    (base : Nat) (e : TypeId) (i : TypeInfo) (z : Value) (size bytes : Nat) (ht : P.underlying t = some (.slice e)) (hi : P.info? e = some i) (hz : i.zero = some z)
    (hsize : i.size = size) (hby : i.bytes = bytes) (hzs : z.cells.size = size) (hsz : 0 < size)
    (v : Value) (n : Nat) (xs : List Value) (hs : a.eval s = v) (hown : w.ownsRow base e size v n xs)
    (ad : Addr) (q c : Nat) (news : List Value) (hx : a.eval x = .slice (some ad) q c) (hl : news.length = q * size) (hnews : ∀ j u, news[j]? = some u → w.cell? (ad.add j) = some u) (h1 : ∀ u ∈ news, u.oneCell' = true)
    (h63 : n + q ≤ maxLen) (hbytes : (n + q) * bytes ≤ 140737488355328) (hbase : base ≤ w.heap.size)
    (h : ∀ v' w', w'.ownsRow base e size v' (n + q) (xs ++ news) → w.grownBy w' v.ownBlock → wpListIn (Fence.wide.inRound l₀) m P ops Q rest (a.put o.dst v') w') :
    wpListIn (Fence.wide.inRound l₀) m P ops Q (o :: rest) a w := by
  refine wpListIn_plain hgd fun K hK => operIn_round (by rw [ho]; intro c hc; cases hc) ?_
  obtain ⟨v', w', hr, h2, h3, _, _⟩ := run_append_own_at (P := P) w base t o.type e i z size bytes ht hi hz hsize hby hzs hsz v n xs hown ad q c news hl hnews h1 h63 hbytes hbase
  unfold Oper.wp execOp
  simp only [ho, resolve, invoke, builtin, Sem.run_bind, Sem.run_pure, Result.andThen_ok, List.map_toArray, List.map_cons, List.map_nil, hs, hx, hr]
  exact hK _ _ (h v' w' h2 h3)
end
/-- The numbers that are there an odd number of times. -/
def oddK (L : List Ct) : List Int := (L.filter fun c => c.2 % 2 == 1).map (·.1)
/-- What is held while the odd ones are told. -/
def OddI (w : World) (k base : Nat) (L : List Ct) (W : World) : Prop := ∃ v, W.heap[k]? = some (.cells #[v] 22 (0, 0)) ∧ W.ownsRow base 2 1 v (oddK L).length (numsC (oddK L)) ∧ Below w.heap.size w W
theorem OddI.alloc {w W : World} {k base : Nat} {L : List Ct} (h : OddI w k base L W) (o : Obj) : OddI w k base L (W.alloc o) := by
  obtain ⟨v, h1, h2, h3⟩ := h
  exact ⟨v, heap_old h1 _, h2.alloc _, h3.alloc h3.size _⟩
theorem OddI.putObj {w W : World} {k base : Nat} {L : List Ct} (h : OddI w k base L W) {r : Nat} (hk : k ≠ r) (hr : r < base) (hw : w.heap.size ≤ r) (o : Obj) : OddI w k base L (W.putObj r o) := by
  obtain ⟨v, h1, h2, h3⟩ := h
  exact ⟨v, (World.putObj_heap_other hk).trans h1, own_putB h2 hr o, h3.trans (below_putObj _ _ _ hw)⟩
theorem oddK_len (L : List Ct) : (oddK L).length ≤ L.length := by
  unfold oddK
  rw [List.length_map]
  exact List.length_filter_le _ _
theorem oddK_snoc_yes {L : List Ct} {n m : Int} (h : (m % 2 == 1) = true) : oddK (L ++ [(n, m)]) = oddK L ++ [n] := by
  unfold oddK
  rw [List.filter_append, List.map_append]
  congr 1
  simp only [beq_iff_eq] at h
  simp [h]
theorem oddK_snoc_no {L : List Ct} {n m : Int} (h : (m % 2 == 1) = false) : oddK (L ++ [(n, m)]) = oddK L := by
  unfold oddK
  rw [List.filter_append]
  have : [(n, m)].filter (fun c : Ct => c.2 % 2 == 1) = [] := by
    rw [List.filter_cons_of_neg (by simpa using h)]
    rfl
  rw [this, List.append_nil]
set_option maxRecDepth 100000 in
set_option maxHeartbeats 2000000 in
theorem tg_odd (L : List Ct) (hl : L.length ≤ 1000) (hp : ∀ c ∈ L, 0 ≤ c.2) (A : Option Addr) (c : Nat) (w : World) (hN : CtsIn w A L) :
    Calls Tryd.prog 15 #[.agg #[.slice A L.length c]] w fun e w' => ∃ A' c', e = .returned (.slice A' (oddK L).length c') ∧ NumsIn w' A' (oddK L) ∧ Below w.heap.size w w' := by
  have HN := Hd.mk hN
  have HPP := Hd.mk hp
  clear hN hp
  refine (callsIn_wide (n := 6)).1 ?_
  refine callsIn_of_wp_marks Tryd.func15 rfl trivial ?_ rfl
  simp only [Tryd.ntmps15, List.size_toArray, List.length_cons, List.length_nil, Nat.reduceAdd, Nat.reduceSub, Array.replicate_succ, Array.replicate_zero, List.push_toArray, List.append_toArray, List.nil_append, List.cons_append]
  refine (wpIn_wide (n := 6)).2 ?_
  go_upto_region 1 with (fail)
  refine abs_wp (fun W => W.heap[w.heap.size]? = some (.cells #[.slice A L.length c] 26 (0, 0)) ∧ W.heap[w.heap.size + 1]? = some (.cells #[.slice none 0 0] 22 (0, 0)) ∧ Below w.heap.size w W) ⟨heap_old (heap_new _ _) _, heap_at (by simp) _, ((Below.refl _ _).alloc (Nat.le_refl _) _).alloc (by simp) _⟩ fun W0 ⟨y0, y1, hB⟩ => ?_
  have c0 := cell_at y0
  go_wp2_with fail
  refine (tg_all A L.length c _).mono ?_
  rintro e wc ⟨bs, rfl, hbs, hge, hb⟩
  have z1 := heap_below hb y1
  have hBc := below_on hB hb
  have HC := Hd.mk (HN.out.below hBc)
  have HBS := Hd.mk hbs
  have hs1 := lt_of_block z1
  have hsb := lt_of_block hbs
  clear hb hbs hge hB y0 y1 c0
  go_wp2
  refine (wpIn_wide (n := 6)).1 ?_
  refine range_k (by omega) (gf := 27) (lb := #[.pointer (some ⟨bs, 0, none⟩)]) rfl (enters_of Tryd.func27 (by kernel_rfl) rfl)
    (all_seq L A c hl _ bs w.heap.size wc hBc.size HBS.out (fun W' hW' => HN.out.below (hBc.trans hW'))) Below.trans (fun W' o => below_putObj W' _ o (by omega)) (fun _ => rfl)
    (fun pre W' => OddI w (w.heap.size + 1) (wc.heap.size + 2) pre W') (fun _ _ _ => False)
    (fun pre A' o h => h.putObj (by omega) (by omega) (by omega) o) (fun pre A' o h => h.alloc o) (fun _ _ _ _ h => h.elim)
    (fun W' hW' => ⟨_, heap_below hW' z1, ⟨rfl, .inl ⟨rfl, rfl⟩⟩, below_on hBc hW'⟩) ?round ?done ?stop
  case round =>
    rintro l' pre ⟨n, q⟩ Wr hpx hI hsr
    have hplt : pre.length < L.length := by
      have := hpx.length_le
      simp at this
      omega
    have hq0 : 0 ≤ q := by
      obtain ⟨r, hr⟩ := hpx
      exact HPP.out (n, q) (by rw [← hr]; simp)
    have HI := Hd.mk hI
    clear hpx hI
    unfold encC
    gi_wp2
    refine ⟨KeepR.refl _ _, Below.refl _ _, HI.out, ?_⟩
    rintro o ⟨v, h1, h2, h3⟩
    have hsz2 : wc.heap.size + 1 < (Wr.putObj (wc.heap.size + 1) o).heap.size := by simp; omega
    have hol := oddK_len pre
    generalize Wr.putObj (wc.heap.size + 1) o = Wp at h1 h2 h3 hsz2 ⊢
    have c1 := cell_at h1
    have f1 := frozen_at h1
    have H1 := Hd.mk h1
    have H2 := Hd.mk h2
    have H3 := Hd.mk h3
    clear h1 h2 h3
    cases hodd : (q % 2 == 1) with
    | false =>
      have HE := Hd.mk (oddK_snoc_no (L := pre) (n := n) hodd)
      gi_wp2
      unfold roundEndK
      dsimp only
      exact ⟨KeepR.refl _ _, Below.refl _ _, v, H1.out, by rw [HE.out]; exact H2.out, H3.out⟩
    | true =>
      have HE := Hd.mk (oddK_snoc_yes (L := pre) (n := n) hodd)
      obtain ⟨i0, hi0, hz0, hz1, hz2⟩ := info_parts infoI64
      have hu : Tryd.prog.underlying 22 = some (.slice 2) := by kernel_rfl
      generalize oddK pre = K at H2 hol HE
      gi_wp2_with (gi_at_builtin; refine wpListIn_append_at rfl (.tmp 12) (.tmp 14) 22 rfl (wc.heap.size + 2) 2 i0 (.int .i64 0) 1 8 hu hi0 hz0 hz1 hz2 rfl (by decide) _ K.length (numsC K) rfl (H2.out.alloc _) ⟨Wp.heap.size, 0, none⟩ 1 1 [.int .i64 n] rfl rfl (cell_one_new _ _ _) ?c2 ?b1 ?b2 ?b3 ?go)
      case c2 => intro u hu; simp at hu; subst hu; rfl
      case b1 => unfold maxLen; omega
      case b2 => omega
      case b3 => simp; omega
      case go =>
        intro v' w6 hown' hgrow
        have hr : ∀ k, v.ownBlock = some k → wc.heap.size + 2 ≤ k := fun k hk => own_ge H2.out hk
        have hold : ∀ k o, k < wc.heap.size + 2 → Wp.heap[k]? = some o → w6.heap[k]? = some o := fun k o hk ho => (hgrow.block k (by have := lt_of_block ho; simp; omega) (fun e => by have := hr _ e.symm; omega)).trans (heap_old ho _)
        have x1 := hold _ _ (by omega) H1.out
        have hb6 : Below w.heap.size Wp w6 := ((Below.refl _ _).alloc (H3.out.size) _).trans (below_grown hgrow (fun k hk => by have := hr k hk; omega) (by have := H3.out.size; simp; omega))
        have e9 : K.length + 1 = (K ++ [n]).length := by simp
        rw [← numsC_snoc, e9] at hown'
        clear e9
        generalize K ++ [n] = K2 at hown' HE
        obtain ⟨A9, c9, rfl, _, _⟩ := own_nums hown'
        have k1 := cell_at x1
        have g1 := frozen_at x1
        have HO := Hd.mk (own_laid hown' (B := w.heap.size + 1) (by omega) (.slice A9 K2.length c9))
        have HB6 := Hd.mk (hb6.setCell (p := ⟨w.heap.size + 1, 0, none⟩) (by show _ ≤ _; simp) (.slice A9 K2.length c9))
        have HB7 := Hd.mk (H3.out.trans HB6.out)
        have HCA : Hd (KeepR wc.heap.size Wp w6) := ⟨(KeepR.below ((Below.refl _ _).alloc (Nat.le_refl _) _) hsz2).trans (KeepR.grown hgrow hr (by simp; omega))⟩
        have HX := Hd.mk x1
        clear hown' hgrow hr hi0 hz0 hz1 hz2 hu hold x1 hb6
        clear c1 f1
        gi_wp2
        unfold roundEndK
        dsimp only
        exact ⟨HCA.out.trans (KeepR.setCell _ _ _ (by show _ ≠ _; simp; omega) (by show _ ≠ _; simp; omega)), HB6.out, _, (heap_set HX.out 0 _).trans (by rfl), by rw [HE.out]; exact HO.out, HB7.out⟩
  case done =>
    rintro Wx ⟨v, h1, h2, h3⟩ hM
    unfold Exit.inBlock Exit.then
    dsimp only
    obtain ⟨A', c', rfl, hn, hfr⟩ := own_nums h2
    have c1 := cell_at h1
    have f1 := frozen_at h1
    have HQ := Hd.mk (And.intro h1 (And.intro hn (And.intro hfr (And.intro h3 hM))))
    clear h1 h2 h3 hn hfr hM
    go_wp2
    change LeavesInM Fence.wide 6 Tryd.prog _ _ _ (List.map coll [wc.heap.size]) .returning _
    refine leaves_mark_one wc.heap.size _ (heap_set_other HQ.out.2.2.2.2 (by show _ ≠ _; simp; omega) _) fun o => ?_
    have k2 := cell_at ((World.putObj_heap_other (o := o) (r := wc.heap.size) (by omega)).trans ((heap_set HQ.out.1 0 (.slice A' (oddK L).length c')).trans (by rfl)))
    refine ⟨.slice A' (oddK L).length c', ?_, A', c', rfl, ?_, (HQ.out.2.2.2.1.setCell (by show _ ≤ _; simp) _).trans (below_putObj _ _ _ hBc.size)⟩
    · simp [results, Tryd.f15, go_sem, k2]
    · have hn := HQ.out.2.1.setCell (b := w.heap.size + 1) (fun a ha => by have := HQ.out.2.2.1 a ha; omega) (.slice A' (oddK L).length c')
      intro h0
      obtain ⟨bb, off, e, hc⟩ := hn h0
      have hbb := HQ.out.2.2.1 _ e
      simp only at hbb
      refine ⟨bb, off, e, fun j x hj => ?_⟩
      have h9 := hc j x hj
      unfold World.cell? at h9 ⊢
      rw [World.putObj_heap_other (by show bb ≠ wc.heap.size; omega)]
      exact h9
  case stop =>
    rintro co pre Wx hsp h hM
    exact h.elim
end Go.Proofs.YtfgdichdddknlaaDoor
