/-
  The nodes of segments: the iterator over the iterators of their ends. Conditions stand in each theorem.
-/
import Derived.Deep.LoopGhost
import Derived.Test.YtbhfnfokihdjjaaGreatDoorNd1
namespace Go.Proofs.YtbhfnfokihdjjaaGreatDoor
open Go.RowKit Go.BigFrame Go.Shelf
attribute [local go_sem] Oper.semAt_some

def coll (D : Nat) : Deferred := { target := .collected D, args := #[] }
theorem ex_frame {T : Array Value} {ds ds' : List Deferred} {F : (Nat → Value) → Array Value} {R : Prop} (h : (Act.mk T ds = Act.mk (F (fun i => T.getD i undef)) ds') ∧ R) : ∃ v : Nat → Value, (Act.mk T ds = Act.mk (F v) ds') ∧ R := ⟨_, h⟩
theorem roundIn_wide {n m l₀ : Nat} {P : Program} {l : Nat} {f : FuncId} {tmps : Array Value} {assign body : Code} {w : World} {R : Ending → World → Prop}
    (h : RoundIn Fence.wide n P l f tmps assign body w R) : RoundIn (Fence.wide.inRound l₀) m P l f tmps assign body w R :=
  ⟨h.1, fun c cs _ => h.2 c cs (fun _ hd => nomatch hd)⟩
theorem leaves_marks {F : Fence} {n : Nat} {P : Program} {fn : Func} {tmps : Array Value} {R : Ending → World → Prop} (B : Nat) : ∀ (ds : List Nat) (W : World), ds.Nodup → (∀ D ∈ ds, B ≤ D ∧ W.heap[D]? = some (.deferred (some []))) →
    (∀ W', Below B W W' → LeavesIn F n P fn tmps R [] .returning W') → LeavesInM F n P fn tmps R (ds.map coll) .returning W := by
  intro ds
  induction ds with
  | nil => intro W _ _ h; exact h W (Below.refl _ _)
  | cons D ds ih =>
    intro W hn hd h
    obtain ⟨hB, hD⟩ := hd D (by simp)
    obtain ⟨hn1, hn2⟩ := List.nodup_cons.1 hn
    refine ⟨by simp, .inl ⟨D, _, rfl, run_takeDeferred hD, ih _ hn2 (fun E hE => ⟨(hd E (by simp [hE])).1, (World.putObj_heap_other (fun e => hn1 (by rw [← e]; exact hE))).trans (hd E (by simp [hE])).2⟩) fun W' hW' => h W' ((below_putObj _ _ _ hB).trans hW')⟩⟩
/-- A row of segments that is read. -/
def SegsAt (W : World) (A : Option Addr) (L : List Sgm) : Prop :=
  0 < L.length → ∃ b off, A = some ⟨b, off, none⟩ ∧ ∀ j s, L[j]? = some s → ∀ i, i < 4 → W.cell? ⟨b, off + j * 4 + i, none⟩ = (sgC s)[i]?
def nodesOf (L : List Sgm) : List Nd := L.flatMap fun s => [s.1, s.2]
theorem nodesOf_len (L : List Sgm) : (nodesOf L).length = 2 * L.length := by
  unfold nodesOf
  induction L with
  | nil => rfl
  | cons s L ih => simp at ih ⊢; omega
theorem nodesOf_take {L : List Sgm} {k : Nat} {s : Sgm} (h : L[k]? = some s) : nodesOf (L.take (k + 1)) = nodesOf (L.take k) ++ [s.1, s.2] := by
  unfold nodesOf
  rw [List.take_add_one, h]
  simp
theorem nodesOf_prefix (L : List Sgm) (k : Nat) : nodesOf (L.take k) <+: nodesOf L := by
  unfold nodesOf
  conv => rhs; rw [← List.take_append_drop k L, List.flatMap_append]
  exact List.prefix_append _ _
set_option maxRecDepth 100000 in
set_option maxHeartbeats 4000000 in
theorem nodes_stops (L : List Sgm) (hlen : L.length ≤ 20) (A : Option Addr) (cap : Nat) (n bs n₀ : Nat) (w : World) (hbs : w.heap[bs]? = some (.cells #[.slice A L.length cap] 80 (0, 0))) (hn : n₀ ≤ w.heap.size)
    (hsg : ∀ W, Below n₀ w W → SegsAt W A L) :
    SeqB n Tryz.prog 70 #[.pointer (some ⟨bs, 0, none⟩)] (fun x : Nd => #[ndV x]) (Below n₀) (fun ys => ys = nodesOf L) (fun pre => pre <+: nodesOf L) 40 w := by
  intro l J Jx W hW hJ hJx hY h0
  have hb1 := (hW.block _ (lt_of_block hbs)).trans hbs
  refine callsIn_of_wp_marks Tryz.func70 rfl trivial ?_ rfl
  simp only [Tryz.ntmps70, List.size_toArray, List.length_cons, List.length_nil, Nat.reduceAdd, Nat.reduceSub, Array.replicate_succ, Array.replicate_zero, List.push_toArray, List.append_toArray, List.nil_append, List.cons_append]
  have H0 := Hd.mk (And.intro hJ (And.intro hJx hY))
  clear hJ hJx hY
  gi_wp2
  have hz : (W.alloc (.cells #[.func (.yield l) #[] #[]] 35)).heap[W.heap.size]? = some (.cells #[.func (.yield l) #[] #[]] 35 (0, 0)) := heap_new _ _
  have hbb : Below W.heap.size W (W.alloc (.cells #[.func (.yield l) #[] #[]] 35)) := (Below.refl _ _).alloc (Nat.le_refl _) _
  generalize W.alloc (.cells #[.func (.yield l) #[] #[]] 35) = Wb at hz hbb ⊢
  have hb2 := heap_below hbb hb1
  have h0b := H0.out.1 _ _ _ h0 hbb
  have hc := cell_at hb2
  refine wpIn_scope_wide' ?_
  gi_wp2
  refine wpIn_label ?_
  gi_wp2
  refine (wpIn_wide (n := n)).2 ?_
  refine wp_loop_ghost_k (fun gk a' W' => ∃ k : Nat, ∃ ds : List Nat, ∃ v : Nat → Value, (a' = { tmps := #[.func (.yield l) #[] #[], .pointer (some ⟨bs, 0, none⟩), .pointer (some ⟨W.heap.size, 0, none⟩), v 3, v 4, v 5, .slice A L.length cap, .int .i64 L.length, .int .i64 (k : Nat), v 9, v 10, v 11, v 12, v 13, v 14, v 15, v 16, v 17, v 18, v 19], defers := List.map coll ds }) ∧ k + gk = L.length ∧ ds.Nodup ∧ (∀ D ∈ ds, W.heap.size ≤ D ∧ W'.heap[D]? = some (.deferred (some []))) ∧ J (nodesOf (L.take k)) W' ∧ W'.heap[W.heap.size]? = some (.cells #[.func (.yield l) #[] #[]] 35 (0, 0)) ∧ Below n₀ W W') L.length ?_ ?_
  · refine ⟨0, [], ex_frame ⟨rfl, by omega, List.nodup_nil, (fun D h => absurd h (by simp)), h0b, hz, hbb.mono (Nat.le_trans hn hW.size)⟩⟩
  rintro gk a' W' ⟨k, ds, v, rfl, hk, hnd, hds, hJk, hz', hB⟩
  intro J' K hJ' hK
  by_cases hlt : k < L.length
  · obtain ⟨b, off, rfl, hcc⟩ := hsg W' ((hW.mono hn).trans hB) (by omega)
    obtain ⟨s, hs⟩ : ∃ s, L[k]? = some s := ⟨_, List.getElem?_eq_getElem hlt⟩
    have hc0 : W'.cell? ⟨b, off + k * 4, none⟩ = _ := hcc k s hs 0 (by decide)
    have hc1 := hcc k s hs 1 (by decide)
    have hc2 := hcc k s hs 2 (by decide)
    have hc3 := hcc k s hs 3 (by decide)
    have HS := Hd.mk hs
    have HD := Hd.mk hds
    have HJ := Hd.mk hJk
    have HB := Hd.mk hB
    have HN := Hd.mk hnd
    have HZ := Hd.mk hz'
    clear hcc hs hds hJk hB hnd hz' hsg hbs hb1 hb2 hc hz h0 h0b hbb
    obtain ⟨⟨x, y⟩, ⟨u, t⟩⟩ := s
    simp only [sgC, List.getElem?_toArray, List.getElem?_cons_zero, List.getElem?_cons_succ] at hc0 hc1 hc2 hc3
    have hd1 : decide ((k : Int) < (L.length : Int)) = true := by simp; omega
    have hd2 : decide (k < L.length) = true := by simp; omega
    go_wp2_with fail
    refine (ends_any ((x, y), (u, t)) _).mono ?_
    rintro e we ⟨b2, rfl, hb2, hge, hbe⟩
    have hbe2 : Below W'.heap.size W' we := below_on ((Below.refl W'.heap.size W').alloc (Nat.le_refl _) _) hbe
    have hge2 : W'.heap.size + 1 ≤ b2 := by simpa using hge
    have hbl := lt_of_block hb2
    have hsW := HB.out.size
    have hJe := H0.out.1 _ _ _ HJ.out (hbe2.mono hsW)
    have hDe : ∀ D ∈ ds, W.heap.size ≤ D ∧ we.heap[D]? = some (.deferred (some [])) := fun D hD => ⟨(HD.out D hD).1, heap_below hbe2 (HD.out D hD).2⟩
    have hZe := heap_below hbe2 HZ.out
    have hn0 := Nat.le_trans hn hW.size
    have hBe := HB.out.trans (hbe2.mono (Nat.le_trans hn0 hsW))
    have hse : W.heap.size ≤ we.heap.size := hBe.size
    have hde : ∀ D ∈ ds, D < we.heap.size := fun D hD => lt_of_block (hDe D hD).2
    have HH := Hd.mk (And.intro hJe (And.intro hDe (And.intro hZe hBe)))
    have HK := Hd.mk hb2
    clear hbe hbe2 hge hc0 hc1 hc2 hc3 hJe hDe hZe hBe hb2
    go_wp2
    refine (wpIn_wide (n := 6)).1 ?_
    refine range_b (by omega) (gf := 98) (lb := #[.pointer (some ⟨b2, 0, none⟩)]) rfl (enters_of Tryz.func98 (by kernel_rfl) rfl)
      (ends_stops ((x, y), (u, t)) _ b2 we HK.out) Stay.trans (fun W o => Stay.put W o (by omega)) (fun _ => rfl)
      (fun pre Wx => J (nodesOf (L.take k) ++ pre) Wx ∧ (∀ D ∈ ds, W.heap.size ≤ D ∧ Wx.heap[D]? = some (.deferred (some []))) ∧ Wx.heap[W.heap.size]? = some (.cells #[.func (.yield l) #[] #[]] 35 (0, 0)) ∧ Below n₀ W Wx)
      (fun c pre Wx => c = .exit 0 ∧ Jx (nodesOf (L.take k) ++ pre) Wx ∧ (∀ D ∈ ds, W.heap.size ≤ D ∧ Wx.heap[D]? = some (.deferred (some []))))
      (fun pre A C hs hb => ⟨H0.out.1 _ _ _ hs.1 (hb.mono hse), fun D hD => ⟨(hs.2.1 D hD).1, (hb.block _ (hde D hD)).trans (hs.2.1 D hD).2⟩, (hb.block _ (by omega)).trans hs.2.2.1, hs.2.2.2.trans (hb.mono (by omega))⟩)
      (fun c pre A C hs hb => ⟨hs.1, H0.out.2.1 _ _ _ hs.2.1 (hb.mono hse), fun D hD => ⟨(hs.2.2 D hD).1, (hb.block _ (hde D hD)).trans (hs.2.2 D hD).2⟩⟩)
      (by simpa using HH.out) ?round ?done ?stop
    case round =>
      rintro l' pre ⟨p, q⟩ Wr ⟨hJr, hDr, hZr, hBr⟩ hsr hlr
      have HR := Hd.mk (And.intro hJr (And.intro hDr (And.intro hZr hBr)))
      clear hJr hDr hZr hBr
      have hse3 : W.heap.size ≤ Wr.heap.size := by omega
      simp only [ndV]
      gi_wp2
      have hal : Below Wr.heap.size Wr (Wr.alloc (.cells #[.int .i64 p, .int .i64 q] 23)) := (Below.refl _ _).alloc (Nat.le_refl _) _
      have x5 : (Wr.alloc (.cells #[.int .i64 p, .int .i64 q] 23)).heap[Wr.heap.size]? = some (.cells #[.int .i64 p, .int .i64 q] 23 (0, 0)) := heap_new _ _
      generalize Wr.alloc (.cells #[.int .i64 p, .int .i64 q] 23) = Wa at hal x5 ⊢
      refine ⟨Calm.of_below hal (Nat.le_refl _), fun o ho => heap_below hal ho, ⟨H0.out.1 _ _ _ HR.out.1 (hal.mono hse3), fun D hD => ⟨(HR.out.2.1 D hD).1, heap_below hal (HR.out.2.1 D hD).2⟩, heap_below hal HR.out.2.2.1, HR.out.2.2.2.trans (hal.mono (by omega))⟩, ?_⟩
      rintro o ⟨hJp, hDp, hZp, hBp⟩
      have x6 : (Wa.putObj (we.heap.size + 1) o).heap[Wr.heap.size]? = some (.cells #[.int .i64 p, .int .i64 q] 23 (0, 0)) := (World.putObj_heap_other (by omega)).trans x5
      generalize Wa.putObj (we.heap.size + 1) o = Wp at hJp hDp hZp hBp x6 ⊢
      have hl40 : (nodesOf (L.take k) ++ pre).length < 40 := by
        rw [List.length_append, nodesOf_len, List.length_take]
        omega
      obtain ⟨fn, tm, asg, bo, hy, hR⟩ := H0.out.2.2 _ (p, q) Wp hJp hBp.size hl40
      simp only [ndV] at hy
      have cz := cell_at hZp
      have c6 := cell_at x6
      have HP := Hd.mk (And.intro hDp (And.intro hZp hBp))
      clear hJp hDp hZp hBp x5 x6 hal
      gi_wp2
      refine roundIn_wide (hR.mono ?_)
      rintro e W3 (⟨rfl, hJ3, hb3, hc3⟩ | ⟨rfl, hJ3, hc3⟩)
      · have HQ := Hd.mk (And.intro hJ3 (And.intro hb3 hc3))
        clear hJ3 hb3 hc3 cz c6 hy hR
        gi_wp2
        unfold roundEnd
        dsimp only
        obtain ⟨hJ3, hb3, hc3⟩ := HQ.out
        obtain ⟨hDp, hZp, hBp⟩ := HP.out
        refine ⟨hc3.mono hse, fun o ho => hc3.keep (by omega) ho, by rw [← List.append_assoc]; exact hJ3, fun D hD => ⟨(hDp D hD).1, hc3.keep (hDp D hD).1 (hDp D hD).2⟩, hc3.keep (Nat.le_refl _) hZp, hBp.trans hb3⟩
      · have HQ := Hd.mk (And.intro hJ3 hc3)
        clear hJ3 hc3 cz c6 hy hR
        gi_wp2
        unfold roundEnd
        dsimp only
        obtain ⟨hJ3, hc3⟩ := HQ.out
        obtain ⟨hDp, hZp, hBp⟩ := HP.out
        refine ⟨hc3.mono hse, rfl, by rw [← List.append_assoc]; exact hJ3, fun D hD => ⟨(hDp D hD).1, hc3.keep (hDp D hD).1 (hDp D hD).2⟩⟩
    case done =>
      rintro xs Wx rfl ⟨hJx, hDx, hZx, hBx⟩ hM
      unfold Exit.inBlock Exit.then
      dsimp only
      have HQ := Hd.mk (And.intro hJx (And.intro hDx (And.intro hZx (And.intro hBx hM))))
      clear hJx hDx hZx hBx hM
      go_wp2
      obtain ⟨hJx, hDx, hZx, hBx, hM⟩ := HQ.out
      have hkk := HS.out
      refine Handed.intro (gk - 1) (by omega) (hJ' _ _ _ ⟨k + 1, we.heap.size :: ds, ex_frame ⟨rfl, by omega, List.nodup_cons.2 ⟨fun h => Nat.lt_irrefl _ (hde _ h), HN.out⟩, ?_, by rw [nodesOf_take hkk]; exact hJx, hZx, hBx⟩⟩)
      intro D hD
      rcases List.mem_cons.1 hD with rfl | h1
      · exact ⟨hse, hM⟩
      · exact hDx D h1
    case stop =>
      rintro c pre Wx hsp ⟨rfl, hJx, hDx⟩ hM
      refine wpIn_exit ?_
      unfold Exit.inBlock Exit.then
      simp only [Nat.reduceEqDiff, if_false, if_true, Exit.noGoto]
      change LeavesInM Fence.wide n Tryz.prog _ _ _ (List.map coll (we.heap.size :: ds)) .returning Wx
      refine leaves_marks W.heap.size _ Wx (List.nodup_cons.2 ⟨fun h => Nat.lt_irrefl _ (hde _ h), HN.out⟩) ?_ ?_
      · intro D hD
        rcases List.mem_cons.1 hD with rfl | h1
        · exact ⟨hse, hM⟩
        · exact hDx D h1
      · intro Wy hWy
        refine ⟨_, results_none rfl _ _ _, ⟨_, rfl⟩, .inr ⟨_, ?_, H0.out.2.1 _ _ _ hJx hWy⟩⟩
        refine List.IsPrefix.trans ?_ (nodesOf_prefix L (k + 1))
        rw [nodesOf_take HS.out]
        exact (List.prefix_append_right_inj _).2 hsp
  · obtain rfl : k = L.length := by omega
    have hd1 : decide (((L.length : Nat) : Int) < (L.length : Int)) = false := by simp
    have HD := Hd.mk hds
    have HJ := Hd.mk hJk
    have HN := Hd.mk hnd
    clear hds hJk hnd hz' hB hsg hbs hb1 hb2 hc hz h0 h0b hbb
    go_wp2
    unfold Exit.noGoto
    dsimp only
    change LeavesInM Fence.wide n Tryz.prog _ _ _ (List.map coll ds) .returning W'
    refine leaves_marks W.heap.size _ W' HN.out HD.out fun Wy hWy => ?_
    refine ⟨_, results_none rfl _ _ _, ⟨_, rfl⟩, .inl ⟨_, rfl, ?_⟩⟩
    have h := H0.out.1 _ _ _ HJ.out hWy
    rwa [List.take_length] at h
end Go.Proofs.YtbhfnfokihdjjaaGreatDoor
