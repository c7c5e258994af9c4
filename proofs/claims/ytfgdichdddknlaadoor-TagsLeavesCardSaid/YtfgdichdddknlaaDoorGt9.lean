/-
  Tags: which number may be; a row of numbers looked through. Conditions stand in each theorem.
-/
import Derived.Lib.SliceRun
import Derived.Test.YtfgdichdddknlaaDoorGt3
namespace Go.Proofs.YtfgdichdddknlaaDoor
open Go.RowKit Go.BigFrame
attribute [-go_sem] Builtin.append_

set_option maxRecDepth 100000 in
set_option maxHeartbeats 1000000 in
theorem tg_clone (L : List Ct) (A : Option Addr) (c : Nat) (hl : L.length ≤ 1000) (w : World) (hN : CtsIn w A L) :
    Calls Tryd.prog 35 #[.slice A L.length c] w fun e w' => ∃ v, e = .returned v ∧ w'.ownsRow w.heap.size 63 2 v L.length (ctsC L) ∧ Below w.heap.size w w' := by
  have hu : Tryd.prog.underlying 24 = some (.slice 63) := by kernel_rfl
  have he := fun (w : World) => Lib.run_eql_slice_nil (P := Tryd.prog) w 24 63 A L.length c 0 0 hu
  cases A with
  | none =>
    obtain rfl : L = [] := by
      cases L with
      | nil => rfl
      | cons p l =>
        obtain ⟨b, off, e, _⟩ := hN (by simp)
        cases e
    rw [List.length_nil] at he ⊢
    clear hN hu
    go_enter Tryd.func35, Tryd.ntmps35
    go_wp2
    go_ret
    exact ⟨_, rfl, ⟨rfl, .inl ⟨rfl, rfl⟩⟩, Below.refl _ _⟩
  | some ad =>
    have hcells : ∀ (j : Nat) (u : Value), (ctsC L)[j]? = some u → w.cell? (ad.add j) = some u := fun j u hj => by
      have hpos : 0 < L.length := by
        have := (List.getElem?_eq_some_iff.1 hj).1
        rw [ctsC_len] at this
        omega
      obtain ⟨b, off, e, hc⟩ := hN hpos
      obtain rfl : ad = ⟨b, off, none⟩ := Option.some.inj e
      exact cts_cells hc j u hj
    have hown : (w.alloc (.cells #[] 63)).ownsRow w.heap.size 63 2 (.slice (some ⟨w.heap.size, 0, none⟩) 0 0) 0 [] := ⟨rfl, .inr ⟨w.heap.size, 0, #[], rfl, Nat.le_refl _, heap_new _ _, Nat.le_refl _, by unfold maxLen; omega, rfl, rfl⟩⟩
    have hb1 : Below w.heap.size w (w.alloc (.cells #[] 63)) := (Below.refl _ w).alloc (Nat.le_refl _) _
    obtain ⟨i0, hi, hz0, hz1, hz2⟩ := info_parts infoCt
    have hcl := ctsC_len L
    have HON := Hd.mk (ctsC_one L)
    have HCC := Hd.mk hcells
    generalize ctsC L = cs at *
    clear hN hcells
    go_enter Tryd.func35, Tryd.ntmps35
    go_wp2_with (at_builtin; refine wpList_append_own_at _ rfl (.tmp 5) (.tmp 6) 24 rfl w.heap.size 63 i0 (.agg #[.int .i64 0, .int .i64 0]) 2 16 hu hi hz0 hz1 hz2 rfl (by decide) _ 0 [] rfl hown ad L.length c cs rfl hcl (fun j u hj => (hb1.cell (World.block_lt_of_cell? w _ (HCC.out j u hj))).trans (HCC.out j u hj)) HON.out ?b1 ?b2 ?b3 ?go)
    case b1 => unfold maxLen; omega
    case b2 => omega
    case b3 => simp
    case go =>
      intro v' w6 hown' hgrow _ hat
      have hb6 : Below w.heap.size w w6 := hb1.trans (below_grown hgrow (fun k hk => by cases hk; exact Nat.le_refl _) (by simp))
      have HF := Hd.mk (And.intro hown' hb6)
      clear hown' hgrow hat hb6 hown hb1 he hu hi hz0 hz1 hz2
      go_wp2
      go_ret
      exact ⟨_, rfl, HF.out.1, HF.out.2⟩
end Go.Proofs.YtfgdichdddknlaaDoor

namespace Go.Proofs.YtfgdichdddknlaaDoor
open Go.RowKit Go.BigFrame
attribute [-go_sem] Builtin.append_

def ctV (x : Ct) : List Value := [.int .i64 x.1, .int .i64 x.2]
theorem ctV_one (x : Ct) : ∀ u ∈ ctV x, u.oneCell' = true := by
  intro u hu
  simp [ctV] at hu
  rcases hu with rfl | rfl <;> rfl
theorem ctV_cells {W : World} {g : Nat} {x : Ct} (h : W.heap[g]? = some (.cells #[.int .i64 x.1, .int .i64 x.2] 63 (0, 0))) : ∀ (j : Nat) (u : Value), (ctV x)[j]? = some u → W.cell? ((⟨g, 0, none⟩ : Addr).add j) = some u := by
  intro j u hj
  rw [addr_at, Nat.zero_add, cell_at h]
  match j, hj with
  | 0, hj => exact hj
  | 1, hj => exact hj
  | j + 2, hj => simp [ctV] at hj
def InsPost (base n : Nat) (cs : List Value) (w : World) (e : Ending) (w' : World) : Prop := ∃ v', e = .returned v' ∧ w'.ownsRow base 63 2 v' n cs ∧ Below base w w'
set_option maxRecDepth 100000 in
set_option maxHeartbeats 1000000 in
/-- Behind the last one. -/
theorem ins_end (n : Nat) (cs : List Value) (x : Ct) (hl : n ≤ 1000) (base : Nat) (v : Value) (gx : Nat) (w : World) (hbase : base ≤ w.heap.size) (hown : w.ownsRow base 63 2 v n cs)
    (hx : w.heap[gx]? = some (.cells #[.int .i64 x.1, .int .i64 x.2] 63 (0, 0))) :
    Calls Tryd.prog 36 #[v, .int .i64 (n : Nat), .slice (some ⟨gx, 0, none⟩) 1 1] w (InsPost base (n + 1) (cs ++ ctV x) w) := by
  have hu : Tryd.prog.underlying 24 = some (.slice 63) := by kernel_rfl
  obtain ⟨i0, hi, hz0, hz1, hz2⟩ := info_parts infoCt
  have HO := Hd.mk hown
  have HX := Hd.mk (ctV_cells hx)
  have h1x := ctV_one x
  have hxl : (ctV x).length = 1 * 2 := rfl
  obtain ⟨A, cap, hv, hcap⟩ : ∃ A cap, v = .slice A n cap ∧ n ≤ cap := by
    rcases hown.2 with ⟨rfl, rfl⟩ | ⟨g, cap, cur, rfl, _, _, hc, _⟩
    · exact ⟨none, 0, rfl, Nat.le_refl _⟩
    · exact ⟨_, cap, rfl, hc⟩
  subst hv
  have hge := fun k (hk : (Value.slice A n cap).ownBlock = some k) => own_ge hown hk
  have HGE := Hd.mk hge
  unfold InsPost
  generalize ctV x = xs at *
  have hle : n ≤ n := Nat.le_refl _
  have hii : (n : Int) ≤ (n : Int) := Int.le_refl _
  clear hown hx hge
  by_cases hcn : cap = n
  · have hcn' : n = cap := hcn.symm
    subst hcn'
    go_enter Tryd.func36, Tryd.ntmps36
    go_wp2_with (at_builtin; go_loud (refine wpList_append_own_at _ rfl (.tmp 23) (.tmp 24) 24 rfl base 63 i0 (.agg #[.int .i64 0, .int .i64 0]) 2 16 hu hi hz0 hz1 hz2 rfl (by decide) _ n cs rfl HO.out ⟨gx, 0, none⟩ 1 1 xs rfl hxl HX.out h1x ?b1 ?b2 ?b3 ?go))
    case b1 => unfold maxLen; omega
    case b2 => omega

    case go =>
      intro v' w6 hown' hgrow _ hat
      have hb6 : Below base w w6 := below_grown hgrow HGE.out hbase
      have HF := Hd.mk (And.intro hown' hb6)
      clear hown' hgrow hat hb6 hu hi hz0 hz1 hz2
      go_wp2
      go_ret
      exact ⟨_, rfl, HF.out.1, HF.out.2⟩
  · go_enter Tryd.func36, Tryd.ntmps36
    go_wp2_with (at_builtin; go_loud (refine wpList_append_own_at _ rfl (.tmp 23) (.tmp 24) 24 rfl base 63 i0 (.agg #[.int .i64 0, .int .i64 0]) 2 16 hu hi hz0 hz1 hz2 rfl (by decide) _ n cs rfl HO.out ⟨gx, 0, none⟩ 1 1 xs rfl hxl HX.out h1x ?b1 ?b2 ?b3 ?go))
    case b1 => unfold maxLen; omega
    case b2 => omega

    case go =>
      intro v' w6 hown' hgrow _ hat
      have hb6 : Below base w w6 := below_grown hgrow HGE.out hbase
      have HF := Hd.mk (And.intro hown' hb6)
      clear hown' hgrow hat hb6 hu hi hz0 hz1 hz2
      go_wp2
      go_ret
      exact ⟨_, rfl, HF.out.1, HF.out.2⟩
end Go.Proofs.YtfgdichdddknlaaDoor

namespace Go.Proofs.YtfgdichdddknlaaDoor
open Go.RowKit Go.BigFrame
attribute [-go_sem] Builtin.append_

theorem region_abs_t {P : Program} {id : Nat} {ops : Array Oper} {dr : Bool} {Q : Exit → Act → World → Prop} {a : Act} {w : World} (Qr : Act → Act → World → Prop)
    (h1 : ∀ K : Act → World → Prop, (∀ a' w', Qr a a' w' → K a' w') → (Code.region id ops dr).wp P (fun ex a' w' => ex = .normal ∧ K a' w') a w) (h2 : ∀ a' w', Qr a a' w' → Q .normal a' w') : (Code.region id ops dr).wp P Q a w :=
  Code.wp_mono (fun ex a' w' h => by obtain ⟨rfl, h⟩ := h; exact h2 a' w' h) (h1 (fun a' w' => Qr a a' w') (fun _ _ h => h))
theorem ex_put_t {T : Array Value} {ds : List Deferred} {G : (Nat → Value) → Act} {R : Prop} (h : R ∧ (Act.mk T ds = G (fun i => T.getD i undef))) : ∃ v : Nat → Value, R ∧ (Act.mk T ds = G v) := ⟨_, h⟩
theorem wpList_copy_wide {P : Program} {w : World} {ops : Array Oper} {rest : List Oper} {o : Oper} {a : Act} {Q : Exit → Act → World → Prop} (hgd : o.guard = none) (d s : Operand) (dT sT : TypeId)
    (ho : o.op = .call { callee := .builtin .copy, args := #[d, s], argTypes := #[dT, sT] }) (elem : TypeId) (sz : Nat) (hu : P.underlying dT = some (.slice elem)) (hsz : (P.info? elem).map (·.size) = some sz)
    (g off dLen dCap : Nat) (ad : Addr) (sLen sCap : Nat) (hd : a.eval d = .slice (some ⟨g, off, none⟩) dLen dCap) (hs : a.eval s = .slice (some ad) sLen sCap)
    (cur : Array Value) (t : TypeId) (hg : w.heap[g]? = some (.cells cur t (0, 0))) (cs : List Value) (n : Nat) (hn : n = Nat.min sLen dLen) (hc : cs.length = n * sz)
    (hsrc : ∀ j v, cs[j]? = some v → w.cell? (ad.add j) = some v) (hfit : off + cs.length ≤ cur.size) (h1 : ∀ v ∈ cs, v.oneCell' = true)
    (h : wpList P ops Q rest (a.put o.dst (goInt n)) (w.setRow g (cur.toList.take off ++ (cs ++ cur.toList.drop (off + cs.length))).toArray)) : wpList P ops Q (o :: rest) a w := by
  refine wpList_plain hgd fun K hK => ?_
  have hrun := run_copy_wide (P := P) w dT sT o.type elem sz g off dLen dCap ad sLen sCap cur t cs n hn hu hsz hg hc hsrc hfit h1
  unfold Oper.wp
  simp [execOp, ho, resolve, invoke, builtin, hd, hs, hrun, Result.andThen]
  exact hK _ _ h
theorem ins_plain {C1 cs xs C2 C3 : List Value} {i n cap : Nat} (hcs : cs.length = n * 2) (hxs : xs.length = 2) (hi : i < n) (hC : C1.length = cap * 2) (hcap : n + 1 ≤ cap) (ht : C1.take (i * 2) = cs.take (i * 2))
    (h2 : C2 = C1.take (i * 2) ++ xs ++ C1.drop (i * 2 + xs.length)) (h3 : C3 = C2.toArray.toList.take ((i + 1) * 2) ++ cs.drop (i * 2) ++ C2.toArray.toList.drop ((i + 1) * 2 + (cs.drop (i * 2)).length)) :
    C3.take ((n + 1) * 2) = cs.take (i * 2) ++ xs ++ cs.drop (i * 2) ∧ C3.length = cap * 2 := by
  have e1 : (C1.take (i * 2) ++ xs).length = (i + 1) * 2 := by rw [List.length_append, List.length_take, hC, hxs]; omega
  have e2 : C2.toArray.toList.take ((i + 1) * 2) = C1.take (i * 2) ++ xs := by
    show C2.take ((i + 1) * 2) = _
    rw [h2, List.take_append_of_le_length (by rw [e1]; exact Nat.le_refl _), List.take_of_length_le (by rw [e1]; exact Nat.le_refl _)]
  have e3 : (C1.take (i * 2) ++ xs ++ cs.drop (i * 2)).length = (n + 1) * 2 := by
    rw [List.length_append, e1, List.length_drop, hcs]
    omega
  have hC2 : C2.length = cap * 2 := by
    rw [h2, List.length_append, e1, List.length_drop, hC, hxs]
    omega
  rw [e2] at h3
  refine ⟨?_, ?_⟩
  · rw [h3, List.take_append_of_le_length (by rw [e3]; exact Nat.le_refl _), List.take_of_length_le (by rw [e3]; exact Nat.le_refl _), ht]
  · rw [h3, List.length_append, e3, List.length_drop, List.length_drop, hcs]
    simp [hC2]
    omega
set_option maxRecDepth 100000 in
set_option maxHeartbeats 1000000 in
theorem ins_grow (n i : Nat) (cs : List Value) (x : Ct) (hl : n ≤ 1000) (hi : i < n) (base g : Nat) (cur : Array Value) (gx : Nat) (w : World) (hbase : base ≤ w.heap.size) (hcs : cs.length = n * 2)
    (hg : w.heap[g]? = some (.cells cur 63 (0, 0))) (_ : cur.size = n * 2) (htk : cur.toList = cs) (h1 : ∀ u ∈ cs, u.oneCell' = true)
    (hx : w.heap[gx]? = some (.cells #[.int .i64 x.1, .int .i64 x.2] 63 (0, 0))) :
    Calls Tryd.prog 36 #[.slice (some ⟨g, 0, none⟩) n n, .int .i64 (i : Nat), .slice (some ⟨gx, 0, none⟩) 1 1] w (InsPost base (n + 1) (cs.take (i * 2) ++ ctV x ++ cs.drop (i * 2)) w) := by
  have hu : Tryd.prog.underlying 24 = some (.slice 63) := by kernel_rfl
  have hun : Tryd.prog.underlying 3 = some (.int .i64) := by kernel_rfl
  obtain ⟨i0, hi0, hz0, hz1, hz2⟩ := info_parts infoCt
  have hk0 : i + (n + 1 - i) = n + 1 := by omega
  have hold : (Builtin.firstCells i0.size i (.slice (some ⟨g, 0, none⟩) i n)).run Tryd.prog w.drew = .ok (cs.take (i * 2)).toArray w.drew := by
    rw [hz1]
    have h2 := run_loadCells_list (P := Tryd.prog) w.drew ⟨g, 0, none⟩ (cs.take (i * 2)) (fun j v hj => by
      rw [addr_at, Nat.zero_add]
      show w.cell? _ = _
      rw [cell_at hg, ← Array.getElem?_toList, htk]
      rw [List.getElem?_take] at hj
      split at hj
      · exact hj
      · cases hj)
    rw [List.length_take, hcs, Nat.min_eq_left (by omega)] at h2
    simp [Builtin.firstCells, h2]
  have hr := Lib.run_append_grow_zeros (P := Tryd.prog) w 24 3 24 63 i0 _ .i64 .i64 hu hun hi0 hz0 (some ⟨g, 0, none⟩) i n (cs.take (i * 2)) hold (n + 1 - i) (by omega) (by rw [hz1]; decide) (by omega) (by omega) (by rw [hz2]; omega) (growslice_fits (by omega) (by rw [hz2]; omega))
  rw [hk0] at hr
  have hge := grownCap_ge w (n + 1) n 63
  have hcm := grownCap_le_maxLen w (n + 1) n 63 (by unfold maxLen; omega)
  generalize grownCap w (n + 1) n 63 = cap at hr hge hcm
  have ek : (((n + 1 - i : Nat)) : Int) = (n : Int) + 1 - (i : Int) := by omega
  rw [ek] at hr
  obtain ⟨C1, hC1⟩ : ∃ C1, C1 = (cs.take (i * 2)).toArray ++ Builtin.zeroCells (Value.agg #[.int .i64 0, .int .i64 0]).cells (n + 1 - i) ++ Builtin.zeroCells (Value.agg #[.int .i64 0, .int .i64 0]).cells (cap - (n + 1)) := ⟨_, rfl⟩
  have hsz : (Value.agg #[.int .i64 0, .int .i64 0]).cells.size = 2 := rfl
  have hC1s : C1.size = cap * 2 := by
    rw [hC1]
    simp only [Array.size_append, List.size_toArray, List.length_take, size_zeroCells, hsz, hcs]
    rw [Nat.min_eq_left (by omega)]
    omega
  have hC1t : C1.toList.take (i * 2) = cs.take (i * 2) := by
    rw [hC1, Array.toList_append, Array.toList_append, List.append_assoc, List.take_append_of_le_length (by simp [hcs]; omega)]
    show (cs.take (i * 2)).take (i * 2) = _
    rw [List.take_take, Nat.min_self]
  rw [← hC1] at hr
  have hne : ((i : Int) == (n : Int)) = false := by simp; omega
  have hlt1 : (n : Int) < (n : Int) + 1 := by omega
  have hsi : (Tryd.prog.info? 63).map (·.size) = some 2 := by kernel_rfl
  have HT := Hd.mk (And.intro hC1t htk)
  clear hold hz0 hz1 hz2 hi0 hC1 hC1t htk ek hsz
  go_enter Tryd.func36, Tryd.ntmps36
  go_upto_region 10 with (fail)
  refine abs_wp (fun W => W.heap[w.heap.size]? = some (.cells C1 63 (0, 0)) ∧ W.heap[g]? = some (.cells cur 63 (0, 0)) ∧ W.heap[gx]? = some (.cells #[.int .i64 x.1, .int .i64 x.2] 63 (0, 0)) ∧ Below base w W) ⟨heap_new w.drew _, heap_old (W := w.drew) hg _, heap_old (W := w.drew) hx _, ((Below.refl _ w).drew).alloc hbase _⟩ fun W ⟨z1, zg, zx, hB⟩ => ?_
  have hcx := run_copy_wide (P := Tryd.prog) W 24 24 3 63 2 w.heap.size (i * 2) (n + 1 - i) (cap - i) ⟨gx, 0, none⟩ 1 1 C1 _ (ctV x) 1 (by show 1 = min 1 (n + 1 - i); omega) hu hsi z1 rfl (ctV_cells zx) (by show i * 2 + 2 ≤ _; omega) (ctV_one x)
  obtain ⟨C2, hC2⟩ : ∃ C2, C2 = C1.toList.take (i * 2) ++ ctV x ++ C1.toList.drop (i * 2 + (ctV x).length) := ⟨_, rfl⟩
  rw [← hC2] at hcx
  have hC2l : C2.length = cap * 2 := by
    rw [hC2]
    simp [hC1s, ctV]
    omega
  have y1 := setRow_heap W w.heap.size C1 C2.toArray _ _ z1
  have hgG : g ≠ w.heap.size := fun e => by have := lt_of_block hg; omega
  have yg : (W.setRow w.heap.size C2.toArray).heap[g]? = _ := (setRow_other W w.heap.size g C2.toArray hgG).trans zg
  have yB : Below base w (W.setRow w.heap.size C2.toArray) := below_setRow hB hbase _
  have HC2 := Hd.mk hC2
  clear hC2 z1 zg zx hB
  go_upto_region 11 with (fail)
  refine abs_wp (fun W => W.heap[w.heap.size]? = some (.cells C2.toArray 63 (0, 0)) ∧ W.heap[g]? = some (.cells cur 63 (0, 0)) ∧ Below base w W) ⟨y1, yg, yB⟩ fun W3 ⟨z1, zg, hB⟩ => ?_
  clear y1 yg yB hcx
  have hdl : (cs.drop (i * 2)).length = (n - i) * 2 := by rw [List.length_drop, hcs]; omega
  have hcy := run_copy_wide (P := Tryd.prog) W3.drew 24 24 3 63 2 w.heap.size ((i + 1) * 2) (n - i) (cap - (i + 1)) ⟨g, i * 2, none⟩ (n - i) (n - i) C2.toArray _ (cs.drop (i * 2)) (n - i) (by show n - i = min (n - i) (n - i); omega) hu hsi z1 hdl (fun j v hj => by
    rw [addr_at]
    show W3.cell? _ = _
    rw [cell_at zg, ← Array.getElem?_toList, HT.out.2]
    rw [List.getElem?_drop] at hj
    exact hj) (by rw [hdl]; simp [hC2l]; omega) (fun v hv => h1 v (List.mem_of_mem_drop hv))
  obtain ⟨C3, hC3⟩ : ∃ C3, C3 = C2.toArray.toList.take ((i + 1) * 2) ++ cs.drop (i * 2) ++ C2.toArray.toList.drop ((i + 1) * 2 + (cs.drop (i * 2)).length) := ⟨_, rfl⟩
  rw [← hC3] at hcy
  have y1 := setRow_heap W3.drew w.heap.size C2.toArray C3.toArray _ _ z1
  have yB : Below base w (W3.drew.setRow w.heap.size C3.toArray) := below_setRow hB.drew hbase _
  have HF := Hd.mk (And.intro y1 yB)
  have HC3 := Hd.mk (ins_plain (xs := ctV x) hcs rfl hi (by simpa using hC1s) hge HT.out.1 HC2.out hC3)
  have e1 : (n : Int) + 1 - ((i : Int) + 1) = (n : Int) - i := by omega
  have hi1 : i + 1 ≤ n + 1 := by omega
  have hi2 : (i : Int) + 1 ≤ (n : Int) + 1 := by omega
  have hi3 : (i : Int) ≤ (n : Int) := by omega
  have hi4 : i ≤ n := by omega
  clear y1 yB hC3 hdl z1 zg hB HC2
  refine region_abs_t (fun a0 a' w' => ∃ vv : Nat → Value, (w' = W3.drew.setRow w.heap.size C3.toArray) ∧ (a' = Act.put (Act.put (Act.put (Act.put (Act.put (Act.put (Act.put (Act.put (Act.put a0 (some 46) (vv 46)) (some 47) (vv 47)) (some 48) (vv 48)) (some 49) (vv 49)) (some 50) (vv 50)) (some 51) (vv 51)) (some 52) (vv 52)) (some 53) (vv 53)) (some 54) (vv 54))) (fun KR hKR => ?_) ?_
  · go_region
    all_goals exact ⟨rfl, hKR _ _ (ex_put_t ⟨rfl, by kernel_rfl⟩)⟩
  rintro a' w9 ⟨vv, rfl, rfl⟩
  simp only [Act.put, List.setIfInBounds_toArray, List.set_cons_succ, List.set_cons_zero]
  go_wp2
  go_ret
  exact ⟨_, rfl, ⟨by rw [HC3.out.1.symm, List.length_take, HC3.out.2]; omega, .inr ⟨w.heap.size, cap, C3.toArray, rfl, hbase, HF.out.1, hge, hcm, by simpa using HC3.out.2, by simpa using HC3.out.1⟩⟩, HF.out.2⟩

end Go.Proofs.YtfgdichdddknlaaDoor

namespace Go.Proofs.YtfgdichdddknlaaDoor
open Go.RowKit Go.BigFrame
attribute [-go_sem] Builtin.append_

theorem room_plain {C1 cs xs C2 C3 : List Value} {i n cap : Nat} (hcs : cs.length = n * 2) (hxs : xs.length = 2) (hi : i < n) (hC : C1.length = cap * 2) (hcap : n + 1 ≤ cap) (ht : C1.take (n * 2) = cs)
    (h2 : C2 = C1.take ((i + 1) * 2) ++ cs.drop (i * 2) ++ C1.drop ((i + 1) * 2 + (cs.drop (i * 2)).length)) (h3 : C3 = C2.take (i * 2) ++ xs ++ C2.drop (i * 2 + xs.length)) :
    C2.length = cap * 2 ∧ C3.take ((n + 1) * 2) = cs.take (i * 2) ++ xs ++ cs.drop (i * 2) ∧ C3.length = cap * 2 := by
  have hd : (cs.drop (i * 2)).length = (n - i) * 2 := by rw [List.length_drop, hcs]; omega
  have l1 : (C1.take ((i + 1) * 2)).length = (i + 1) * 2 := by rw [List.length_take, hC]; omega
  have hC2 : C2.length = cap * 2 := by
    rw [h2, List.length_append, List.length_append, l1, hd, List.length_drop, hC]
    omega
  have e0 : C2.take (i * 2) = cs.take (i * 2) := by
    rw [h2, List.append_assoc, List.take_append_of_le_length (by rw [l1]; omega), List.take_take, Nat.min_eq_left (by omega), ← ht, List.take_take, Nat.min_eq_left (by omega)]
  have e1 : C2.drop (i * 2 + xs.length) = cs.drop (i * 2) ++ C1.drop ((i + 1) * 2 + (cs.drop (i * 2)).length) := by
    rw [h2, List.append_assoc, hxs, show i * 2 + 2 = (C1.take ((i + 1) * 2)).length by rw [l1]; omega, List.drop_left]
  have e3 : (cs.take (i * 2) ++ xs ++ cs.drop (i * 2)).length = (n + 1) * 2 := by
    rw [List.length_append, List.length_append, List.length_take, hxs, hd, hcs]
    omega
  rw [e0, e1, ← List.append_assoc] at h3
  refine ⟨hC2, ?_, ?_⟩
  · rw [h3, List.take_append_of_le_length (by rw [e3]; exact Nat.le_refl _), List.take_of_length_le (by rw [e3]; exact Nat.le_refl _)]
  · rw [h3, List.length_append, e3, List.length_drop, hC, hd]
    omega
set_option maxRecDepth 100000 in
set_option maxHeartbeats 1000000 in
theorem ins_room (n i cap : Nat) (cs : List Value) (x : Ct) (hl : n ≤ 1000) (hi : i < n) (hcap : n + 1 ≤ cap) (hcm : cap ≤ maxLen) (base g : Nat) (cur : Array Value) (gx : Nat) (w : World) (hbg : base ≤ g) (hcs : cs.length = n * 2)
    (hg : w.heap[g]? = some (.cells cur 63 (0, 0))) (hcur : cur.size = cap * 2) (htk : cur.toList.take (n * 2) = cs) (h1 : ∀ u ∈ cs, u.oneCell' = true) (hgx : gx ≠ g)
    (hx : w.heap[gx]? = some (.cells #[.int .i64 x.1, .int .i64 x.2] 63 (0, 0))) :
    Calls Tryd.prog 36 #[.slice (some ⟨g, 0, none⟩) n cap, .int .i64 (i : Nat), .slice (some ⟨gx, 0, none⟩) 1 1] w (InsPost base (n + 1) (cs.take (i * 2) ++ ctV x ++ cs.drop (i * 2)) w) := by
  have hu : Tryd.prog.underlying 24 = some (.slice 63) := by kernel_rfl
  have hsi : (Tryd.prog.info? 63).map (·.size) = some 2 := by kernel_rfl
  have hov : ∀ lb cb, (callFunc 49 #[.slice (some ⟨gx, 0, none⟩) 1 1, .slice (some ⟨g, (i + 1) * 2, none⟩) lb cb]).run Tryd.prog w = .ok (.value (.bool false)) w := fun lb cb => by
    rw [run_callFunc_extern Tryd.func49 (by kernel_rfl) (by kernel_rfl) (by kernel_rfl) (e := Extern.SlicesOverlaps.overlaps #[24, 24] #[4]) (by kernel_rfl),
      Lib.run_overlaps_apart w 24 4 63 hu 2 Tryd.sizeOf63 ⟨gx, 0, none⟩ ⟨g, (i + 1) * 2, none⟩ 1 1 lb cb hgx 63 63 2 cur.size (by simp [World.shape?, hx]) (by simp [World.shape?, hg]) (by omega) (frozen_at hx 0) (frozen_at hx 2)]
    rfl
  have hdl : (cs.drop (i * 2)).length = (n - i) * 2 := by rw [List.length_drop, hcs]; omega
  obtain ⟨C2, hC2⟩ : ∃ C2, C2 = cur.toList.take ((i + 1) * 2) ++ cs.drop (i * 2) ++ cur.toList.drop ((i + 1) * 2 + (cs.drop (i * 2)).length) := ⟨_, rfl⟩
  obtain ⟨C3, hC3⟩ : ∃ C3, C3 = C2.toArray.toList.take (i * 2) ++ ctV x ++ C2.toArray.toList.drop (i * 2 + (ctV x).length) := ⟨_, rfl⟩
  have HP := Hd.mk (room_plain (xs := ctV x) (C3 := C3) hcs rfl hi (by simpa using hcur) hcap htk hC2 hC3)
  have hcy := run_copy_wide (P := Tryd.prog) w.drew 24 24 3 63 2 g ((i + 1) * 2) (n - i) (cap - (i + 1)) ⟨g, i * 2, none⟩ (n + 1 - i) (cap - i) cur _ (cs.drop (i * 2)) (n - i) (by show n - i = min (n + 1 - i) (n - i); omega) hu hsi hg hdl (fun j v hj => by
    rw [addr_at]
    show w.cell? _ = _
    rw [cell_at hg, ← Array.getElem?_toList]
    rw [List.getElem?_drop, ← htk, List.getElem?_take] at hj
    split at hj
    · exact hj
    · cases hj) (by rw [hdl]; omega) (fun v hv => h1 v (List.mem_of_mem_drop hv))
  rw [← hC2] at hcy
  have y1 := setRow_heap w.drew g cur C2.toArray _ _ hg
  have yx : (w.drew.setRow g C2.toArray).heap[gx]? = _ := (setRow_other w.drew g gx C2.toArray hgx).trans hx
  have yB : Below base w (w.drew.setRow g C2.toArray) := below_setRow (Below.drew (Below.refl _ _)) hbg _
  have hne : ((i : Int) == (n : Int)) = false := by simp; omega
  have hng : decide ((cap : Int) < (n : Int) + 1) = false := by simp; omega
  have e1 : (n : Int) + 1 - ((i : Int) + 1) = (n : Int) - i := by omega
  have hi1 : i + 1 ≤ n + 1 := by omega
  have hi2 : (i : Int) + 1 ≤ (n : Int) + 1 := by omega
  have hi3 : (i : Int) ≤ (n : Int) := by omega
  have hi4 : i ≤ n := by omega
  have hi5 : (n : Int) + 1 ≤ (cap : Int) := by omega
  have hn1 : ¬ cap = i + 1 := by omega
  have hn2 : ¬ cap = i := by omega
  clear hC2 hdl hg hx
  go_enter Tryd.func36, Tryd.ntmps36
  go_wp2_with (simp only [hov])
  have HF := Hd.mk (And.intro y1 (And.intro yx yB))
  clear y1 yx yB hov
  refine region_abs_t (fun a0 a' w' => ∃ vv : Nat → Value, (w' = w.drew.setRow g C2.toArray) ∧ (a' = Act.put (Act.put (Act.put (Act.put (Act.put (Act.put (Act.put (Act.put (Act.put a0 (some 69) (vv 69)) (some 70) (vv 70)) (some 71) (vv 71)) (some 72) (vv 72)) (some 73) (vv 73)) (some 74) (vv 74)) (some 75) (vv 75)) (some 76) (vv 76)) (some 77) (vv 77))) (fun KR hKR => ?_) ?_
  · go_region
    all_goals exact ⟨rfl, hKR _ _ (ex_put_t ⟨rfl, by kernel_rfl⟩)⟩
  rintro a' w9 ⟨vv, rfl, rfl⟩
  simp only [Act.put, List.setIfInBounds_toArray, List.set_cons_succ, List.set_cons_zero]
  obtain ⟨y1, yx, yB⟩ := HF.out
  generalize w.drew.setRow g C2.toArray = W at y1 yx yB hcy ⊢
  have hcx := run_copy_wide (P := Tryd.prog) W 24 24 3 63 2 g (i * 2) (n + 1 - i) (cap - i) ⟨gx, 0, none⟩ 1 1 C2.toArray _ (ctV x) 1 (by show 1 = min 1 (n + 1 - i); omega) hu hsi y1 rfl (ctV_cells yx) (by have := HP.out.1; simp only [List.size_toArray]; show i * 2 + 2 ≤ _; omega) (ctV_one x)
  rw [← hC3] at hcx
  have x1 := setRow_heap W g C2.toArray C3.toArray _ _ y1
  have xB : Below base w (W.setRow g C3.toArray) := below_setRow yB hbg _
  have HE := Hd.mk (And.intro x1 xB)
  clear x1 xB y1 yx yB HF hcy hC3
  go_wp2
  go_ret
  exact ⟨_, rfl, ⟨by rw [← HP.out.2.1, List.length_take, HP.out.2.2]; omega, .inr ⟨g, cap, C3.toArray, rfl, hbg, HE.out.1, hcap, hcm, by simpa using HP.out.2.2, by simpa using HP.out.2.1⟩⟩, HE.out.2⟩
/-- Of any place. -/
theorem tg_insert (L : List Ct) (x : Ct) (i : Nat) (hi : i ≤ L.length) (hl : L.length ≤ 1000) (base : Nat) (v : Value) (gx : Nat) (w : World) (hbase : base ≤ w.heap.size) (hown : w.ownsRow base 63 2 v L.length (ctsC L))
    (hx : w.heap[gx]? = some (.cells #[.int .i64 x.1, .int .i64 x.2] 63 (0, 0))) (hgx : v.ownBlock ≠ some gx) :
    Calls Tryd.prog 36 #[v, .int .i64 (i : Nat), .slice (some ⟨gx, 0, none⟩) 1 1] w (InsPost base (L.length + 1) (ctsC (L.take i ++ x :: L.drop i)) w) := by
  have hcl := ctsC_len L
  have ht : (ctsC L).take (i * 2) = ctsC (L.take i) := by
    have e := ctsC_append (L.take i) (L.drop i)
    rw [List.take_append_drop] at e
    have h1 := ctsC_len (L.take i)
    rw [List.length_take, Nat.min_eq_left hi] at h1
    rw [e, ← h1, List.take_left]
  have hd : (ctsC L).drop (i * 2) = ctsC (L.drop i) := by
    have e := ctsC_append (L.take i) (L.drop i)
    rw [List.take_append_drop] at e
    have h1 := ctsC_len (L.take i)
    rw [List.length_take, Nat.min_eq_left hi] at h1
    rw [e, ← h1, List.drop_left]
  have e : ctsC (L.take i ++ x :: L.drop i) = (ctsC L).take (i * 2) ++ ctV x ++ (ctsC L).drop (i * 2) := by
    rw [ht, hd, ctsC_append, ctsC_cons]
    simp [ctV]
  rw [e]
  by_cases hin : i = L.length
  · have h := ins_end L.length (ctsC L) x hl base v gx w hbase hown hx
    rw [List.take_of_length_le (by rw [hcl, hin]; exact Nat.le_refl _), List.drop_eq_nil_of_le (by rw [hcl, hin]; exact Nat.le_refl _), List.append_nil, hin]
    exact h
  · rcases hown.2 with ⟨_, h0⟩ | ⟨g, cap, cur, rfl, hbg, hg, hc, hcm, hcs, htk⟩
    · omega
    · have hne : gx ≠ g := fun e => hgx (by rw [e]; rfl)
      by_cases hcn : cap = L.length
      · subst hcn
        exact ins_grow L.length i (ctsC L) x hl (by omega) base g cur gx w hbase hcl hg hcs (by rw [← htk, List.take_of_length_le (by simp [hcs])]) (ctsC_one L) hx
      · exact ins_room L.length i cap (ctsC L) x hl (by omega) (by omega) hcm base g cur gx w hbg hcl hg hcs htk (ctsC_one L) hne hx

end Go.Proofs.YtfgdichdddknlaaDoor

namespace Go.Proofs.YtfgdichdddknlaaDoor
open Go.RowKit Go.BigFrame

theorem tg_must (x : Int) (w : World) :
    Calls Tryd.prog 18 #[.bool true, .int .i64 x] w fun e w' => e = .returned (.tuple #[]) ∧ w' = w := by
  go_enter Tryd.func18, Tryd.ntmps18
  go_wp2
  go_end0
  exact ⟨rfl, rfl⟩
theorem tg_must_no (x : Int) (w : World) :
    Calls Tryd.prog 18 #[.bool false, .int .i64 x] w fun e w' => e = .panicked [{ v := .iface 27 (.int .i64 x), recovered := false }] ∧ w' = w := by
  go_enter Tryd.func18, Tryd.ntmps18
  go_wp2
  exact ⟨rfl, rfl, rfl⟩
/-- An element's count turned. -/
theorem cts_set {W : World} {base : Nat} {v : Value} {L : List Ct} {i : Nat} {k m : Int} (h : W.ownsRow base 63 2 v L.length (ctsC L)) (hi : L[i]? = some (k, m)) :
    ∃ g cap, v = .slice (some ⟨g, 0, none⟩) L.length cap ∧ base ≤ g ∧ W.cell? ⟨g, i * 2 + 1, none⟩ = some (.int .i64 m) ∧ W.frozen? ⟨g, i * 2 + 1, none⟩ = false ∧
      ∀ m' : Int, CtsIn (W.setCell ⟨g, i * 2 + 1, none⟩ (.int .i64 m')) (some ⟨g, 0, none⟩) (L.set i (k, m')) := by
  have hlt := (List.getElem?_eq_some_iff.1 hi).1
  rcases h.2 with ⟨_, h0⟩ | ⟨g, cap, cur, rfl, hb, hg, hc, _, hs, ht⟩
  · omega
  · have at' : ∀ (j : Nat) c, L[j]? = some c → cur[j * 2]? = some (.int .i64 c.1) ∧ cur[j * 2 + 1]? = some (.int .i64 c.2) := fun j c hj => by
      have hjl : j < L.length := (List.getElem?_eq_some_iff.1 hj).1
      obtain ⟨h1, h2⟩ := ctsC_at L j c hj
      rw [← ht, List.getElem?_take, if_pos (by omega)] at h1 h2
      exact ⟨by simpa using h1, by simpa using h2⟩
    refine ⟨g, cap, rfl, hb, by rw [cell_at hg]; exact (at' i _ hi).2, frozen_at hg _, fun m' _ => ⟨g, 0, rfl, fun j c hj => ?_⟩⟩
    have hw : (W.setCell ⟨g, i * 2 + 1, none⟩ (.int .i64 m')).heap[g]? = some (.cells (cur.setIfInBounds (i * 2 + 1) (.int .i64 m')) 63 (0, 0)) := heap_set hg _ _
    rw [Nat.zero_add, cell_at hw, cell_at hw, Array.getElem?_setIfInBounds_ne (by omega)]
    by_cases hji : j = i
    · subst hji
      rw [List.getElem?_set_self hlt] at hj
      obtain rfl : (k, m') = c := Option.some.inj hj
      refine ⟨(at' j _ hi).1, ?_⟩
      rw [Array.getElem?_setIfInBounds_self_of_lt (by omega)]
    · rw [List.getElem?_set_ne (Ne.symm hji)] at hj
      rw [Array.getElem?_setIfInBounds_ne (by omega)]
      exact at' j c hj
theorem cts_far {W : World} {g : Nat} {L : List Ct} (h : CtsIn W (some ⟨g, 0, none⟩) L) {p : Addr} (hp : g ≠ p.block) (v : Value) : CtsIn (W.setCell p v) (some ⟨g, 0, none⟩) L := fun h0 => by
  obtain ⟨b, off, e, hc⟩ := h h0
  obtain rfl : g = b := by injection e with e; injection e
  refine ⟨g, off, e, fun j c hj => ?_⟩
  have hn : ∀ o, p ≠ ⟨g, o, none⟩ := fun o e => hp (by rw [e])
  rw [World.cell?_setCell_other _ _ _ _ (hn _), World.cell?_setCell_other _ _ _ _ (hn _)]
  exact hc j c hj
def TagV (A : Option Addr) (n c : Nat) : Value := .agg #[.slice A n c]
def WithPost (L : List Ct) (w : World) (e : Ending) (w' : World) : Prop := ∃ A' c', e = .returned (.agg #[.slice A' L.length c']) ∧ CtsIn w' A' L ∧ (∀ a, A' = some a → w.heap.size ≤ a.block) ∧ Below w.heap.size w w'
set_option maxRecDepth 100000 in
set_option maxHeartbeats 1000000 in
theorem tg_with (L : List Ct) (n : Int) (hok : TagOk 60 L) (A : Option Addr) (c : Nat) (w : World) (hN : CtsIn w A L) :
    Calls Tryd.prog 25 #[.agg #[.slice A L.length c], .int .i64 n, .int .i64 1] w (WithPost (addT L n) w) := by
  have hlen := hok.2.1
  have HF := Hd.mk (fun w hN => tg_find L n A c hok.1 (by omega) w hN)
  have HC := Hd.mk (fun w hN => tg_clone L A c (by omega) w hN)
  have HN := Hd.mk hN
  have HM := Hd.mk hok.2.2
  unfold WithPost
  clear hN hok
  go_enter Tryd.func25, Tryd.ntmps25
  go_upto_region 1 with (fail)
  refine abs_wp (fun W => W.heap[w.heap.size]? = some (.cells #[.slice A L.length c] 26 (0, 0)) ∧ W.heap[w.heap.size + 1]? = some (.cells #[.slice none 0 0] 26 (0, 0)) ∧ Below w.heap.size w W) ⟨heap_old (heap_new _ _) _, heap_at (by simp) _, ((Below.refl _ _).alloc (Nat.le_refl _) _).alloc (by simp) _⟩ fun W0 ⟨y0, y1, hB⟩ => ?_
  have c0 := cell_at y0
  go_wp2_with fail
  refine (HF.out _ (HN.out.below hB)).mono ?_
  rintro e w1 ⟨i, hP, rfl, hb⟩
  have z0 := heap_below hb y0
  have z1 := heap_below hb y1
  have hB1 := below_on hB hb
  have HP := Hd.mk hP
  clear hb y0 y1 hB c0 hP HF
  have c0 := cell_at z0
  go_wp2_with fail
  refine (HC.out _ (HN.out.below hB1)).mono ?_
  rintro e w2 ⟨v, rfl, hown, hb⟩
  have x0 := heap_below hb z0
  have x1 := heap_below hb z1
  have hB2 := below_on hB1 hb
  have HO := Hd.mk hown
  have hs1 := lt_of_block z1
  have hs2 := hb.size
  clear hb z0 z1 hown c0 HC HN
  cases hia : isAt L n i with
  | true =>
    obtain ⟨m, hget⟩ := isAt_some hia
    have hmb := HM.out _ (List.mem_of_getElem? hget)
    simp only at hmb
    have HE := Hd.mk (add_set HP.out hget)
    have hl1 : L.length ≤ 61 := by omega
    obtain ⟨g, cap, rfl, hbg, q1, f1, hset⟩ := cts_set HO.out hget
    have HS := Hd.mk (hset (m + 1))
    have hsl : (L.set i (n, m + 1)).length = L.length := List.length_set ..
    have z9 := heap_set_other x1 (p := ⟨g, i * 2 + 1, none⟩) (by show w.heap.size + 1 ≠ g; omega) (.int .i64 (m + 1))
    have c9 := cell_at z9
    have f9 := frozen_at z9
    have hB9 : Below w.heap.size w (w2.setCell ⟨g, i * 2 + 1, none⟩ (.int .i64 (m + 1))) := hB2.trans (Below.setCell (Below.refl _ _) (by show w.heap.size ≤ g; omega) _)
    have q2 : (w2.setCell ⟨g, i * 2 + 1, none⟩ (.int .i64 (m + 1))).cell? ⟨g, i * 2 + 1, none⟩ = some (.int .i64 (m + 1)) := World.cell?_setCell_same _ _ _ q1
    have hw1 : wrap64 (m + 1) = m + 1 := by unfold wrap64; omega
    have hil : i < L.length := (List.getElem?_eq_some_iff.1 hget).1
    have hd1 : decide ((i : Int) < (L.length : Int)) = true := by simp; omega
    have hd2 : decide ((m + 1 : Int) ≤ 255) = true := by first | (simp; done) | (simp; omega)
    have hd3 : decide ((L.length : Int) ≤ 64) = true := by simp; omega
    have hd4 : ((m + 1 : Int) == 0) = false := by first | (simp; done) | (simp; omega)
    have HQ := Hd.mk (And.intro hsl hB9)
    clear hset hget HO hB2 hsl hB9
    go_wp2_with (go_at_call 18; refine (tg_must _ _).mono ?_; rintro e w4 ⟨rfl, rfl⟩)
    have k1 := heap_set z9 0 (.slice (some ⟨g, 0, none⟩) L.length cap)
    have c1 := cell_at k1
    have HR := Hd.mk (cts_far HS.out (p := ⟨w.heap.size + 1, 0, none⟩) (by show g ≠ w.heap.size + 1; omega) (.slice (some ⟨g, 0, none⟩) L.length cap))
    have HB := Hd.mk (HQ.out.2.trans (Below.setCell (Below.refl _ _) (p := ⟨w.heap.size + 1, 0, none⟩) (by show w.heap.size ≤ w.heap.size + 1; omega) (.slice (some ⟨g, 0, none⟩) L.length cap)))
    refine bodyPost_ret (by simp [results, Tryd.results25, go_sem, c1] <;> rfl) rfl ?_
    rw [HE.out]
    exact ⟨_, cap, by rw [HQ.out.1], HR.out, fun a ha => (by obtain rfl : (⟨g, 0, none⟩ : Addr) = a := Option.some.inj ha; show _ ≤ g; omega), HB.out⟩
  | false =>
    have HPUT := Hd.mk (add_put HP.out (isAt_none hia))
    have hiL := HP.out.1
    have HINS := Hd.mk (fun gx W hbase hO hx hgx => tg_insert L (n, 0) i hiL (by omega) w1.heap.size v gx W hbase hO hx hgx)
    go_wp2_with fail
    have hgx : v.ownBlock ≠ some w2.heap.size := fun e => by have := own_lt HO.out e; omega
    refine (HINS.out w2.heap.size _ (by simp; omega) (HO.out.alloc _) (heap_new _ _) hgx).mono ?_
    rintro e w3 ⟨v', rfl, hown3, hb3⟩
    have x1 := (hb3.block _ (by omega)).trans (heap_old x1 (.cells #[.int .i64 n, .int .i64 0] 63))
    have hB2 : Below w.heap.size w w3 := (hB2.trans ((Below.refl _ _).alloc (by omega) (.cells #[.int .i64 n, .int .i64 0] 63))).trans (hb3.mono (by omega))
    obtain ⟨L1, hL1⟩ : ∃ L1, L1 = L.take i ++ (n, 0) :: L.drop i := ⟨_, rfl⟩
    have hlen1 : L1.length = L.length + 1 := by rw [hL1, List.length_append, List.length_cons, List.length_take, List.length_drop]; omega
    rw [← hL1, ← hlen1] at hown3
    have HO := Hd.mk hown3
    have hget : L1[i]? = some (n, 0) := by
      rw [hL1, List.getElem?_append_right (by rw [List.length_take]; omega), List.length_take, Nat.min_eq_left hiL, Nat.sub_self]
      rfl
    have HE : Hd (addT L n = L1.set i (n, 1)) := ⟨by
      rw [HPUT.out, hL1, List.set_append_right _ _ (by rw [List.length_take]; omega), List.length_take, Nat.min_eq_left hiL, Nat.sub_self]
      rfl⟩
    have hl1 : L1.length ≤ 61 := by omega
    clear hown3 hb3 hL1 HINS HPUT hgx hlen1
    obtain ⟨g, cap, rfl, hbg, q1, f1, hset⟩ := cts_set HO.out hget
    have HS := Hd.mk (hset (1))
    have hsl : (L1.set i (n, 1)).length = L1.length := List.length_set ..
    have z9 := heap_set_other x1 (p := ⟨g, i * 2 + 1, none⟩) (by show w.heap.size + 1 ≠ g; omega) (.int .i64 (1))
    have c9 := cell_at z9
    have f9 := frozen_at z9
    have hB9 : Below w.heap.size w (w3.setCell ⟨g, i * 2 + 1, none⟩ (.int .i64 (1))) := hB2.trans (Below.setCell (Below.refl _ _) (by show w.heap.size ≤ g; omega) _)
    have q2 : (w3.setCell ⟨g, i * 2 + 1, none⟩ (.int .i64 (1))).cell? ⟨g, i * 2 + 1, none⟩ = some (.int .i64 (1)) := World.cell?_setCell_same _ _ _ q1
    have hw1 : wrap64 (0 + 1) = 1 := by unfold wrap64; omega
    have hil : i < L1.length := (List.getElem?_eq_some_iff.1 hget).1
    have hd1 : decide ((i : Int) < (L1.length : Int)) = true := by simp; omega
    have hd2 : decide ((1 : Int) ≤ 255) = true := by first | (simp; done) | (simp; omega)
    have hd3 : decide ((L1.length : Int) ≤ 64) = true := by simp; omega
    have hd4 : ((1 : Int) == 0) = false := by first | (simp; done) | (simp; omega)
    have HQ := Hd.mk (And.intro hsl hB9)
    clear hset hget HO hB2 hsl hB9
    go_wp2_with (go_at_call 18; refine (tg_must _ _).mono ?_; rintro e w4 ⟨rfl, rfl⟩)
    have k1 := heap_set z9 0 (.slice (some ⟨g, 0, none⟩) L1.length cap)
    have c1 := cell_at k1
    have HR := Hd.mk (cts_far HS.out (p := ⟨w.heap.size + 1, 0, none⟩) (by show g ≠ w.heap.size + 1; omega) (.slice (some ⟨g, 0, none⟩) L1.length cap))
    have HB := Hd.mk (HQ.out.2.trans (Below.setCell (Below.refl _ _) (p := ⟨w.heap.size + 1, 0, none⟩) (by show w.heap.size ≤ w.heap.size + 1; omega) (.slice (some ⟨g, 0, none⟩) L1.length cap)))
    refine bodyPost_ret (by simp [results, Tryd.results25, go_sem, c1] <;> rfl) rfl ?_
    rw [HE.out]
    exact ⟨_, cap, by rw [HQ.out.1], HR.out, fun a ha => (by obtain rfl : (⟨g, 0, none⟩ : Addr) = a := Option.some.inj ha; show _ ≤ g; omega), HB.out⟩
end Go.Proofs.YtfgdichdddknlaaDoor

namespace Go.Proofs.YtfgdichdddknlaaDoor
open Go.RowKit Go.BigFrame

/-- A row of numbers that is read. -/
def NumsIn (W : World) (A : Option Addr) (l : List Int) : Prop := 0 < l.length → ∃ b off, A = some ⟨b, off, none⟩ ∧ ∀ j x, l[j]? = some x → W.cell? ⟨b, off + j, none⟩ = some (.int .i64 x)
theorem NumsIn.below {W W' : World} {A : Option Addr} {l : List Int} (h : NumsIn W A l) (hb : Below W.heap.size W W') : NumsIn W' A l := fun h0 => by
  obtain ⟨b, off, e, hc⟩ := h h0
  exact ⟨b, off, e, fun j p hj => (hb.cell (World.block_lt_of_cell? W ⟨b, off + j, none⟩ (hc j p hj))).trans (hc j p hj)⟩
def rightB (n : Int) : Bool := decide (1 ≤ n) && decide (n ≤ 2147483647)
set_option maxHeartbeats 1000000 in
theorem tg_right (n : Int) (w : World) : Calls Tryd.prog 21 #[.int .i64 n] w fun e w' => e = .returned (.bool (rightB n)) ∧ w' = w := by
  have HE := Hd.mk (show rightB n = (decide (1 ≤ n) && decide (n ≤ 2147483647)) from rfl)
  generalize rightB n = r at HE ⊢
  by_cases h1 : 1 ≤ n
  · have hd1 : decide (1 ≤ n) = true := decide_eq_true h1
    by_cases h2 : n ≤ 2147483647
    · have hd2 : decide (n ≤ 2147483647) = true := decide_eq_true h2
      have HE2 : Hd (r = true) := ⟨by rw [HE.out, hd1, hd2]; rfl⟩
      clear HE
      go_enter Tryd.func21, Tryd.ntmps21
      go_wp2
      go_ret
      exact ⟨by rw [HE2.out]; rfl, rfl⟩
    · have hd2 : decide (n ≤ 2147483647) = false := decide_eq_false h2
      have HE2 : Hd (r = false) := ⟨by rw [HE.out, hd1, hd2]; rfl⟩
      clear HE
      go_enter Tryd.func21, Tryd.ntmps21
      go_wp2
      go_ret
      exact ⟨by rw [HE2.out]; rfl, rfl⟩
  · have hd1 : decide (1 ≤ n) = false := decide_eq_false h1
    have HE2 : Hd (r = false) := ⟨by rw [HE.out, hd1]; rfl⟩
    clear HE
    go_enter Tryd.func21, Tryd.ntmps21
    go_wp2
    go_ret
    exact ⟨by rw [HE2.out]; rfl, rfl⟩
set_option maxHeartbeats 1000000 in
theorem tg_wrong (n : Int) (w : World) : Calls Tryd.prog 20 #[.int .i64 n] w fun e w' => e = .returned (.bool (!rightB n)) ∧ w' = w := by
  go_enter Tryd.func20, Tryd.ntmps20
  go_wp2_with fail
  refine (tg_right _ _).mono ?_
  rintro e w4 ⟨rfl, rfl⟩
  go_wp2
  go_ret
  exact ⟨rfl, rfl⟩
set_option maxRecDepth 100000 in
set_option maxHeartbeats 1000000 in
theorem tg_index (l : List Int) (hl : l.length ≤ 1000) (A : Option Addr) (c : Nat) (w : World) (hN : NumsIn w A l) :
    Calls Tryd.prog 33 #[.slice A l.length c, .func (.func 20) #[] #[]] w fun e w' => ∃ r : Int, e = .returned (.int .i64 r) ∧ ((∀ x ∈ l, rightB x = true) → r = -1) ∧ ((¬ ∀ x ∈ l, rightB x = true) → 0 ≤ r) ∧ Below w.heap.size w w' := by
  have HN := Hd.mk hN
  clear hN
  go_enter Tryd.func33, Tryd.ntmps33
  go_wp2
  go_loopw [8] (fun iv wr => ∃ k : Nat, iv = .int .i64 k ∧ k ≤ l.length ∧ Hd (∀ x ∈ l.take k, rightB x = true) ∧ Below w.heap.size w wr) (fun iv _ => l.length - (intOf iv).toNat)
  case atStart => exact ⟨0, rfl, Nat.zero_le _, ⟨by simp⟩, Below.refl _ _⟩
  case round =>
    obtain ⟨k, rfl, hk, HK, hB⟩ := hrel
    by_cases hlt : k < l.length
    · have hd1 : decide ((k : Int) < (l.length : Int)) = true := by simp; omega
      have hd2 : decide (k < l.length) = true := by simp; omega
      obtain ⟨b, off, rfl, hcc⟩ := HN.out.below hB (by omega)
      obtain ⟨x, hx⟩ : ∃ x, l[k]? = some x := ⟨_, List.getElem?_eq_getElem hlt⟩
      have q1 := hcc k x hx
      have HX := Hd.mk hx
      clear hcc hx
      go_wp2_with fail
      refine (tg_wrong _ _).mono ?_
      rintro e w4 ⟨rfl, rfl⟩
      cases hr : rightB x with
      | true =>
        have HK2 : Hd (∀ y ∈ l.take (k + 1), rightB y = true) := ⟨fun y hy => by
          rw [take_snocI HX.out] at hy
          rcases List.mem_append.1 hy with h | h
          · exact HK.out y h
          · simp at h; subst h; exact hr⟩
        clear hr q1
        go_wp2
        go_roundw
        case rel => exact ⟨k + 1, by go_num, by omega, HK2, hB⟩
        case measure => simp [intOf]; omega
      | false =>
        have HNO : Hd (¬ ∀ x ∈ l, rightB x = true) := ⟨fun h => by have := h x (List.mem_of_getElem? HX.out); rw [hr] at this; cases this⟩
        clear hr q1
        go_wp2
        go_ret
        exact ⟨k, rfl, fun h => absurd h HNO.out, fun _ => by omega, hB⟩
    · obtain rfl : k = l.length := by omega
      have hd1 : decide (((l.length : Nat) : Int) < (l.length : Int)) = false := by simp
      have HG : Hd (∀ x ∈ l, rightB x = true) := ⟨by have := HK.out; rwa [List.take_length] at this⟩
      clear HK
      go_wp2
      go_ret
      exact ⟨-1, rfl, fun _ => rfl, fun h => absurd HG.out h, hB⟩
set_option maxHeartbeats 1000000 in
theorem tg_contains (l : List Int) (hl : l.length ≤ 1000) (A : Option Addr) (c : Nat) (w : World) (hN : NumsIn w A l) (b : Bool) (hb : b = true ↔ ¬ ∀ x ∈ l, rightB x = true) :
    Calls Tryd.prog 19 #[.slice A l.length c, .func (.func 20) #[] #[]] w fun e w' => e = .returned (.bool b) ∧ Below w.heap.size w w' := by
  have HC := Hd.mk (tg_index l hl A c w hN)
  have HB := Hd.mk hb
  clear hN hb
  go_enter Tryd.func19, Tryd.ntmps19
  go_wp2_with fail
  refine HC.out.mono ?_
  rintro e w1 ⟨r, rfl, h1, h2, hB⟩
  have HQ : Hd (decide (0 ≤ r) = b) := ⟨by
    rw [Bool.eq_iff_iff, HB.out, decide_eq_true_iff]
    by_cases h : ∀ x ∈ l, rightB x = true
    · rw [h1 h]
      exact ⟨fun h3 => absurd h3 (by decide), fun h3 => absurd h h3⟩
    · exact ⟨fun _ => h, fun _ => h2 h⟩⟩
  clear h1 h2
  go_wp2
  go_ret
  exact ⟨by rw [← HQ.out]; rfl, hB⟩
end Go.Proofs.YtfgdichdddknlaaDoor
