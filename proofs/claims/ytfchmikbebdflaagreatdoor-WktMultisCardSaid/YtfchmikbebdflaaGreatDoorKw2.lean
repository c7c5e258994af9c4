/-
  wkt: the rings of a shape, and what goes over them. Conditions stand in each theorem.
-/
import Derived.Test.YtfchmikbebdflaaGreatDoorKw1
import Derived.Test.YtfchmikbebdflaaGreatDoorNdl
namespace Go.Proofs.YtfchmikbebdflaaGreatDoor
open Go.RowKit Go.BigFrame Go.Shelf
attribute [local go_sem] Oper.semAt_some

/-- A row of values that is read. -/
def CellsIn (W : World) (A : Option Addr) (vs : List Value) : Prop := 0 < vs.length → ∃ b off, A = some ⟨b, off, none⟩ ∧ ∀ j v, vs[j]? = some v → W.cell? ⟨b, off + j, none⟩ = some v
/-- A row of nodes that is read. -/
def NdsIn (W : World) (A : Option Addr) (l : List Nd) : Prop := 0 < l.length → ∃ b off, A = some ⟨b, off, none⟩ ∧ ∀ j p, l[j]? = some p → W.cell? ⟨b, off + j * 2, none⟩ = some (.int .i64 p.1) ∧ W.cell? ⟨b, off + j * 2 + 1, none⟩ = some (.int .i64 p.2)
def RingIn (W : World) (v : Value) (l : List Nd) : Prop := ∃ A c, v = .slice A l.length c ∧ l.length ≤ c ∧ c ≤ maxLen ∧ NdsIn W A l
def RingsOf (W : World) (vs : List Value) (Ls : List (List Nd)) : Prop := vs.length = Ls.length ∧ ∀ (j : Nat) v l, vs[j]? = some v → Ls[j]? = some l → RingIn W v l
def RingsIn (W : World) (A : Option Addr) (Ls : List (List Nd)) : Prop := ∃ vs : List Value, CellsIn W A vs ∧ RingsOf W vs Ls
theorem CellsIn.low {W W' : World} {n : Nat} {A : Option Addr} {vs : List Value} (h : CellsIn W A vs) (hn : ∀ b off, A = some ⟨b, off, none⟩ → b < n) (hb : Below n W W') : CellsIn W' A vs := fun h0 => by
  obtain ⟨b, off, e, hc⟩ := h h0
  exact ⟨b, off, e, fun j v hj => (hb.cell (hn b off e)).trans (hc j v hj)⟩
theorem CellsIn.below {W W' : World} {A : Option Addr} {vs : List Value} (h : CellsIn W A vs) (hb : Below W.heap.size W W') : CellsIn W' A vs := fun h0 => by
  obtain ⟨b, off, e, hc⟩ := h h0
  exact ⟨b, off, e, fun j v hj => (hb.cell (World.block_lt_of_cell? W ⟨b, off + j, none⟩ (hc j v hj))).trans (hc j v hj)⟩
theorem NdsIn.below {W W' : World} {A : Option Addr} {l : List Nd} (h : NdsIn W A l) (hb : Below W.heap.size W W') : NdsIn W' A l := fun h0 => by
  obtain ⟨b, off, e, hc⟩ := h h0
  exact ⟨b, off, e, fun j p hj => ⟨(hb.cell (World.block_lt_of_cell? W ⟨b, off + j * 2, none⟩ (hc j p hj).1)).trans (hc j p hj).1, (hb.cell (World.block_lt_of_cell? W ⟨b, off + j * 2 + 1, none⟩ (hc j p hj).2)).trans (hc j p hj).2⟩⟩
theorem RingIn.below {W W' : World} {v : Value} {l : List Nd} (h : RingIn W v l) (hb : Below W.heap.size W W') : RingIn W' v l := by
  obtain ⟨A, c, e, h1, h2, h3⟩ := h
  exact ⟨A, c, e, h1, h2, h3.below hb⟩
theorem RingsOf.below {W W' : World} {vs : List Value} {Ls : List (List Nd)} (h : RingsOf W vs Ls) (hb : Below W.heap.size W W') : RingsOf W' vs Ls := ⟨h.1, fun j v l hv hl => (h.2 j v l hv hl).below hb⟩
theorem RingsIn.below {W W' : World} {A : Option Addr} {Ls : List (List Nd)} (h : RingsIn W A Ls) (hb : Below W.heap.size W W') : RingsIn W' A Ls := by
  obtain ⟨vs, h1, h2⟩ := h
  exact ⟨vs, h1.below hb, h2.below hb⟩
/-- A shape's cells. -/
def shV (s : Shp) (A : Option Addr) (c : Nat) : Array Value := #[.bool s.is, .int .i64 s.sg.1.1, .int .i64 s.sg.1.2, .int .i64 s.sg.2.1, .int .i64 s.sg.2.2, .slice A s.rs.length c]

theorem wpIn_scope_w {n : Nat} {P : Program} {Q : Exit → Act → World → Prop} {a : Act} {w : World} {c : Code} (h : c.wpIn Fence.wide n P (Exit.noGoto Q) a w) : (Code.scope c).wpIn Fence.wide n P Q a w :=
  (wpIn_wide (n := n)).2 (wp_scope_straight ((wpIn_wide (n := n)).1 h))
theorem rings_any (s : Shp) (A : Option Addr) (c : Nat) (w : World) :
    Calls Tryz.prog 35 #[.agg (shV s A c)] w fun e w' => ∃ b, e = .returned (.func (.func 62) #[] #[.pointer (some ⟨b, 0, none⟩)]) ∧ w'.heap[b]? = some (.cells (shV s A c) 29 (0, 0)) ∧ w.heap.size ≤ b ∧ Below w.heap.size w w' := by
  have hmf : ∀ (fn : Fn) (first cap : Array Value) (w : World), (Instr.makeFunc fn first cap).run Tryz.prog w = .ok (.func fn first cap) w := fun _ _ _ _ => rfl
  unfold shV
  go_enter Tryz.func35, Tryz.ntmps35
  go_wp2
  go_ret
  exact ⟨_, rfl, heap_at (by simp) _, by simp, by focus (repeat (first | (with_reducible exact Below.refl _ _) | (with_reducible assumption) | ((with_reducible refine Below.setCell ?_ ?_ _); rotate_left; (focus (first | omega | (simp; done) | (simp; omega)))) | ((with_reducible refine Below.alloc ?_ ?_ _); rotate_left; (focus (first | omega | (simp; done) | (simp; omega)))) | (with_reducible refine Below.drew ?_) | (refine below_on ?_ (by assumption))))⟩
set_option maxRecDepth 100000 in
set_option maxHeartbeats 4000000 in
theorem rings_stops (s : Shp) (A : Option Addr) (c : Nat) (vs : List Value) (hvl : vs.length = s.rs.length) (hlen : vs.length < 9223372036854775807) (n b n₀ : Nat) (w : World) (hn : n₀ ≤ w.heap.size)
    (hb : w.heap[b]? = some (.cells (shV s A c) 29 (0, 0))) (hcl : ∀ W, Below n₀ w W → CellsIn W A vs) :
    SeqL n Tryz.prog 62 #[.pointer (some ⟨b, 0, none⟩)] (fun v : Value => #[v]) (Below n₀) vs w := by
  intro l J Jx W hW hJ hJx hY h0
  have hb1 := (hW.block _ (lt_of_block hb)).trans hb
  unfold shV at hb1
  rw [← hvl] at hb1
  clear hvl
  refine callsIn_of_wp Tryz.func62 rfl trivial ?_ rfl
  simp only [Tryz.ntmps62, List.size_toArray, List.length_cons, List.length_nil, Nat.reduceAdd, Nat.reduceSub, Array.replicate_succ, Array.replicate_zero, List.push_toArray, List.append_toArray, List.nil_append, List.cons_append]
  have H0 := Hd.mk (And.intro hJ (And.intro hJx hY))
  clear hJ hJx hY
  have hc := cell_at hb1
  gi_wp2
  refine wpIn_scope_w ?_
  gi_wp2
  refine wpIn_label ?_
  gi_wp2
  gi_loopw [8] (fun i wr => ∃ k : Nat, k ≤ vs.length ∧ i = .int .i64 k ∧ J (vs.take k) wr ∧ W.heap.size ≤ wr.heap.size ∧ Below n₀ W wr) (fun i _ => vs.length - (intOf i).toNat)
  case atStart => exact ⟨0, Nat.zero_le _, rfl, h0, Nat.le_refl _, Below.refl _ _⟩
  case round =>
    clear hc hb1 h0
    obtain ⟨k, hk, rfl, hJk, hsz, hB⟩ := hrel
    by_cases hlt : k < vs.length
    · have hd1 : decide ((k : Int) < (vs.length : Int)) = true := by simp; omega
      have hd2 : decide (k < vs.length) = true := by simp; omega
      obtain ⟨bb, off, rfl, hcc⟩ := hcl wr ((hW.mono hn).trans hB) (by omega)
      obtain ⟨v, hv⟩ : ∃ v, vs[k]? = some v := ⟨_, List.getElem?_eq_getElem hlt⟩
      have hcv := hcc k v hv
      have htk : vs.take (k + 1) = vs.take k ++ [v] := by rw [List.take_add_one, hv]; rfl
      have hpx : vs.take k ++ [v] <+: vs := by rw [← htk]; exact List.take_prefix _ _
      obtain ⟨fn, tmps, assign, body, hy, hR⟩ := H0.out.2.2 _ v wr hpx hJk hsz
      have HT := Hd.mk htk
      have HP := Hd.mk hpx
      have HB := Hd.mk hB
      have HL := Hd.mk hlt
      clear hcc hv htk hpx hB hcl
      gi_wp2
      refine ⟨fun h => (by cases h), hR.mono ?_⟩
      rintro e W3 (⟨rfl, hJ3, hk3, hc3⟩ | ⟨rfl, hJ3, hc3⟩)
      · clear hcv hy hR
        gi_wp2
        go_roundw
        case rel => exact ⟨k + 1, HL.out, by go_num, by rw [HT.out]; exact hJ3, Nat.le_trans hsz hc3.size, HB.out.trans hk3⟩
        case measure => have := HL.out; simp [intOf]; omega
      · clear hcv hy hR
        gi_wp2
        unfold Exit.noGoto
        dsimp only
        go_end0
        exact ⟨⟨_, rfl⟩, .inr ⟨_, HP.out, hJ3⟩⟩
    · obtain rfl : k = vs.length := by omega
      have hd1 : decide (((vs.length : Nat) : Int) < (vs.length : Int)) = false := by simp
      have hJe : J vs wr := by
        have h := hJk
        rwa [List.take_length] at h
      clear hJk hcl
      gi_wp2
      unfold Exit.noGoto
      dsimp only
      go_end0
      exact ⟨⟨_, rfl⟩, .inl hJe⟩
end Go.Proofs.YtfchmikbebdflaaGreatDoor
