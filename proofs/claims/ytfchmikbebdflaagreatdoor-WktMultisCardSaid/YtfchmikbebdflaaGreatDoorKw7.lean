/-
  wkt: segment, and what Parse gives up with. Conditions stand in each theorem.
-/
import Derived.ArgAppend
import Derived.Deep.LoopGhost
import Derived.Laws.Concat
import Derived.Maps.AppendAt
import Derived.Test.YtfchmikbebdflaaGreatDoorSg3
import Derived.Test.YtfchmikbebdflaaGreatDoorKw4
namespace Go.Proofs.YtfchmikbebdflaaGreatDoor
open Go.RowKit Go.BigFrame Go.Shelf

/-- What polygon reads: the rings, and what is left. -/
noncomputable def polyW : Nat → Bs → Option (List (List Nd) × Bs)
  | 0, _ => none
  | n + 1, t => match eatP [[40]] t with
    | none => none
    | some (_, t1) => match cutC 41 t1 with
      | none => none
      | some (body, left) => match ringP body with
        | none => none
        | some l => match eatP [[44], [41]] left with
          | none => none
          | some (p, r) => if p = [41] then some ([l], r) else (polyW n r).map fun q => (l :: q.1, q.2)
theorem eat_one (c : UInt8) (t : Bs) : (eatP [[c]] t = none ∧ (t = [] ∨ ∃ a r, t = a :: r ∧ a ≠ c)) ∨ ∃ r, t = c :: r ∧ eatP [[c]] t = some ([c], r) := by
  cases t with
  | nil => exact .inl ⟨rfl, .inl rfl⟩
  | cons a r =>
    by_cases h : a = c
    · subst h
      exact .inr ⟨r, rfl, by simp [eatP, behind]⟩
    · exact .inl ⟨by simp [eatP, behind, Ne.symm h], .inr ⟨a, r, rfl, h⟩⟩
theorem eat_two (t : Bs) : (eatP [[44], [41]] t = none ∧ t ≠ [41] ∧ behind [44] t = none) ∨ (∃ r, t = 44 :: r ∧ eatP [[44], [41]] t = some ([44], r)) ∨ ∃ r, t = 41 :: r ∧ eatP [[44], [41]] t = some ([41], r) := by
  cases t with
  | nil => exact .inl ⟨rfl, by simp, rfl⟩
  | cons a r =>
    by_cases h : a = 44
    · subst h
      exact .inr (.inl ⟨r, rfl, by simp [eatP, behind]⟩)
    · by_cases h2 : a = 41
      · subst h2
        exact .inr (.inr ⟨r, rfl, by simp [eatP, behind]⟩)
      · exact .inl ⟨by simp [eatP, behind, Ne.symm h, Ne.symm h2], by simp [h2], by simp [behind, Ne.symm h]⟩
/-- What is read where nothing may be left. -/
theorem polyQ_of : ∀ (n : Nat) (t : Bs), t.length ≤ n → polyQ t = match polyW n t with
    | some (Ls, []) => some Ls
    | _ => none
  | 0, t, h => by
    obtain rfl : t = [] := List.eq_nil_of_length_eq_zero (by omega)
    rfl
  | n + 1, t, h => by
    rcases eat_one 40 t with ⟨he, rfl | ⟨a, r, rfl, ha⟩⟩ | ⟨t1, rfl, he⟩
    · rw [polyW, he, polyQ_nil]
    · rw [polyW, he, polyQ_not ha]
    · rw [polyW, he]
      simp only
      cases hc : cutC 41 t1 with
      | none => rw [polyQ_shut hc]
      | some q =>
        obtain ⟨body, left⟩ := q
        simp only
        cases hr : ringP body with
        | none => rw [polyQ_ring hc hr]
        | some l =>
          simp only
          rcases eat_two left with ⟨h1, h2, h3⟩ | ⟨r, rfl, h1⟩ | ⟨r, rfl, h1⟩
          · rw [h1, polyQ_end hc hr h2 h3]
          · rw [h1, polyQ_next hc hr]
            have hl : r.length ≤ n := by
              have e := (cutC_some hc).1
              rw [e] at h
              simp at h
              omega
            rw [polyQ_of n r hl]
            simp only
            rw [if_neg (by simp)]
            cases hp : polyW n r with
            | none => rfl
            | some q =>
              obtain ⟨Ls, left⟩ := q
              cases left <;> rfl
          · rw [h1]
            simp only
            rw [if_pos trivial]
            cases r with
            | nil => rw [polyQ_last hc hr]
            | cons a r => rw [polyQ_end hc hr (by simp) (by simp [behind])]
/-- Blocks of nodes are kept. -/
def NKept (W W' : World) : Prop := ∀ (b : Nat) (cur : Array Value), W.heap[b]? = some (.cells cur 24 (0, 0)) → W'.heap[b]? = some (.cells cur 24 (0, 0))
theorem NKept.refl (W : World) : NKept W W := fun _ _ h => h
theorem NKept.trans {A B C : World} (h : NKept A B) (k : NKept B C) : NKept A C := fun b cur e => k b cur (h b cur e)
theorem NKept.below {A B : World} (h : Below A.heap.size A B) : NKept A B := fun _ _ e => heap_below h e
theorem NKept.wr {b : Nat} {cs cs' : Array Value} {T T' : TypeId} {A B : World} (h : Wr b cs T A B) (hb : A.heap[b]? = some (.cells cs' T' (0, 0))) (hT : T' ≠ 24) : NKept A B := fun k cur e => by
  refine h.other k _ (fun ek => hT ?_) e
  subst ek
  rw [hb] at e
  injection e with e
  injection e
/-- A ring in a row of its own. -/
def RowN (W : World) (v : Value) (l : List Nd) : Prop := ∃ A c, v = .slice A l.length c ∧ l.length ≤ c ∧ c ≤ maxLen ∧ (0 < l.length → ∃ b cur, A = some ⟨b, 0, none⟩ ∧ W.heap[b]? = some (.cells cur 24 (0, 0)) ∧ ∀ (j : Nat) (p : Nd), l[j]? = some p → cur[j * 2]? = some (.int .i64 p.1) ∧ cur[j * 2 + 1]? = some (.int .i64 p.2))
theorem RowN.kept {W W' : World} {v : Value} {l : List Nd} (h : RowN W v l) (hk : NKept W W') : RowN W' v l := by
  obtain ⟨A, c, e, h1, h2, h3⟩ := h
  refine ⟨A, c, e, h1, h2, fun h0 => ?_⟩
  obtain ⟨b, cur, e1, e2, e3⟩ := h3 h0
  exact ⟨b, cur, e1, hk b cur e2, e3⟩
theorem RowN.ring {W : World} {v : Value} {l : List Nd} (h : RowN W v l) : RingIn W v l := by
  obtain ⟨A, c, e, h1, h2, h3⟩ := h
  refine ⟨A, c, e, h1, h2, fun h0 => ?_⟩
  obtain ⟨b, cur, e1, e2, e3⟩ := h3 h0
  refine ⟨b, 0, e1, fun j p hj => ?_⟩
  obtain ⟨q1, q2⟩ := e3 j p hj
  exact ⟨by rw [Nat.zero_add, cell_at e2]; exact q1, by rw [Nat.zero_add, cell_at e2]; exact q2⟩
def RowsN (W : World) (vs : List Value) (Ls : List (List Nd)) : Prop := vs.length = Ls.length ∧ ∀ (j : Nat) v l, vs[j]? = some v → Ls[j]? = some l → RowN W v l
theorem RowsN.kept {W W' : World} {vs : List Value} {Ls : List (List Nd)} (h : RowsN W vs Ls) (hk : NKept W W') : RowsN W' vs Ls := ⟨h.1, fun j v l hv hl => (h.2 j v l hv hl).kept hk⟩
theorem RowsN.snoc {W : World} {vs : List Value} {Ls : List (List Nd)} {v : Value} {l : List Nd} (h : RowsN W vs Ls) (hv : RowN W v l) : RowsN W (vs ++ [v]) (Ls ++ [l]) := by
  refine ⟨by simp [h.1], fun j u m hu hm => ?_⟩
  by_cases hj : j < vs.length
  · rw [List.getElem?_append_left hj] at hu
    rw [List.getElem?_append_left (by rw [← h.1]; exact hj)] at hm
    exact h.2 j u m hu hm
  · rw [List.getElem?_append_right (by omega)] at hu
    rw [List.getElem?_append_right (by rw [← h.1]; omega)] at hm
    have h0 : j - vs.length = 0 := by
      have := (List.getElem?_eq_some_iff.1 hu).1
      simp at this
      omega
    rw [h0] at hu
    rw [← h.1, h0] at hm
    simp at hu hm
    subst hu hm
    exact hv
/-- The nodes of a row that is owned. -/
def ndsC (l : List Nd) : List Value := l.flatMap fun p => [.int .i64 p.1, .int .i64 p.2]
theorem ndsC_append (a b : List Nd) : ndsC (a ++ b) = ndsC a ++ ndsC b := by unfold ndsC; rw [List.flatMap_append]
theorem ndsC_at : ∀ (l : List Nd) (j : Nat) (c : Nd), l[j]? = some c → (ndsC l)[j * 2]? = some (.int .i64 c.1) ∧ (ndsC l)[j * 2 + 1]? = some (.int .i64 c.2)
  | [], j, c, h => by simp at h
  | p :: l, 0, c, h => by
    obtain rfl : p = c := by simpa using h
    exact ⟨rfl, rfl⟩
  | p :: l, j + 1, c, h => by
    have h1 := ndsC_at l j c (by simpa using h)
    have e : ndsC (p :: l) = .int .i64 p.1 :: .int .i64 p.2 :: ndsC l := rfl
    rw [e, show (j + 1) * 2 = j * 2 + 1 + 1 by omega]
    simpa using h1
theorem own_row {W : World} {base : Nat} {v : Value} {l : List Nd} (h : W.ownsRow base 24 2 v l.length (ndsC l)) : RowN W v l := by
  rcases h.2 with ⟨rfl, h0⟩ | ⟨g, cap, cur, rfl, _, hg, hc, hm, hs, ht⟩
  · exact ⟨none, 0, by rw [h0], by omega, by unfold maxLen; omega, fun h => by omega⟩
  · refine ⟨_, cap, rfl, hc, hm, fun _ => ⟨g, cur, rfl, hg, fun j c hj => ?_⟩⟩
    have hjl : j < l.length := (List.getElem?_eq_some_iff.1 hj).1
    obtain ⟨h1, h2⟩ := ndsC_at l j c hj
    rw [← ht, List.getElem?_take, if_pos (by omega)] at h1 h2
    exact ⟨by simpa using h1, by simpa using h2⟩
/-- The row without its last element. -/
theorem RowN.less {W : World} {v : Value} {l : List Nd} (h : RowN W v l) : ∃ A c, v = .slice A l.length c ∧ l.length ≤ c ∧ RowN W (.slice A (l.length - 1) c) l.dropLast := by
  obtain ⟨A, c, e, h1, h2, h3⟩ := h
  refine ⟨A, c, e, h1, A, c, by rw [List.length_dropLast], by rw [List.length_dropLast]; omega, h2, fun h0 => ?_⟩
  rw [List.length_dropLast] at h0
  obtain ⟨b, cur, e1, e2, e3⟩ := h3 (by omega)
  refine ⟨b, cur, e1, e2, fun j p hj => e3 j p ?_⟩
  have hlt := (List.getElem?_eq_some_iff.1 hj).1
  rw [List.length_dropLast] at hlt
  rw [List.getElem?_dropLast] at hj
  simpa [hlt] using hj
theorem nodesP_take {ts : List Bs} {k : Nat} {t : Bs} {p : Nd} {l : List Nd} (h : nodesP (ts.take k) = some l) (ht : ts[k]? = some t) (hp : nodeP t = some p) : nodesP (ts.take (k + 1)) = some (l ++ [p]) := by
  rw [List.take_add_one, ht]
  have app : ∀ (a : List Bs) (m : List Nd), nodesP a = some m → nodesP (a ++ [t]) = some (m ++ [p]) := by
    intro a
    induction a with
    | nil =>
      intro m hm
      obtain rfl : [] = m := by simpa [nodesP] using hm
      simp [nodesP, hp]
    | cons x a ih =>
      intro m hm
      simp only [nodesP] at hm
      rw [List.cons_append, nodesP]
      split at hm
      · cases hm
      · rename_i q hq
        try rw [hq]
        cases ha : nodesP a with
        | none => rw [ha] at hm; cases hm
        | some m' =>
          rw [ha] at hm
          obtain rfl : q :: m' = m := by simpa using hm
          rw [ih m' ha]
          rfl
  exact app _ l h
theorem nodesP_bad {ts : List Bs} {k : Nat} {t : Bs} (ht : ts[k]? = some t) (hp : nodeP t = none) : nodesP ts = none := by
  induction ts generalizing k with
  | nil => simp at ht
  | cons x ts ih =>
    rw [nodesP]
    cases k with
    | zero =>
      obtain rfl : x = t := by simpa using ht
      rw [hp]
    | succ k =>
      cases nodeP x with
      | none => rfl
      | some q =>
        simp only
        rw [ih (k := k) (by simpa using ht)]
        rfl
end Go.Proofs.YtfchmikbebdflaaGreatDoor

namespace Go.Proofs.YtfchmikbebdflaaGreatDoor
open Go.RowKit Go.BigFrame Go.Shelf
attribute [local go_sem] Oper.semAt_some
attribute [-go_sem] Builtin.append_

/-- The reader's cells. -/
def rdC (rb : Nat) (is : Bool) (g : Sgm) (v : Value) : Array Value := #[.pointer (some ⟨rb, 0, none⟩), .bool is, .int .i64 g.1.1, .int .i64 g.1.2, .int .i64 g.2.1, .int .i64 g.2.2, v]
theorem infoNodeW : (Tryz.prog.info? 24).map (fun i => (i.zero, i.size, i.bytes)) = some (some (.agg #[.int .i64 0, .int .i64 0]), 2, 16) := by kernel_rfl
theorem infoRingW : (Tryz.prog.info? 30).map (fun i => (i.zero, i.size, i.bytes)) = some (some (.slice none 0 0), 1, 24) := by kernel_rfl
/-- Split at commas. -/
theorem wsplit_any (t : Bs) (ht : t.length ≤ 1100000) (w : World) (hV : Vars w) :
    ∃ n, n = (splitC 44 t).length ∧ Calls Tryz.prog 58 #[.string (bs t), .string ⟨#[44]⟩] w fun e w' => e = .returned (.slice (some ⟨w.heap.size, 0, none⟩) n n) ∧ w' = w.alloc (.cells ((splitC 44 t).map fun x => Value.string (bs x)).toArray 9) := by
  obtain ⟨m, hm⟩ := hV.max
  have h := sh_strings_Split (bs t) ⟨#[44]⟩ m w (by simp [ByteArray.size]; omega) hm (by decide)
  have e := splitB_list 44 (bs t)
  have e2 : (Lib.splitB ⟨#[44]⟩ 0 (Lib.countB (bs t) ⟨#[44]⟩) (bs t)).map Value.string = (splitC 44 t).map fun x => Value.string (bs x) := by
    have e3 : ∀ l : List ByteArray, l.map Value.string = (l.map (·.data.toList)).map fun x => Value.string (bs x) := fun l => by
      rw [List.map_map]
      congr 1
    rw [e3, e]
  have e4 : (splitC 44 t).length = Lib.countB (bs t) ⟨#[44]⟩ + 1 := by
    rw [← e, List.length_map]
    exact Lib.splitB_all ⟨#[44]⟩ (by decide) 0 _ _ rfl
  refine ⟨_, e4.symm, h.mono ?_⟩
  rintro x w' ⟨rfl, rfl⟩
  exact ⟨rfl, by rw [e2]⟩
theorem splitC_len (c : UInt8) : ∀ l : Bs, (splitC c l).length ≤ l.length + 1
  | [] => by simp [splitC]
  | a :: l => by
    have h := splitC_len c l
    simp only [splitC]
    split
    · simpa using h
    · split
      · simp
      · rename_i p ps e
        rw [e] at h
        simp at h ⊢
        omega
theorem splitC_each (c : UInt8) : ∀ l : Bs, ∀ p ∈ splitC c l, p.length ≤ l.length
  | [], p, h => by
    simp [splitC] at h
    simp [h]
  | a :: l, p, h => by
    have ih := splitC_each c l
    simp only [splitC] at h
    split at h
    · rcases List.mem_cons.1 h with rfl | h
      · simp
      · have := ih p h
        simp
        omega
    · split at h
      · simp at h
        simp [h]
      · rename_i q qs e
        rw [e] at ih
        rcases List.mem_cons.1 h with rfl | h
        · have := ih q (by simp)
          simp
          omega
        · have := ih p (by simp [h])
          simp
          omega
theorem polyW_eat {n : Nat} {t : Bs} (h : eatP [[40]] t = none) : polyW n t = none := by
  cases n with
  | zero => rfl
  | succ n => rw [polyW, h]
theorem polyW_shut {n : Nat} {t t1 : Bs} {p : Bs} (h : eatP [[40]] t = some (p, t1)) (hc : cutC 41 t1 = none) : polyW n t = none := by
  cases n with
  | zero => rfl
  | succ n =>
    rw [polyW, h]
    simp only
    rw [hc]
theorem polyW_ring {n : Nat} {t t1 body left : Bs} {p : Bs} (h : eatP [[40]] t = some (p, t1)) (hc : cutC 41 t1 = some (body, left)) (hr : ringP body = none) : polyW n t = none := by
  cases n with
  | zero => rfl
  | succ n =>
    rw [polyW, h]
    simp only
    rw [hc]
    simp only
    rw [hr]
theorem polyW_end {n : Nat} {t t1 body left : Bs} {p : Bs} {l : List Nd} (h : eatP [[40]] t = some (p, t1)) (hc : cutC 41 t1 = some (body, left)) (hr : ringP body = some l) (he : eatP [[44], [41]] left = none) : polyW n t = none := by
  cases n with
  | zero => rfl
  | succ n =>
    rw [polyW, h]
    simp only
    rw [hc]
    simp only
    rw [hr]
    simp only
    rw [he]
theorem polyW_last {n : Nat} {t t1 body left : Bs} {p r : Bs} {l : List Nd} (h : eatP [[40]] t = some (p, t1)) (hc : cutC 41 t1 = some (body, left)) (hr : ringP body = some l) (he : eatP [[44], [41]] left = some ([41], r)) : polyW (n + 1) t = some ([l], r) := by
  rw [polyW, h]
  simp only
  rw [hc]
  simp only
  rw [hr]
  simp only
  rw [he]
  simp
theorem polyW_next {n : Nat} {t t1 body left : Bs} {p r : Bs} {l : List Nd} (h : eatP [[40]] t = some (p, t1)) (hc : cutC 41 t1 = some (body, left)) (hr : ringP body = some l) (he : eatP [[44], [41]] left = some ([44], r)) : polyW (n + 1) t = (polyW n r).map fun q => (l :: q.1, q.2) := by
  rw [polyW, h]
  simp only
  rw [hc]
  simp only
  rw [hr]
  simp only
  rw [he]
  simp
theorem eatP_len : ∀ {ws : List Bs} {t p r : Bs}, eatP ws t = some (p, r) → t = p ++ r ∧ p ∈ ws
  | [], _, _, _, h => by cases h
  | q :: ws, t, p, r, h => by
    simp only [eatP] at h
    split at h
    · rename_i r' hb
      obtain ⟨rfl, rfl⟩ : q = p ∧ r' = r := by simpa using h
      exact ⟨behind_some hb, by simp⟩
    · obtain ⟨e1, e2⟩ := eatP_len h
      exact ⟨e1, by simp [e2]⟩
/-- The state while polygon reads. -/
structure PSt (n₀ rd rb : Nat) (tx : Bs) (Ls : List (List Nd)) (vs : List Value) (v : Value) (w W : World) : Prop where
  text : W.heap[rb]? = some (.cells #[.string (bs tx)] 66 (0, 0))
  read : W.heap[rd]? = some (.cells #[.pointer (some ⟨rb, 0, none⟩), .bool false, .int .i64 0, .int .i64 0, .int .i64 0, .int .i64 0, v] 68 (0, 0))
  own : W.ownsRow n₀ 30 1 v Ls.length vs
  rows : RowsN W vs Ls
  low : Below n₀ w W
theorem PSt.below {n₀ rd rb : Nat} {tx : Bs} {Ls : List (List Nd)} {vs : List Value} {v : Value} {w W W' : World} (h : PSt n₀ rd rb tx Ls vs v w W) (h2 : n₀ ≤ rd) (hb : Below W.heap.size W W') : PSt n₀ rd rb tx Ls vs v w W' :=
  ⟨heap_below hb h.text, heap_below hb h.read, own_below h.own hb, h.rows.kept (NKept.below hb), h.low.trans (hb.mono (by have := lt_of_block h.read; omega))⟩
theorem own_ne {W : World} {base size n b : Nat} {e T : TypeId} {v : Value} {xs : List Value} {cs : Array Value} (h : W.ownsRow base e size v n xs) (hb : W.heap[b]? = some (.cells cs T (0, 0))) (hT : T ≠ e) : v.ownBlock = none ∨ v.ownBlock ≠ some b := by
  rcases h.2 with ⟨rfl, _⟩ | ⟨g, cap, cur, rfl, _, hg, _⟩
  · exact .inl rfl
  · refine .inr fun e => hT ?_
    have e2 : g = b := by simpa [Value.ownBlock] using e
    subst e2
    rw [hb] at hg
    injection hg with hg
    injection hg
theorem Wr.grown {b : Nat} {cs : Array Value} {T : TypeId} {w W : World} (h : Wr b cs T w W) : w.grownBy W (some b) := by
  have h0 := h.below 0 (Nat.zero_le _)
  refine ⟨h0.os, h0.tape, h0.output, h0.size, fun k hk hne => ?_⟩
  obtain ⟨o, ho⟩ : ∃ o, w.heap[k]? = some o := ⟨_, Array.getElem?_eq_getElem hk⟩
  rw [ho]
  exact h.other k o (fun e => hne (by rw [e])) ho
theorem PSt.wr {n₀ rd rb : Nat} {tx tx' : Bs} {Ls : List (List Nd)} {vs : List Value} {v : Value} {w W W' : World} (h : PSt n₀ rd rb tx Ls vs v w W) (h1 : n₀ ≤ rb) (hW : Wr rb #[.string (bs tx')] 66 W W') : PSt n₀ rd rb tx' Ls vs v w W' := by
  have hne : rd ≠ rb := fun e => by
    have := h.read
    rw [e, h.text] at this
    simp at this
  exact ⟨hW.here, hW.other _ _ hne h.read, h.own.kept hW.grown (own_ne h.own h.text (by decide)), h.rows.kept (NKept.wr hW h.text (by decide)), h.low.trans (hW.below _ h1)⟩
theorem PSt.push {n₀ rd rb : Nat} {tx : Bs} {Ls : List (List Nd)} {vs : List Value} {v : Value} {w W w1 : World} (h : PSt n₀ rd rb tx Ls vs v w W) (h2 : n₀ ≤ rd) {l : List Nd} {rv v' : Value} (hrow : RowN W rv l) {ty : TypeId}
    (hown : w1.ownsRow n₀ 30 1 v' (Ls.length + 1) (vs ++ [rv])) (hgrow : (W.alloc (.cells #[rv] ty)).drew.grownBy w1 v.ownBlock) :
    PSt n₀ rd rb tx (Ls ++ [l]) (vs ++ [rv]) v' w (w1.setCell ⟨rd, 6, none⟩ v') ∧ w1.cell? ⟨rd, 6, none⟩ = some v ∧ w1.frozen? ⟨rd, 6, none⟩ = false := by
  have hold : ∀ k o, W.heap[k]? = some o → v.ownBlock ≠ some k → w1.heap[k]? = some o := fun k o ho hne => (hgrow.block k (by have := lt_of_block ho; simp; omega) (fun e => hne e.symm)).trans (heap_old ho _)
  have ne : ∀ {b : Nat} {cs : Array Value} {T : TypeId}, W.heap[b]? = some (.cells cs T (0, 0)) → T ≠ 30 → v.ownBlock ≠ some b := fun hb hT => by
    rcases own_ne h.own hb hT with e | e
    · rw [e]
      exact fun x => by cases x
    · exact e
  have y1 := hold _ _ h.text (ne h.text (by decide))
  have y2 := hold _ _ h.read (ne h.read (by decide))
  have hk1 : NKept W w1 := fun k cur e => hold k _ e (ne e (by decide))
  have hne : rb ≠ rd := fun e => by
    have := h.read
    rw [← e, h.text] at this
    simp at this
  have hW : Wr rd #[.pointer (some ⟨rb, 0, none⟩), .bool false, .int .i64 0, .int .i64 0, .int .i64 0, .int .i64 0, v'] 68 w1 (w1.setCell ⟨rd, 6, none⟩ v') :=
    ⟨(heap_set y2 6 v').trans (by rfl), fun k o hk ho => heap_set_other ho hk _, fun n hn => (Below.refl n w1).setCell (p := ⟨rd, 6, none⟩) hn _⟩
  have hk2 : NKept w1 (w1.setCell ⟨rd, 6, none⟩ v') := NKept.wr hW y2 (by decide)
  have hlow : Below n₀ W w1 := (Below.drew (Below.alloc (Below.refl n₀ W) (by have := lt_of_block h.read; omega) _)).trans (below_grown hgrow (fun k hk => (h.own.lt k hk).1) (by have := lt_of_block h.read; simp; omega))
  refine ⟨⟨heap_set_other y1 hne _, hW.here, ?_, ?_, (h.low.trans hlow).trans (hW.below _ h2)⟩, cell_at y2 6, frozen_at y2 6⟩
  · rw [List.length_append]
    exact hown.kept hW.grown (own_ne hown y2 (by decide))
  · exact (h.rows.snoc hrow).kept (hk1.trans hk2)
theorem cell_two_new (w : World) (p q : Value) (t : TypeId) : ∀ j u, [p, q][j]? = some u → (w.alloc (.cells #[p, q] t)).cell? ((⟨w.heap.size, 0, none⟩ : Addr).add j) = some u := by
  intro j u hj
  have hc := cell_at (heap_new w (.cells #[p, q] t))
  have e : (⟨w.heap.size, 0, none⟩ : Addr).add j = ⟨w.heap.size, j, none⟩ := by
    unfold Addr.add
    split
    · rename_i h; subst h; rfl
    · simp
  rw [e, hc]
  simpa using hj
/-- What polygon leaves. -/
def PolyPost (n₀ rd rb n : Nat) (t : Bs) (e : Ending) (w w' : World) : Prop := Below n₀ w w' ∧
  ((∃ Ls r vs v, polyW n t = some (Ls, r) ∧ e = .returned (.tuple #[]) ∧ w'.heap[rb]? = some (.cells #[.string (bs r)] 66 (0, 0)) ∧ w'.heap[rd]? = some (.cells (rdC rb false ((0, 0), (0, 0)) v) 68 (0, 0)) ∧
      w'.ownsRow n₀ 30 1 v Ls.length vs ∧ RowsN w' vs Ls) ∨
   (polyW n t = none ∧ e = .panicked [{ v := .iface 31 (.int .i64 190), recovered := false }]))
set_option maxRecDepth 100000 in
set_option maxHeartbeats 8000000 in
theorem polygon_any (rd rb n₀ : Nat) (t : Bs) (ht : t.length ≤ 1100000) (w : World) (hV : Vars w) (hn : 7 + 1 ≤ n₀) (h1 : n₀ ≤ rb) (h2 : n₀ ≤ rd)
    (hrb : w.heap[rb]? = some (.cells #[.string (bs t)] 66 (0, 0))) (hrd : w.heap[rd]? = some (.cells (rdC rb false ((0, 0), (0, 0)) (.slice none 0 0)) 68 (0, 0))) :
    Calls Tryz.prog 30 #[.pointer (some ⟨rd, 0, none⟩)] w fun e w' => PolyPost n₀ rd rb t.length t e w w' := by
  have HP : Hd (∀ w', polyW t.length t = none → Below n₀ w w' → PolyPost n₀ rd rb t.length t (.panicked [{ v := .iface 31 (.int .i64 190), recovered := false }]) w w') := ⟨fun _ h hb => ⟨hb, .inr ⟨h, rfl⟩⟩⟩
  have HV := Hd.mk hV
  have hst : PSt n₀ rd rb t [] [] (.slice none 0 0) w w := ⟨hrb, hrd, ⟨rfl, .inl ⟨rfl, rfl⟩⟩, ⟨rfl, by simp⟩, Below.refl _ _⟩
  clear hV hrb hrd
  go_enter Tryz.func30, Tryz.ntmps30
  go_wp2
  go_loopg [2] (t.length) (fun gk _ wr => ∃ (t' : Bs) (Ls : List (List Nd)) (vs : List Value) (v : Value), Hd (polyW t.length t = (polyW gk t').map fun q => (Ls ++ q.1, q.2)) ∧ t'.length ≤ gk ∧ gk ≤ t.length ∧ PSt n₀ rd rb t' Ls vs v w wr ∧ Ls.length + gk ≤ t.length)
  case atStart =>
    refine ⟨t, [], [], .slice none 0 0, ⟨?_⟩, Nat.le_refl _, Nat.le_refl _, hst, by simp⟩
    cases polyW t.length t <;> rfl
  case round =>
    clear hst
    obtain ⟨t', Ls, vs, v, HPW, htl, hgl, hst, hLg⟩ := hrel
    have c0 := cell_at hst.read
    go_wp2_with fail
    refine (eat_any rb wr.heap.size 1 [[40]] t' _ (by decide) (heap_old hst.text _) ?_).mono ?_
    · intro j p hp
      match j, hp with
      | 0, hp =>
        obtain rfl : [40] = p := by simpa using hp
        exact cell_at (heap_new _ _) 0
    rintro e w1 (⟨p, t1, hE, rfl, hW⟩ | ⟨hE, rfl, rfl⟩)
    rotate_left
    · exact ⟨rfl, HP.out _ (by rw [HPW.out, polyW_eat hE]; rfl) (hst.low.alloc (by have := lt_of_block hst.read; omega) _)⟩
    have hst1 := (hst.below h2 ((Below.refl _ _).alloc (Nat.le_refl _) _)).wr h1 hW
    have hp40 : p = [40] := by simpa using (eatP_len hE).2
    subst hp40
    have ht1 : t' = 40 :: t1 := (eatP_len hE).1
    have hl1 : t1.length + 1 ≤ gk := by rw [ht1] at htl; simpa using htl
    clear hW hst c0
    have c0 := cell_at hst1.read
    cases hc : cutC 41 t1 with
    | none =>
      go_wp2_with fail
      refine (until_no rb t1 (by omega) hc w1 (HV.out.low hn hst1.low) hst1.text).mono ?_
      rintro e w2 ⟨rfl, hb⟩
      exact ⟨rfl, HP.out _ (by rw [HPW.out, polyW_shut hE hc]; rfl) (hst1.low.trans (hb.mono (by have := lt_of_block hst1.read; omega)))⟩
    | some q =>
    obtain ⟨body, left⟩ := q
    go_wp2_with fail
    refine (until_ok rb t1 body left (by omega) hc w1 (HV.out.low hn hst1.low) hst1.text).mono ?_
    rintro e w2 ⟨rfl, hW⟩
    have hst2 := hst1.wr h1 hW
    have hbl : body.length + left.length + 1 = t1.length := by
      have e := (cutC_some hc).1
      rw [e]
      simp
      omega
    clear hst1 hW c0
    go_wp2_with fail
    obtain ⟨n, hn1, hcs⟩ := wsplit_any body (by omega) w2 (HV.out.low hn hst2.low)
    refine hcs.mono ?_
    rintro e w3 ⟨rfl, rfl⟩
    clear hcs
    have hst3 := hst2.below h2 ((Below.refl _ _).alloc (Nat.le_refl _) (.cells ((splitC 44 body).map fun x => Value.string (bs x)).toArray 9))
    have hpc := heap_new w2 (.cells ((splitC 44 body).map fun x => Value.string (bs x)).toArray 9)
    have hnl : n ≤ 1100000 := by
      have := splitC_len 44 body
      omega
    have heach : Hd (∀ p ∈ splitC 44 body, p.length ≤ 1100000) := ⟨fun p hp => by have := splitC_each 44 body p hp; omega⟩
    have HRP : Hd (ringP body = (nodesP (splitC 44 body)).bind shut) := ⟨rfl⟩
    generalize splitC 44 body = ps at hn1 hst3 hpc heach HRP ⊢
    generalize w2.alloc (.cells (ps.map fun x => Value.string (bs x)).toArray 9) = w4 at hst3 hpc ⊢
    have HPC := Hd.mk hpc
    have hb4 := lt_of_block hpc
    generalize w2.heap.size = d at hpc HPC hb4 ⊢
    clear hst2 hpc
    have HNL : Hd (∀ x, nodesP ps = x → ringP body = x.bind shut) := ⟨fun x hx => by rw [HRP.out, hx]⟩
    clear HRP
    go_wp2
    go_loopw [2, 18] (fun v2 iv wr => ∃ (k : Nat) (dn : List Nd), iv = .int .i64 k ∧ k ≤ n ∧ Hd (nodesP (ps.take k) = some dn) ∧ dn.length = k ∧ Hd (wr.ownsRow w4.heap.size 24 2 v2 dn.length (ndsC dn)) ∧ Below w4.heap.size w4 wr) (fun _ iv _ => n - (intOf iv).toNat)
    case atStart => exact ⟨0, [], rfl, Nat.zero_le _, ⟨by simp [nodesP]⟩, rfl, ⟨⟨rfl, .inl ⟨rfl, rfl⟩⟩⟩, Below.refl _ _⟩
    case round =>
      obtain ⟨k, dn, rfl, hk, HND, hdl, HOW, hB⟩ := hrel
      by_cases hkn : k < n
      · have hd1 : decide ((k : Int) < (n : Int)) = true := by simp; omega
        have hd2 : decide (k < n) = true := by simp; omega
        obtain ⟨pc, hpk⟩ : ∃ pc, ps[k]? = some pc := ⟨_, List.getElem?_eq_getElem (by omega)⟩
        have hcc : wr.cell? ⟨d, k, none⟩ = some (.string (bs pc)) := by
          rw [cell_at (heap_below hB HPC.out)]
          simp [hpk]
        have hpl := heach.out pc (List.mem_of_getElem? hpk)
        have hVr : Vars wr := HV.out.low hn (hst3.low.trans (hB.mono (by have := lt_of_block hst3.read; omega)))
        rcases corner_any pc hpl with ⟨pt, hpt, HC⟩ | ⟨hpt, HC⟩
        · have HND2 := Hd.mk (nodesP_take HND.out hpk hpt)
          have HVR := Hd.mk hVr
          clear hpk hpt hVr
          obtain ⟨x, y⟩ := pt
          simp only [ndV] at HC
          go_wp2_with fail
          refine (HC.out _ HVR.out).mono ?_
          rintro e w5 ⟨rfl, hb⟩
          have HOW5 := Hd.mk (own_below HOW.out hb)
          have hB5 := below_on hB hb
          have hsz := hB5.size
          clear hb hcc
          obtain ⟨i0, hi, hz0, hz1, hz2⟩ := info_parts infoNodeW
          have hu : Tryz.prog.underlying 30 = some (.slice 24) := by kernel_rfl
          go_wp2_with (at_builtin; refine wpList_append_own_at _ rfl (.tmp 22) (.tmp 25) 30 rfl w4.heap.size 24 i0 (.agg #[.int .i64 0, .int .i64 0]) 2 16 hu hi hz0 hz1 hz2 rfl (by decide) _ dn.length _ rfl (HOW5.out.alloc _) ⟨w5.heap.size, 0, none⟩ 1 1 [.int .i64 x, .int .i64 y] rfl rfl (cell_two_new _ _ _ _) ?c2 ?b1 ?b2 ?b3 ?go)
          case c2 => intro u hu; simp at hu; rcases hu with rfl | rfl <;> rfl
          case b1 => unfold maxLen; omega
          case b2 => omega
          case b3 => simp; omega
          case go =>
            intro v' w6 hown' hgrow _ hat
            have hr : ∀ k, u2.ownBlock = some k → w4.heap.size ≤ k := fun k hk => own_ge HOW5.out hk
            have hb6 : Below w4.heap.size w4 w6 := (hB5.alloc hB5.size _).trans (below_grown hgrow (fun k hk => hr k hk) (by simp; omega))
            have HO6 := Hd.mk hown'
            clear hown' hgrow hat hr hi hz0 hz1 hz2 hu HOW HOW5
            go_wp2
            go_roundw
            case rel =>
              refine ⟨k + 1, dn ++ [(x, y)], by go_num, by omega, HND2, by simp [hdl], ⟨?_⟩, hb6⟩
              rw [List.length_append, ndsC_append]
              show w6.ownsRow _ _ _ _ (dn.length + 1) (ndsC dn ++ [.int .i64 x, .int .i64 y])
              rw [hdl]
              exact HO6.out
            case measure => simp [intOf]; omega
        · have hbad := HNL.out _ (nodesP_bad hpk hpt)
          have HVR := Hd.mk hVr
          have hr0 : ringP body = none := hbad
          clear hpk hpt hVr hbad
          go_wp2_with fail
          refine (HC.out _ HVR.out).mono ?_
          rintro e w5 ⟨rfl, hb⟩
          exact ⟨rfl, HP.out _ (by rw [HPW.out, polyW_ring hE hc hr0]; rfl) ((hst3.low.trans (hB.mono (by have := lt_of_block hst3.read; omega))).trans (hb.mono (by have := hB.size; have := lt_of_block hst3.read; omega)))⟩
      · obtain rfl : k = n := by omega
        subst hn1
        have hd1 : decide (((ps.length : Nat) : Int) < (ps.length : Int)) = false := by simp
        have hnd : nodesP ps = some dn := by
          have := HND.out
          rwa [List.take_of_length_le (by omega)] at this
        have hring : ringP body = shut dn := HNL.out _ hnd
        have hrow := own_row HOW.out
        have hst5 := hst3.below h2 hB
        have HR := Hd.mk hring
        have HL := Hd.mk (And.intro hl1 (And.intro hbl (And.intro htl (And.intro hgl hLg))))
        have hV5 := Hd.mk (HV.out.low hn hst5.low)
        have hdl2 : dn.length ≤ 1100000 := by omega
        clear hnd hring HND HOW HNL heach HPC hk hkn hnl hdl hB hst3 hb4 hl1 hbl htl hgl hLg
        have hsz := lt_of_block hst5.read
        by_cases h3 : 3 < dn.length
        · have hd3 : decide ((dn.length : Int) > 3) = true := by simp; omega
          obtain ⟨A, cp, rfl, hcp, hless⟩ := hrow.less
          obtain ⟨A2, c2, e2, _, _, hcells⟩ := hrow
          injection e2 with e3 _ e4
          subst e3 e4
          obtain ⟨g, cur, rfl, hg, hcur⟩ := hcells (by omega)
          obtain ⟨m, hm⟩ : ∃ m, dn.length = m + 1 := ⟨dn.length - 1, by omega⟩
          obtain ⟨⟨x0, y0⟩, hp0⟩ : ∃ p, dn[0]? = some p := ⟨_, List.getElem?_eq_getElem (by omega)⟩
          obtain ⟨⟨x9, y9⟩, hp9⟩ : ∃ p, dn[m]? = some p := ⟨_, List.getElem?_eq_getElem (by omega)⟩
          have hE2 : (dn.head? = dn.getLast?) ↔ (x0 = x9 ∧ y0 = y9) := by
            rw [List.head?_eq_getElem?, List.getLast?_eq_getElem?, hp0, hm, Nat.add_sub_cancel, hp9]
            simp
          have HG := Hd.mk hg
          have HC0 := Hd.mk (hcur 0 _ hp0)
          have HC9 := Hd.mk (hcur m _ hp9)
          have HLS := Hd.mk hless
          have HEQ := Hd.mk hE2
          have HST := Hd.mk hst5
          rw [hm] at hd3 h3 hdl2 hcp ⊢
          have HM := Hd.mk hm
          have hd4 : decide (3 < (m : Int) + 1) = true := by simp; omega
          clear hcells hg hcur hp0 hp9 hless hE2 hst5 hm
          have hno : ¬ (x0 = x9 ∧ y0 = y9) → ringP body = none := fun he => by
            rw [HR.out]
            unfold shut
            rw [if_neg (fun h => he (HEQ.out.1 h.2))]
          have hyes : (x0 = x9 ∧ y0 = y9) → ringP body = some dn.dropLast := fun he => by
            rw [HR.out]
            unfold shut
            rw [if_pos ⟨by rw [HM.out]; exact h3, HEQ.out.2 he⟩]
          have HNO := Hd.mk hno
          have HYES := Hd.mk hyes
          clear hno hyes HR HEQ
          by_cases hxx : x0 = x9
          · by_cases hyy : y0 = y9
            · have hring := HYES.out ⟨hxx, hyy⟩
              have HRG := Hd.mk hring
              subst hxx hyy
              clear hring HNO HYES
              go_wp2
              refine region_qt 15 (by kernel_rfl) (by kernel_rfl) fun X _ mk hmk hcl => ?_
              have ew0 : ∀ x : X, (mk x).cell? ⟨g, 0, none⟩ = some (.int .i64 x0) := fun x => (mk_cell hmk HG.out x 0).trans HC0.out.1
              have ew1 : ∀ x : X, (mk x).cell? ⟨g, 1, none⟩ = some (.int .i64 y0) := fun x => (mk_cell hmk HG.out x 1).trans HC0.out.2
              have ew2 : ∀ x : X, (mk x).cell? ⟨g, m * 2, none⟩ = some (.int .i64 x0) := fun x => (mk_cell hmk HG.out x _).trans HC9.out.1
              have ew3 : ∀ x : X, (mk x).cell? ⟨g, m * 2 + 1, none⟩ = some (.int .i64 y0) := fun x => (mk_cell hmk HG.out x _).trans HC9.out.2
              simp only [List.take_succ_cons, List.take_zero, List.drop_succ_cons, List.drop_zero]
              repeat (go_big_quiet_step (skip))
              refine wpQuiet_nil ?_
              rintro _ ⟨x, rfl⟩
              clear ew0 ew1 ew2 ew3
              have hx := hmk x
              clear hcl hmk
              generalize mk x = W6 at hx
              have hst6 := HST.out.below h2 hx
              have hls6 := (HLS.out).kept (NKept.below hx)
              clear hx
              go_upto_region 8 with (go_at_call 28; refine (wkt_must_ok _ _).mono ?_; rintro e w7 ⟨rfl, rfl⟩)
              have hls7 : RowN w7 (.slice (some ⟨g, 0, none⟩) m cp) dn.dropLast := by
                have := hls6
                rwa [HM.out, Nat.add_sub_cancel] at this
              obtain ⟨i1, hi, hz0, hz1, hz2⟩ := info_parts infoRingW
              have hu : Tryz.prog.underlying 27 = some (.slice 30) := by kernel_rfl
              have hrd7 := lt_of_block hst6.read
              have hLl := HL.out
              have hsl1 : (m : Int) ≤ (cp : Int) := by omega
              have hsl2 : m ≤ cp := by omega
              obtain ⟨v', w8, hr, hown', hgrow, _, _⟩ := run_append_own_at (P := Tryz.prog) ((w7.alloc (.cells #[.slice (some ⟨g, 0, none⟩) m cp] 30)).drew) n₀ 27 27 30 i1 (.slice none 0 0) 1 24 hu hi hz0 hz1 hz2 rfl (by decide) v Ls.length vs
                (own_below hst6.own (by focus (repeat (first | (with_reducible exact Below.refl _ _) | (with_reducible assumption) | ((with_reducible refine Below.setCell ?_ ?_ _); rotate_left; (focus (first | omega | (simp; done) | (simp; omega)))) | ((with_reducible refine Below.alloc ?_ ?_ _); rotate_left; (focus (first | omega | (simp; done) | (simp; omega)))) | (with_reducible refine Below.drew ?_) | (refine below_on ?_ (by assumption)))))) ⟨w7.heap.size, 0, none⟩ 1 1 [.slice (some ⟨g, 0, none⟩) m cp] rfl (cell_one_new _ _ _) (by intro u hu; simp at hu; subst hu; rfl) (by unfold maxLen; omega) (by omega) (by simp; omega)
              obtain ⟨gg, cc, rfl⟩ : ∃ gg cc, v' = .slice (some ⟨gg, 0, none⟩) (Ls.length + 1) cc := by
                rcases hown'.2 with ⟨_, h0⟩ | ⟨g', c', cur', e, _⟩
                · omega
                · exact ⟨g', c', e⟩
              obtain ⟨hst8, hc8, hf8⟩ := hst6.push h2 hls7 hown' hgrow
              have HF := Hd.mk hst8
              have c6 := cell_at hst6.read
              have c7 : (w7.alloc (.cells #[.slice (some ⟨g, 0, none⟩) m cp] 30)).cell? ⟨rd, 6, none⟩ = some v := cell_at (heap_old hst6.read _) 6
              clear hst8 hown' hgrow hi hz0 hz1 hz2 hu hst6 hls6 hls7 hLl
              refine region_abs_w (fun a0 a' w' => ∃ vv : Nat → Value, (PSt n₀ rd rb left (Ls ++ [dn.dropLast]) (vs ++ [.slice (some ⟨g, 0, none⟩) m cp]) (.slice (some ⟨gg, 0, none⟩) (Ls.length + 1) cc) w w') ∧ (a' = Act.put (Act.put (Act.put (Act.put (Act.put (Act.put (Act.put (Act.put (Act.put (Act.put (Act.put (Act.put (Act.put (Act.put (Act.put (Act.put a0 (some 44) (vv 44)) (some 45) (vv 45)) (some 46) (vv 46)) (some 47) (vv 47)) (some 48) (vv 48)) (some 49) (vv 49)) (some 50) (vv 50)) (some 51) (vv 51)) (some 52) (vv 52)) (some 53) (vv 53)) (some 54) (vv 54)) (some 55) (vv 55)) (some 56) (vv 56)) (some 57) (vv 57)) (some 58) (vv 58)) (some 59) (vv 59))) (fun KR hKR => ?_) ?_
              · refine wp_region_noPanic ?_
                go_region
                all_goals exact ⟨rfl, hKR _ _ (ex_putw4 ⟨by with_reducible exact HF.out, by kernel_rfl⟩)⟩
              rintro a' w9 ⟨vv, hst9, rfl⟩
              simp only [Act.put, List.setIfInBounds_toArray, List.set_cons_succ, List.set_cons_zero]
              clear hc8 hf8 c6 c7 hr HF
              have c0 := cell_at hst9.read
              go_wp2_with fail
              refine (eat_any rb w9.heap.size 2 [[44], [41]] left _ (by decide) (heap_old hst9.text _) ?_).mono ?_
              · intro j p hp
                match j, hp with
                | 0, hp =>
                  obtain rfl : [44] = p := by simpa using hp
                  exact cell_at (heap_new _ _) 0
                | 1, hp =>
                  obtain rfl : [41] = p := by simpa using hp
                  exact cell_at (heap_new _ _) 1
              have hst10 := hst9.below h2 ((Below.refl _ _).alloc (Nat.le_refl _) (.cells #[.string ⟨#[44]⟩, .string ⟨#[41]⟩] 9))
              rintro e w10 (⟨p, r, hE2, rfl, hW⟩ | ⟨hE2, rfl, rfl⟩)
              rotate_left
              · exact ⟨rfl, HP.out _ (by rw [HPW.out, polyW_end hE hc HRG.out hE2]; rfl) hst10.low⟩
              have hst11 := hst10.wr h1 hW
              clear hst9 hst10 hW c0
              obtain ⟨m', rfl⟩ : ∃ m', gk = m' + 1 := ⟨gk - 1, by have := HL.out; omega⟩
              rcases eat_two left with ⟨h, _⟩ | ⟨r2, _, h⟩ | ⟨r2, _, h⟩
              · rw [h] at hE2
                cases hE2
              · obtain ⟨rfl, rfl⟩ : [44] = p ∧ r2 = r := by
                  rw [h] at hE2
                  simpa using hE2
                have hrl : r2.length + 1 = left.length := by
                  have := (eatP_len hE2).1
                  rw [this]
                  simp
                have HNX : Hd (polyW t.length t = (polyW m' r2).map fun q => ((Ls ++ [dn.dropLast]) ++ q.1, q.2)) := ⟨by
                  rw [HPW.out, polyW_next hE hc HRG.out hE2]
                  try (cases polyW m' r2 <;> simp)⟩
                have HS := Hd.mk hst11
                clear hst11 hE2 h
                go_wp2
                go_roundg m'
                case rel =>
                  exact ⟨r2, Ls ++ [dn.dropLast], _, _, HNX, by have := HL.out; omega, by have := HL.out; omega, HS.out, by have := HL.out; simp; omega⟩
                case measure => omega
              · obtain ⟨rfl, rfl⟩ : [41] = p ∧ r2 = r := by
                  rw [h] at hE2
                  simpa using hE2
                have HLA : Hd (polyW t.length t = some (Ls ++ [dn.dropLast], r2)) := ⟨by
                  rw [HPW.out, polyW_last hE hc HRG.out hE2]
                  rfl⟩
                have HS := Hd.mk hst11
                clear hst11 hE2 h
                go_wp2
                refine bodyPost_ret (results_none rfl _ _ _) rfl ?_
                exact ⟨HS.out.low, .inl ⟨_, r2, _, _, HLA.out, rfl, HS.out.text, HS.out.read, HS.out.own, HS.out.rows⟩⟩
            · have hno := HNO.out (fun h => hyy h.2)
              have hne : (y0 == y9) = false := by simpa using hyy
              subst hxx
              clear HNO HYES
              go_wp2
              refine region_qt 15 (by kernel_rfl) (by kernel_rfl) fun X _ mk hmk hcl => ?_
              have ew0 : ∀ x : X, (mk x).cell? ⟨g, 0, none⟩ = some (.int .i64 x0) := fun x => (mk_cell hmk HG.out x 0).trans HC0.out.1
              have ew1 : ∀ x : X, (mk x).cell? ⟨g, 1, none⟩ = some (.int .i64 y0) := fun x => (mk_cell hmk HG.out x 1).trans HC0.out.2
              have ew2 : ∀ x : X, (mk x).cell? ⟨g, m * 2, none⟩ = some (.int .i64 x0) := fun x => (mk_cell hmk HG.out x _).trans HC9.out.1
              have ew3 : ∀ x : X, (mk x).cell? ⟨g, m * 2 + 1, none⟩ = some (.int .i64 y9) := fun x => (mk_cell hmk HG.out x _).trans HC9.out.2
              simp only [List.take_succ_cons, List.take_zero, List.drop_succ_cons, List.drop_zero]
              repeat (go_big_quiet_step (skip))
              refine wpQuiet_nil ?_
              rintro _ ⟨x, rfl⟩
              clear ew0 ew1 ew2 ew3
              have hx := hmk x
              clear hcl hmk
              generalize mk x = W6 at hx
              have hst6 := HST.out.below h2 hx
              clear hx
              go_wp2_with (go_at_call 28; refine (wkt_must_no _ _).mono ?_; rintro e w7 ⟨rfl, rfl⟩)
              exact ⟨rfl, HP.out _ (by rw [HPW.out, polyW_ring hE hc hno]; rfl) hst6.low⟩
          · have hno := HNO.out (fun h => hxx h.1)
            have hne : (x0 == x9) = false := by simpa using hxx
            clear HNO HYES
            go_wp2
            refine region_qt 15 (by kernel_rfl) (by kernel_rfl) fun X _ mk hmk hcl => ?_
            have ew0 : ∀ x : X, (mk x).cell? ⟨g, 0, none⟩ = some (.int .i64 x0) := fun x => (mk_cell hmk HG.out x 0).trans HC0.out.1
            have ew1 : ∀ x : X, (mk x).cell? ⟨g, 1, none⟩ = some (.int .i64 y0) := fun x => (mk_cell hmk HG.out x 1).trans HC0.out.2
            have ew2 : ∀ x : X, (mk x).cell? ⟨g, m * 2, none⟩ = some (.int .i64 x9) := fun x => (mk_cell hmk HG.out x _).trans HC9.out.1
            have ew3 : ∀ x : X, (mk x).cell? ⟨g, m * 2 + 1, none⟩ = some (.int .i64 y9) := fun x => (mk_cell hmk HG.out x _).trans HC9.out.2
            simp only [List.take_succ_cons, List.take_zero, List.drop_succ_cons, List.drop_zero]
            repeat (go_big_quiet_step (skip))
            refine wpQuiet_nil ?_
            rintro _ ⟨x, rfl⟩
            clear ew0 ew1 ew2 ew3
            have hx := hmk x
            clear hcl hmk
            generalize mk x = W6 at hx
            have hst6 := HST.out.below h2 hx
            clear hx
            go_wp2_with (go_at_call 28; refine (wkt_must_no _ _).mono ?_; rintro e w7 ⟨rfl, rfl⟩)
            exact ⟨rfl, HP.out _ (by rw [HPW.out, polyW_ring hE hc hno]; rfl) hst6.low⟩
        · have hd3 : decide ((dn.length : Int) > 3) = false := by simp; omega
          have hno : ringP body = none := by
            rw [HR.out]
            unfold shut
            rw [if_neg (fun h => h3 h.1)]
          obtain ⟨A, cp, rfl, hcp, hless⟩ := hrow.less
          have HST := Hd.mk hst5
          clear hst5 hless hrow
          go_wp2
          refine region_qt 15 (by kernel_rfl) (by kernel_rfl) fun X _ mk hmk hcl => ?_
          simp only [List.take_succ_cons, List.take_zero, List.drop_succ_cons, List.drop_zero]
          repeat (go_big_quiet_step (skip))
          refine wpQuiet_nil ?_
          rintro _ ⟨x, rfl⟩
          have hx := hmk x
          clear hcl hmk
          generalize mk x = W6 at hx
          have hst6 := HST.out.below h2 hx
          clear hx
          go_wp2_with (go_at_call 28; refine (wkt_must_no _ _).mono ?_; rintro e w7 ⟨rfl, rfl⟩)
          exact ⟨rfl, HP.out _ (by rw [HPW.out, polyW_ring hE hc hno]; rfl) hst6.low⟩
end Go.Proofs.YtfchmikbebdflaaGreatDoor

namespace Go.Proofs.YtfchmikbebdflaaGreatDoor
open Go.RowKit Go.BigFrame Go.Shelf

/-- What segment reads: the segment, and what is left. -/
noncomputable def segR (t : Bs) : Option (Sgm × Bs) := match cutC 41 t with
  | none => none
  | some (body, left) => (segP body).map fun g => (g, left)
theorem segQ_of (t : Bs) : segQ t = match segR t with
    | some (g, []) => some g
    | _ => none := by
  unfold segQ segR
  cases cutC 41 t with
  | none => rfl
  | some q =>
    obtain ⟨body, left⟩ := q
    simp only
    cases segP body with
    | none => split <;> rfl
    | some g => cases left <;> simp
/-- What segment leaves. -/
def SegPost (n₀ rd rb : Nat) (t : Bs) (e : Ending) (w w' : World) : Prop := Below n₀ w w' ∧
  ((∃ g r, segR t = some (g, r) ∧ e = .returned (.tuple #[]) ∧ w'.heap[rb]? = some (.cells #[.string (bs r)] 66 (0, 0)) ∧ w'.heap[rd]? = some (.cells (rdC rb true g (.slice none 0 0)) 68 (0, 0))) ∨
   (segR t = none ∧ e = .panicked [{ v := .iface 31 (.int .i64 190), recovered := false }]))
theorem sparse_any (t : Bs) (ht : t.length ≤ 1100000) : ∃ c0 c1 c2 c3 e : Int, (∀ w, Vars w → Calls Tryz.prog 56 #[.string (bs t)] w fun x w' => x = .returned (.tuple #[.agg #[.int .i64 c0, .int .i64 c1, .int .i64 c2, .int .i64 c3], .int .i64 e]) ∧ Below w.heap.size w w') ∧
    ((e = 0 ∧ segP t = some ((c0, c1), (c2, c3))) ∨ (e = 140 ∧ segP t = none)) := by
  cases h : segP t with
  | some g =>
    obtain ⟨⟨a, b⟩, ⟨c, d⟩⟩ := g
    obtain ⟨h1, h2⟩ := segP_some h
    refine ⟨a, b, c, d, 0, fun w hV => segp_any (bs t) (by simp [ByteArray.size]; omega) a b c d 0 (.inl ⟨rfl, h1, ?_⟩) w hV, .inl ⟨rfl, rfl⟩⟩
    exact (bs_of (s := segS a b c d) h2.symm).symm
  | none =>
    refine ⟨0, 0, 0, 0, 140, fun w hV => segp_any (bs t) (by simp [ByteArray.size]; omega) 0 0 0 0 140 (.inr ⟨rfl, rfl, rfl, rfl, rfl, fun a b c d hg he => ?_⟩) w hV, .inr ⟨rfl, rfl⟩⟩
    have e : t = sgL ((a, b), (c, d)) := by
      have := congrArg (fun s : ByteArray => s.data.toList) he
      simpa [sgL] using this
    rw [e, segP_text (g := ((a, b), (c, d))) hg] at h
    cases h
set_option maxRecDepth 100000 in
set_option maxHeartbeats 4000000 in
theorem segment_any (rd rb n₀ : Nat) (t : Bs) (ht : t.length ≤ 1100000) (w : World) (hV : Vars w) (hn : 7 + 1 ≤ n₀) (h1 : n₀ ≤ rb) (h2 : n₀ ≤ rd) (hne : rd ≠ rb)
    (hrb : w.heap[rb]? = some (.cells #[.string (bs t)] 66 (0, 0))) (hrd : w.heap[rd]? = some (.cells (rdC rb false ((0, 0), (0, 0)) (.slice none 0 0)) 68 (0, 0))) :
    Calls Tryz.prog 29 #[.pointer (some ⟨rd, 0, none⟩)] w fun e w' => SegPost n₀ rd rb t e w w' := by
  have HP : Hd (∀ w', segR t = none → Below n₀ w w' → SegPost n₀ rd rb t (.panicked [{ v := .iface 31 (.int .i64 190), recovered := false }]) w w') := ⟨fun _ h hb => ⟨hb, .inr ⟨h, rfl⟩⟩⟩
  have HV := Hd.mk hV
  unfold rdC at hrd
  have c0 := cell_at hrd
  have hsz := lt_of_block hrd
  go_enter Tryz.func29, Tryz.ntmps29
  cases hc : cutC 41 t with
  | none =>
    have hr : segR t = none := by unfold segR; rw [hc]
    go_wp2_with fail
    refine (until_no rb t ht hc w hV hrb).mono ?_
    rintro e w2 ⟨rfl, hb⟩
    exact ⟨rfl, HP.out _ hr (hb.mono (by omega))⟩
  | some q =>
    obtain ⟨body, left⟩ := q
    have hr : segR t = (segP body).map fun g => (g, left) := by unfold segR; rw [hc]
    have hbl : body.length ≤ 1100000 := by
      have e := (cutC_some hc).1
      rw [e] at ht
      simp at ht
      omega
    go_wp2_with fail
    refine (until_ok rb t body left ht hc w hV hrb).mono ?_
    rintro e w1 ⟨rfl, hW⟩
    have hB1 := hW.below _ h1
    have zr := hW.other _ _ hne hrd
    have zb := hW.here
    obtain ⟨a0, a1, a2, a3, er, HC, hor⟩ := sparse_any body hbl
    have HC := Hd.mk HC
    have HR := Hd.mk hr
    clear hc hr hW hrb hrd c0 hV
    go_wp2_with fail
    refine (HC.out _ (HV.out.low hn hB1)).mono ?_
    rintro e w2 ⟨rfl, hb⟩
    have yr := heap_below hb zr
    have yb := heap_below hb zb
    have hs1 := lt_of_block zr
    have hB2 := hB1.trans (hb.mono (by omega))
    clear hb zr zb HC hB1
    rcases hor with ⟨rfl, hp⟩ | ⟨rfl, hp⟩
    · have hrs := HR.out
      rw [hp] at hrs
      have HRS := Hd.mk hrs
      clear hrs hp HR
      go_upto_region 2 with (go_at_call 28; refine (wkt_must_ok _ _).mono ?_; rintro e w7 ⟨rfl, rfl⟩)
      refine abs_wp (fun W => W.heap[w2.heap.size]? = some (.cells #[.int .i64 a0, .int .i64 a1, .int .i64 a2, .int .i64 a3] 26 (0, 0)) ∧ W.heap[rd]? = some (.cells #[.pointer (some ⟨rb, 0, none⟩), .bool false, .int .i64 0, .int .i64 0, .int .i64 0, .int .i64 0, .slice none 0 0] 68 (0, 0)) ∧ W.heap[rb]? = some (.cells #[.string (bs left)] 66 (0, 0)) ∧ Below n₀ w W) ⟨heap_new _ _, heap_old yr _, heap_old yb _, hB2.alloc (by have := lt_of_block yr; omega) _⟩ fun W ⟨x0, xr, xb, hB⟩ => ?_
      have c2 := cell_at x0
      have cr := cell_at xr
      have fr := frozen_at xr
      clear yr yb hB2 x0
      go_wp2
      go_end0
      refine ⟨by focus (repeat (first | (with_reducible exact Below.refl _ _) | (with_reducible assumption) | ((with_reducible refine Below.setCell ?_ ?_ _); rotate_left; (focus (first | omega | (simp; done) | (simp; omega)))) | ((with_reducible refine Below.alloc ?_ ?_ _); rotate_left; (focus (first | omega | (simp; done) | (simp; omega)))) | (with_reducible refine Below.drew ?_) | (refine below_on ?_ (by assumption)))), .inl ⟨((a0, a1), (a2, a3)), left, HRS.out, rfl, ?_, ?_⟩⟩
      · exact heap_set_other (heap_set_other (heap_set_other (heap_set_other (heap_set_other (heap_set_other xb hne.symm _) hne.symm _) hne.symm _) hne.symm _) hne.symm _) hne.symm _
      · exact (heap_set (heap_set (heap_set (heap_set (heap_set (heap_set xr 1 _) 2 _) 3 _) 4 _) 5 _) 6 _).trans (by rfl)
    · have hrs := HR.out
      rw [hp] at hrs
      go_wp2_with (go_at_call 28; refine (wkt_must_no _ _).mono ?_; rintro e w7 ⟨rfl, rfl⟩)
      exact ⟨rfl, HP.out _ hrs (hB2.alloc (by have := lt_of_block yr; omega) _)⟩
/-- Where nothing is given up with, the deferred closure leaves all as it is. -/
theorem wpc_idle (p q : Addr) (w : World) :
    CallsD Tryz.prog 27 #[.pointer (some p), .pointer (some q)] .returning w fun e u' w' => e = .returned (.tuple #[]) ∧ u' = .returning ∧ w' = w := by
  refine callsD_of_wpS Tryz.func27 rfl fun c₀ cs hu => ?_
  apply wpS_seq
  apply wpS_region
  simp [wpOpsS, go_sem, recoverD, hu, Tryz.ntmps27, Exit.thenS]
  refine wpS_of_wp ?_
  go_wp2
  cases c₀
  simp_all [bodyPostS, results, Tryz.results27]
theorem heap_drewn {W : World} {b : Nat} {o : Obj} (h : W.heap[b]? = some o) : W.drew.heap[b]? = some o := h
theorem six_of {cs : Array Value} (h : cs.size = 6) : ∃ a b c d e f, cs = #[a, b, c, d, e, f] := by
  obtain ⟨l⟩ := cs
  match l, h with
  | [a, b, c, d, e, f], _ => exact ⟨a, b, c, d, e, f, rfl⟩
set_option maxRecDepth 4096 in
set_option maxHeartbeats 2000000 in
theorem wpc_full (ob eb : Nat) (cs : Array Value) (x n : Int) (older : List PanicEntry) (w : World) (hne : ob ≠ eb) (hsz : cs.size = 6) (ho : w.heap[ob]? = some (.cells cs 29 (0, 0))) (he : w.heap[eb]? = some (.cells #[.int .i64 x] 31 (0, 0))) :
    CallsD Tryz.prog 27 #[.pointer (some ⟨ob, 0, none⟩), .pointer (some ⟨eb, 0, none⟩)] (.panicking ({ v := .iface 31 (.int .i64 n), recovered := false } :: older)) w fun e u' w' =>
      e = .returned (.tuple #[]) ∧ u' = .panicking ({ v := .iface 31 (.int .i64 n), recovered := true } :: older) ∧
      w'.heap[ob]? = some (.cells #[.bool false, .int .i64 0, .int .i64 0, .int .i64 0, .int .i64 0, .slice none 0 0] 29 (0, 0)) ∧ w'.heap[eb]? = some (.cells #[.int .i64 n] 31 (0, 0)) ∧ ∀ m, m ≤ ob → m ≤ eb → Below m w w' := by
  obtain ⟨k0, k1, k2, k3, k4, k5, rfl⟩ := six_of hsz
  refine callsD_of_wpS Tryz.func27 rfl fun c₀ cs hu => ?_
  apply wpS_seq
  apply wpS_region
  simp [wpOpsS, go_sem, recoverD, hu, Tryz.ntmps27, Exit.thenS]
  refine wpS_of_wp ?_
  generalize HM : ({ v := .iface 31 (.int .i64 n), recovered := true } : PanicEntry) = pe
  have HA := fun v w => assert_errno v w
  have c1 := cell_at ho
  have f1 := frozen_at ho
  have c2 := cell_at he
  have f2 := frozen_at he
  simp only [Array.replicate_succ, Array.replicate_zero, List.push_toArray, List.append_toArray, List.nil_append, List.cons_append, List.setIfInBounds_toArray, List.set_cons_zero, List.set_cons_succ]
  go_wp2
  refine region_abs_w (fun a0 a' w' => ∃ vv : Nat → Value, (w'.heap[ob]? = some (.cells #[.bool false, .int .i64 0, .int .i64 0, .int .i64 0, .int .i64 0, .slice none 0 0] 29 (0, 0)) ∧ w'.heap[eb]? = some (.cells #[.int .i64 n] 31 (0, 0)) ∧ ∀ m, m ≤ ob → m ≤ eb → Below m w w') ∧ (a' = Act.put (Act.put (Act.put a0 (some 6) (vv 6)) (some 7) (vv 7)) (some 8) (vv 8))) (fun KR hKR => ?_) ?_
  · go_region
    refine ⟨rfl, hKR _ _ (ex_putw4 ⟨⟨?_, ?_, fun m h1 h2 => ?_⟩, by kernel_rfl⟩)⟩
    · exact heap_drewn (heap_set_other ((heap_set (heap_set (heap_set (heap_set (heap_set (heap_set ho 0 _) 1 _) 2 _) 3 _) 4 _) 5 _).trans (by rfl)) hne _)
    · exact heap_drewn ((heap_set (heap_set_other (heap_set_other (heap_set_other (heap_set_other (heap_set_other (heap_set_other he hne.symm _) hne.symm _) hne.symm _) hne.symm _) hne.symm _) hne.symm _) 0 _).trans (by rfl))
    · exact Below.drew (by focus (repeat (first | (with_reducible exact Below.refl _ _) | (with_reducible assumption) | ((with_reducible refine Below.setCell ?_ ?_ _); rotate_left; (focus (first | omega | (simp; done) | (simp; omega)))) | ((with_reducible refine Below.alloc ?_ ?_ _); rotate_left; (focus (first | omega | (simp; done) | (simp; omega)))) | (with_reducible refine Below.drew ?_) | (refine below_on ?_ (by assumption)))))
  rintro a' w9 ⟨vv, ⟨y0, y1, y2⟩, rfl⟩
  simp only [Act.put, List.setIfInBounds_toArray, List.set_cons_succ, List.set_cons_zero]
  go_wp2
  cases c₀
  simp_all [bodyPostS, results, Tryz.results27]
end Go.Proofs.YtfchmikbebdflaaGreatDoor
