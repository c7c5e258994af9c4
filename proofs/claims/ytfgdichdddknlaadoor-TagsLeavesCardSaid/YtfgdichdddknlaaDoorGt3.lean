/-
  Tags: find, Clone; copying of rows whose elements have several cells. Conditions stand in each theorem.
-/
import Derived.Laws.CopyOwn
import Derived.Lib.AppendZerosOnto
import Derived.Lib.Overlaps
import Derived.Maps.AppendAt
import Derived.Test.YtfgdichdddknlaaDoorGt2
namespace Go.Proofs.YtfgdichdddknlaaDoor
open Go.RowKit Go.BigFrame
attribute [-go_sem] Builtin.append_

set_option maxHeartbeats 1000000 in
theorem tg_find (L : List Ct) (n : Int) (A : Option Addr) (c : Nat) (hr : Rise (keys L)) (hl : L.length ≤ 1000) (w : World) (hN : CtsIn w A L) :
    Calls Tryd.prog 28 #[.agg #[.slice A L.length c], .int .i64 n] w fun e w' => ∃ i, Place L n i ∧ e = .returned (.tuple #[.int .i64 (i : Nat), .bool (isAt L n i)]) ∧ Below w.heap.size w w' := by
  have HS := Hd.mk (fun w hN => tg_search L n A c hr hl w hN)
  have HN := Hd.mk hN
  clear hN hr hl
  go_enter Tryd.func28, Tryd.ntmps28
  go_wp2_with fail
  refine (HS.out _ (HN.out.below ((Below.refl _ _).alloc (Nat.le_refl _) _))).mono ?_
  rintro e w1 ⟨i, hp, rfl, hb⟩
  have HP := Hd.mk hp
  have hB : Below w.heap.size w w1 := below_on ((Below.refl _ _).alloc (Nat.le_refl _) _) hb
  clear hb hp HN HS
  go_wp2
  go_ret2
  exact ⟨i, HP.out, rfl, hB⟩
/-- The cells of counts. -/
def ctsC (l : List Ct) : List Value := l.flatMap fun p => [.int .i64 p.1, .int .i64 p.2]
theorem ctsC_append (a b : List Ct) : ctsC (a ++ b) = ctsC a ++ ctsC b := by unfold ctsC; rw [List.flatMap_append]
theorem ctsC_cons (p : Ct) (l : List Ct) : ctsC (p :: l) = [.int .i64 p.1, .int .i64 p.2] ++ ctsC l := rfl
theorem ctsC_len (l : List Ct) : (ctsC l).length = l.length * 2 := by
  induction l with
  | nil => rfl
  | cons p l ih =>
    rw [ctsC_cons, List.length_append, ih]
    simp
    omega
theorem ctsC_at : ∀ (l : List Ct) (j : Nat) (c : Ct), l[j]? = some c → (ctsC l)[j * 2]? = some (.int .i64 c.1) ∧ (ctsC l)[j * 2 + 1]? = some (.int .i64 c.2)
  | [], j, c, h => by simp at h
  | p :: l, 0, c, h => by
    obtain rfl : p = c := by simpa using h
    exact ⟨rfl, rfl⟩
  | p :: l, j + 1, c, h => by
    have h1 := ctsC_at l j c (by simpa using h)
    rw [ctsC_cons, show (j + 1) * 2 = j * 2 + 1 + 1 by omega]
    simpa using h1
theorem ctsC_one (l : List Ct) : ∀ u ∈ ctsC l, u.oneCell' = true := by
  unfold ctsC
  intro u hu
  obtain ⟨p, _, hp⟩ := List.mem_flatMap.1 hu
  simp at hp
  rcases hp with rfl | rfl <;> rfl
theorem addr_at (b off n : Nat) : (⟨b, off, none⟩ : Addr).add n = ⟨b, off + n, none⟩ := by
  unfold Addr.add
  split
  · rename_i h; subst h; rfl
  · rfl
theorem cts_cells {W : World} {b off : Nat} {l : List Ct} (h : ∀ (j : Nat) (p : Ct), l[j]? = some p → W.cell? ⟨b, off + j * 2, none⟩ = some (.int .i64 p.1) ∧ W.cell? ⟨b, off + j * 2 + 1, none⟩ = some (.int .i64 p.2)) :
    ∀ (j : Nat) (u : Value), (ctsC l)[j]? = some u → W.cell? ((⟨b, off, none⟩ : Addr).add j) = some u := by
  intro j u hj
  rw [addr_at]
  have hlen := ctsC_len l
  have hjl := (List.getElem?_eq_some_iff.1 hj).1
  obtain ⟨p, hp⟩ : ∃ p, l[j / 2]? = some p := ⟨_, List.getElem?_eq_getElem (by omega)⟩
  obtain ⟨e1, e2⟩ := ctsC_at l (j / 2) p hp
  obtain ⟨h1, h2⟩ := h (j / 2) p hp
  rcases Nat.mod_two_eq_zero_or_one j with hm | hm
  · have e : j / 2 * 2 = j := by omega
    rw [e] at e1 h1
    rw [e1] at hj
    rw [← Option.some.inj hj]
    exact h1
  · have e : j / 2 * 2 + 1 = j := by omega
    rw [e] at e2
    rw [e2] at hj
    rw [← Option.some.inj hj, show off + j = off + j / 2 * 2 + 1 by omega]
    exact h2
theorem own_cts {W : World} {base : Nat} {v : Value} {l : List Ct} (h : W.ownsRow base 63 2 v l.length (ctsC l)) : ∃ A c, v = .slice A l.length c ∧ CtsIn W A l := by
  rcases h.2 with ⟨rfl, h0⟩ | ⟨g, cap, cur, rfl, _, hg, hc, hm, hs, ht⟩
  · exact ⟨none, 0, by rw [h0], fun h => by omega⟩
  · refine ⟨_, cap, rfl, fun _ => ⟨g, 0, rfl, fun j c hj => ?_⟩⟩
    have hjl : j < l.length := (List.getElem?_eq_some_iff.1 hj).1
    obtain ⟨h1, h2⟩ := ctsC_at l j c hj
    rw [← ht, List.getElem?_take, if_pos (by omega)] at h1 h2
    rw [Nat.zero_add, cell_at hg, cell_at hg]
    exact ⟨by simpa using h1, by simpa using h2⟩
theorem infoCt : (Tryd.prog.info? 63).map (fun i => (i.zero, i.size, i.bytes)) = some (some (.agg #[.int .i64 0, .int .i64 0]), 2, 16) := by kernel_rfl
/-- copy, of elements of several cells. -/
theorem run_copy_wide {P : Program} (w : World) (dT sT ty elem : TypeId) (s g o dLen dCap : Nat) (a : Addr) (sLen sCap : Nat) (cur : Array Value) (t : TypeId) (cs : List Value) (n : Nat) (hn : n = Nat.min sLen dLen)
    (hu : P.underlying dT = some (.slice elem)) (hs : (P.info? elem).map (·.size) = some s)
    (hg : w.heap[g]? = some (.cells cur t (0, 0))) (hc : cs.length = n * s)
    (hsrc : ∀ j v, cs[j]? = some v → w.cell? (a.add j) = some v) (hfit : o + cs.length ≤ cur.size) (h1 : ∀ v ∈ cs, v.oneCell' = true) :
    (Builtin.copy_ #[dT, sT] ty #[.slice (some ⟨g, o, none⟩) dLen dCap, .slice (some a) sLen sCap]).run P w =
      .ok (goInt n) (w.setRow g (cur.toList.take o ++ cs ++ cur.toList.drop (o + cs.length)).toArray) := by
  have hl := run_loadCells_list (P := P) w a cs hsrc
  have hst := run_storeCells_at P g o t cs 0 cur w hg (by simpa using hfit) h1
  rw [hc] at hl
  cases hq : P.info? elem with
  | none => simp [hq] at hs
  | some i =>
    have hi : i.size = s := by simpa [hq] using hs
    simp [Builtin.copy_, run_underlying hu, Builtin.lenOf, Builtin.firstCells, sizeOf, typeInfo, hq, hi, ← hn, hl, hst]
end Go.Proofs.YtfgdichdddknlaaDoor
