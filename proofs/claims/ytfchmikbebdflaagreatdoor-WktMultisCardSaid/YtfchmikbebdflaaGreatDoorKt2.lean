/-
  Texts of wkt: closed, a ring's text, rings' texts. Conditions stand in each theorem.
-/
import Derived.Carry
import Derived.Laws.Concat
import Derived.WideMake
import Derived.Test.YtfchmikbebdflaaGreatDoorKw7
namespace Go.Proofs.YtfchmikbebdflaaGreatDoor
open Go.RowKit Go.BigFrame Go.Shelf

theorem putObj_eq (w : World) (r : Nat) (o : Obj) : ({ w with heap := w.heap.setIfInBounds r o } : World) = w.putObj r o := rfl
theorem map_first {mty kt et : TypeId} (hm : Tryz.prog.underlying mty = some (.map kt et)) (hk : Tryz.prog.underlying kt = some .string) (w : World) (r : Nat) (s : ByteArray) (v : Value) (hb : w.heap[r]? = some (.map #[] 0)) :
    (Instr.mapUpdate mty (.map (some r)) (.string s) v).run Tryz.prog w = .ok () (w.putObj r (.map #[{ key := .string s, val := v, born := 0 }] 1)) := run_mapUpdate_first w mty kt et r 0 s v hm hk hb
theorem map_second {mty kt et : TypeId} (hm : Tryz.prog.underlying mty = some (.map kt et)) (hk : Tryz.prog.underlying kt = some .string) (w : World) (r : Nat) (s s1 : ByteArray) (v v1 : Value) (hne : (s == s1) = false) (hb : w.heap[r]? = some (.map #[{ key := .string s1, val := v1, born := 0 }] 1)) :
    (Instr.mapUpdate mty (.map (some r)) (.string s) v).run Tryz.prog w = .ok () (w.putObj r (.map #[{ key := .string s1, val := v1, born := 0 }, { key := .string s, val := v, born := 1 }] 2)) := by
  have hf : Instr.findNow .string (.string s) ([{ key := .string s1, val := v1, born := 0 }] : List MapEntry) 0 = some none := by
    simp [Instr.findNow, Instr.sameNow, hne]
  have hc : (Instr.checkKey false 10000 kt (.string s)).run Tryz.prog w = .ok () w := MapKept.run_checkKey (k := .string s) hk (by simp [MapKept.IsKey]) false 9999
  simp [Instr.mapUpdate, run_underlying hm, MapKept.run_getObj_map hb, hc, MapKept.run_findKey hk hf, MapKept.run_setObj_map _ hb, Result.andThen, putObj_eq]
theorem map_look {mty kt et : TypeId} (hm : Tryz.prog.underlying mty = some (.map kt et)) (hk : Tryz.prog.underlying kt = some .string) (w : World) (r i : Nat) (s : ByteArray) (v : Value) {es : Array MapEntry} {c : Nat} (hb : w.heap[r]? = some (.map es c)) (hf : Instr.findNow .string (.string s) es.toList 0 = some (some (i, v))) :
    (Instr.lookup mty (.map (some r)) (.string s) false).run Tryz.prog w = .ok v w := by
  have hc : ∀ e, (Instr.checkKey e 10000 kt (.string s)).run Tryz.prog w = .ok () w := fun e => MapKept.run_checkKey (k := .string s) hk (by simp [MapKept.IsKey]) e 9999
  simp [Instr.lookup, run_underlying hm, MapKept.run_getObj_map hb, hc, MapKept.run_findKey hk hf, Result.andThen]
set_option maxRecDepth 100000 in
set_option maxHeartbeats 4000000 in
theorem wparse_long (t : Bs) (hl : 1048576 < t.length) (w : World) :
    Calls Tryz.prog 9 #[.string (bs t)] w fun e w' => e = .returned (.tuple #[.agg #[.bool false, .int .i64 0, .int .i64 0, .int .i64 0, .int .i64 0, .slice none 0 0], .int .i64 3]) ∧ Below w.heap.size w w' := by
  have hmf : ∀ (fn : Fn) (first cap : Array Value) (w : World), (Instr.makeFunc fn first cap).run Tryz.prog w = .ok (.func fn first cap) w := fun _ _ _ _ => rfl
  have hsz : (bs t).size = t.length := by simp [ByteArray.size]
  have hd1 : decide ((t.length : Int) ≤ 1048576) = false := by simp; omega
  go_enter_defers Tryz.func9, Tryz.ntmps9
  go_wp2_with (go_at_call 28; refine (wkt_must_no _ _).mono ?_; rintro e w6 ⟨rfl, rfl⟩)
  refine leaves_cons (f := 27) (args := #[.pointer (some ⟨w.heap.size, 0, none⟩), .pointer (some ⟨w.heap.size + 1, 0, none⟩)]) (by simp) (by simp [go_sem]) ?_
  refine (wpc_full w.heap.size (w.heap.size + 1) _ _ 3 _ _ (by omega) rfl (heap_old (heap_new _ _) _) (heap_at (by simp) _)).mono ?_
  rintro e u' w9 ⟨rfl, rfl, y1, y2, hy⟩
  refine abs_leaves (fun W => W.heap[w.heap.size]? = some (.cells #[.bool false, .int .i64 0, .int .i64 0, .int .i64 0, .int .i64 0, .slice none 0 0] 29 (0, 0)) ∧ W.heap[w.heap.size + 1]? = some (.cells #[.int .i64 3] 31 (0, 0)) ∧ Below w.heap.size w W) ⟨y1, y2, (below_two w _ _).trans (hy _ (Nat.le_refl _) (by omega))⟩ fun W ⟨y1, y2, hB⟩ => ?_
  have c1 := cell_at y1
  have c2 := cell_at y2
  simp [Leaves, settle, results, Tryz.results9, go_sem, c1, c2]
  exact hB
/-- The state of Parse. -/
def PaSt (w W : World) (tx : Bs) (cs : Array Value) : Prop := W.heap[w.heap.size]? = some (.cells #[.bool false, .int .i64 0, .int .i64 0, .int .i64 0, .int .i64 0, .slice none 0 0] 29 (0, 0)) ∧ W.heap[w.heap.size + 1]? = some (.cells #[.int .i64 0] 31 (0, 0)) ∧
  W.heap[w.heap.size + 2]? = some (.cells #[.string (bs tx)] 66 (0, 0)) ∧ W.heap[w.heap.size + 3]? = some (.cells cs 68 (0, 0)) ∧ Below w.heap.size w W
def RD0 (w : World) : Array Value := #[.pointer (some ⟨w.heap.size + 2, 0, none⟩), .bool false, .int .i64 0, .int .i64 0, .int .i64 0, .int .i64 0, .slice none 0 0]
theorem PaSt.below {w W W' : World} {tx : Bs} {cs : Array Value} (h : PaSt w W tx cs) (hb : Below W.heap.size W W') : PaSt w W' tx cs :=
  ⟨heap_below hb h.1, heap_below hb h.2.1, heap_below hb h.2.2.1, heap_below hb h.2.2.2.1, below_on h.2.2.2.2 hb⟩
theorem PaSt.wr {w W W' : World} {tx tx' : Bs} {cs : Array Value} (h : PaSt w W tx cs) (hW : Wr (w.heap.size + 2) #[.string (bs tx')] 66 W W') : PaSt w W' tx' cs :=
  ⟨hW.other _ _ (by omega) h.1, hW.other _ _ (by omega) h.2.1, hW.here, hW.other _ _ (by omega) h.2.2.2.1, h.2.2.2.2.trans (hW.below _ (by omega))⟩
def MAPE (w : World) : Array MapEntry := #[{ key := .string ⟨#[83, 69, 71, 77, 69, 78, 84, 40]⟩, val := .func (.func 29) #[.pointer (some ⟨w.heap.size + 3, 0, none⟩)] #[], born := 0 }, { key := .string ⟨#[80, 79, 76, 89, 71, 79, 78, 40]⟩, val := .func (.func 30) #[.pointer (some ⟨w.heap.size + 3, 0, none⟩)] #[], born := 1 }]
set_option maxRecDepth 100000 in
set_option maxHeartbeats 4000000 in
theorem wparse_word (t : Bs) (ht : t.length ≤ 1048576) (hno : eatP [segW, polW] t = none) (w : World) :
    Calls Tryz.prog 9 #[.string (bs t)] w fun e w' => e = .returned (.tuple #[.agg #[.bool false, .int .i64 0, .int .i64 0, .int .i64 0, .int .i64 0, .slice none 0 0], .int .i64 190]) ∧ Below w.heap.size w w' := by
  have hmf : ∀ (fn : Fn) (first cap : Array Value) (w : World), (Instr.makeFunc fn first cap).run Tryz.prog w = .ok (.func fn first cap) w := fun _ _ _ _ => rfl
  have hmk : ∀ (w : World), (Instr.makeMap 69 none).run Tryz.prog w = .ok (.map (some w.heap.size)) (w.alloc (.map #[] 0)) := fun w => run_makeMap _ w
  have hum : Tryz.prog.underlying 69 = some (.map 9 1) := by kernel_rfl
  have hus : Tryz.prog.underlying 9 = some .string := by kernel_rfl
  have hsz : (bs t).size = t.length := by simp [ByteArray.size]
  have hd1 : decide ((t.length : Int) ≤ 1048576) = true := by simp; omega
  go_enter_defers Tryz.func9, Tryz.ntmps9
  go_upto_region 4 with (go_at_call 28; refine (wkt_must_ok _ _).mono ?_; rintro e w6 ⟨rfl, rfl⟩)
  refine abs_wp (fun W => PaSt w W t (RD0 w) ∧ w.heap.size + 4 ≤ W.heap.size) ⟨⟨heap_old (heap_old (heap_old (heap_new _ _) _) _) _, heap_old (heap_old (heap_at (by simp) _) _) _, heap_old (heap_at (by simp) _) _, heap_at (by simp) _, by focus (repeat (first | (with_reducible exact Below.refl _ _) | (with_reducible assumption) | ((with_reducible refine Below.setCell ?_ ?_ _); rotate_left; (focus (first | omega | (simp; done) | (simp; omega)))) | ((with_reducible refine Below.alloc ?_ ?_ _); rotate_left; (focus (first | omega | (simp; done) | (simp; omega)))) | (with_reducible refine Below.drew ?_) | (refine below_on ?_ (by assumption))))⟩, by simp⟩ fun W4 ⟨hst, hs4⟩ => ?_
  have u1 := map_first hum hus (W4.alloc (.map #[] 0)) W4.heap.size ⟨#[83, 69, 71, 77, 69, 78, 84, 40]⟩ (.func (.func 29) #[.pointer (some ⟨w.heap.size + 3, 0, none⟩)] #[]) (heap_new _ _)
  have hl1 : W4.heap.size < (W4.alloc (.map #[] 0)).heap.size := by simp
  have k1 := World.putObj_heap_same (o := .map #[{ key := .string ⟨#[83, 69, 71, 77, 69, 78, 84, 40]⟩, val := .func (.func 29) #[.pointer (some ⟨w.heap.size + 3, 0, none⟩)] #[], born := 0 }] 1) hl1
  have b1 : Below W4.heap.size W4 ((W4.alloc (.map #[] 0)).putObj W4.heap.size (.map #[{ key := .string ⟨#[83, 69, 71, 77, 69, 78, 84, 40]⟩, val := .func (.func 29) #[.pointer (some ⟨w.heap.size + 3, 0, none⟩)] #[], born := 0 }] 1)) := ((Below.refl _ _).alloc (Nat.le_refl _) _).trans (below_putObj _ _ _ (Nat.le_refl _))
  generalize (W4.alloc (.map #[] 0)).putObj W4.heap.size (.map #[{ key := .string ⟨#[83, 69, 71, 77, 69, 78, 84, 40]⟩, val := .func (.func 29) #[.pointer (some ⟨w.heap.size + 3, 0, none⟩)] #[], born := 0 }] 1) = W5 at u1 k1 b1
  have u2 := map_second hum hus W5 W4.heap.size ⟨#[80, 79, 76, 89, 71, 79, 78, 40]⟩ _ (.func (.func 30) #[.pointer (some ⟨w.heap.size + 3, 0, none⟩)] #[]) _ (by decide) k1
  have k2 := World.putObj_heap_same (o := .map (MAPE w) 2) (lt_of_block k1)
  have b2 : Below W4.heap.size W4 (W5.putObj W4.heap.size (.map (MAPE w) 2)) := b1.trans (below_putObj _ _ _ (Nat.le_refl _))
  change _ = Result.ok () (W5.putObj W4.heap.size (.map (MAPE w) 2)) at u2
  generalize W5.putObj W4.heap.size (.map (MAPE w) 2) = W6 at u2 k2 b2
  go_upto_region 5 with (fail)
  have hst6 := hst.below b2
  clear u1 u2 k1 b1 hst
  have hs6 := lt_of_block k2
  have c3 := cell_at hst6.2.2.2.1
  simp only [RD0] at c3
  go_wp2_with fail
  refine (eat_any (w.heap.size + 2) W6.heap.size 2 [segW, polW] t _ (by decide) (heap_old hst6.2.2.1 _) ?_).mono ?_
  · intro j p hp
    match j, hp with
    | 0, hp =>
      obtain rfl : segW = p := by simpa using hp
      exact cell_at (heap_new _ _) 0
    | 1, hp =>
      obtain rfl : polW = p := by simpa using hp
      exact cell_at (heap_new _ _) 1
  have hst7 := hst6.below ((Below.refl _ _).alloc (Nat.le_refl _) (.cells #[.string ⟨#[83, 69, 71, 77, 69, 78, 84, 40]⟩, .string ⟨#[80, 79, 76, 89, 71, 79, 78, 40]⟩] 9))
  have k7 := heap_old k2 (.cells #[.string ⟨#[83, 69, 71, 77, 69, 78, 84, 40]⟩, .string ⟨#[80, 79, 76, 89, 71, 79, 78, 40]⟩] 9)
  rintro e w7 (⟨p, r, hE, rfl, hW⟩ | ⟨hE, rfl, rfl⟩)
  · rw [hno] at hE
    cases hE
  · refine leaves_cons (f := 27) (args := #[.pointer (some ⟨w.heap.size, 0, none⟩), .pointer (some ⟨w.heap.size + 1, 0, none⟩)]) (by simp) (by simp [go_sem]) ?_
    refine (wpc_full w.heap.size (w.heap.size + 1) _ _ 190 _ _ (by omega) rfl hst7.1 hst7.2.1).mono ?_
    rintro e u' w9 ⟨rfl, rfl, y1, y2, hy⟩
    refine abs_leaves (fun W => W.heap[w.heap.size]? = some (.cells #[.bool false, .int .i64 0, .int .i64 0, .int .i64 0, .int .i64 0, .slice none 0 0] 29 (0, 0)) ∧ W.heap[w.heap.size + 1]? = some (.cells #[.int .i64 190] 31 (0, 0)) ∧ Below w.heap.size w W) ⟨y1, y2, (hst7.2.2.2.2).trans (hy _ (Nat.le_refl _) (by omega))⟩ fun W ⟨y1, y2, hB⟩ => ?_
    have c1 := cell_at y1
    have c2 := cell_at y2
    simp [Leaves, settle, results, Tryz.results9, go_sem, c1, c2]
    exact hB
end Go.Proofs.YtfchmikbebdflaaGreatDoor

namespace Go.Proofs.YtfchmikbebdflaaGreatDoor
open Go.RowKit Go.BigFrame Go.Shelf

theorem join_long : ∀ ps : List Bs, ps.length ≤ (Lib.join ps [44]).length + 1
  | [] => by simp
  | [p] => by simp
  | p :: q :: r => by
    have h := join_long (q :: r)
    rw [join_two]
    simp at h ⊢
    omega
theorem bodyL_long {l : List Nd} (h : l ≠ []) : l.length ≤ (bodyL l).length := by
  have h1 := join_long ((l ++ l.take 1).map nodeL)
  have h2 : 0 < l.length := List.length_pos_iff.2 h
  unfold bodyL
  rw [List.length_map, List.length_append, List.length_take] at h1
  omega
theorem total_tail : ∀ Ls : List (List Nd), (∀ l ∈ Ls, RingOk l) → total Ls ≤ (tailL Ls).length
  | [], _ => by simp [total]
  | [l], h => by
    have h1 := bodyL_long (l := l) (fun e => by have := (h l (by simp)).1; rw [e] at this; simp at this)
    rw [tailL_one]
    simp [total]
    omega
  | l :: m :: Ls, h => by
    have h1 := bodyL_long (l := l) (fun e => by have := (h l (by simp)).1; rw [e] at this; simp at this)
    have h2 := total_tail (m :: Ls) fun k hk => h k (by simp [hk])
    rw [tailL_more]
    simp [total] at h2 ⊢
    omega
theorem own_cells {W : World} {base n : Nat} {T : TypeId} {v : Value} {vs : List Value} (h : W.ownsRow base T 1 v n vs) : ∃ A c, v = .slice A n c ∧ CellsIn W A vs := by
  obtain ⟨hl, h2⟩ := h
  rcases h2 with ⟨rfl, rfl⟩ | ⟨g, cap, cur, rfl, _, hg, hc, hm, hs, ht⟩
  · refine ⟨none, 0, rfl, fun h0 => ?_⟩
    simp at hl
    rw [hl] at h0
    simp at h0
  · refine ⟨_, cap, rfl, fun _ => ⟨g, 0, rfl, fun j u hj => ?_⟩⟩
    rw [Nat.zero_add, cell_at hg]
    have hjl := (List.getElem?_eq_some_iff.1 hj).1
    rw [← ht, List.getElem?_take, if_pos (by omega)] at hj
    simpa using hj
theorem eat_words (t : Bs) : (eatP [segW, polW] t = none ∧ behind segW t = none ∧ behind polW t = none) ∨ (∃ r, behind segW t = some r ∧ eatP [segW, polW] t = some (segW, r)) ∨ (∃ r, behind segW t = none ∧ behind polW t = some r ∧ eatP [segW, polW] t = some (polW, r)) := by
  cases h : behind segW t with
  | some r => exact .inr (.inl ⟨r, rfl, by simp [eatP, h]⟩)
  | none =>
    cases h2 : behind polW t with
    | some r => exact .inr (.inr ⟨r, rfl, rfl, by simp [eatP, h, h2]⟩)
    | none => exact .inl ⟨by simp [eatP, h, h2], rfl, rfl⟩
theorem bs_cons_ne (a : UInt8) (r : Bs) : (bs (a :: r)).toList.isEmpty = false := by
  rw [ByteArray.toList_eq]
  rfl
theorem bs_cons_ne2 (a : UInt8) (r : Bs) : ((bs (a :: r)).toList == (⟨#[]⟩ : ByteArray).toList) = false := by
  rw [ByteArray.toList_eq, ByteArray.toList_eq]
  rfl
def PaPost (w : World) (s : Shp) (n : Int) (e : Ending) (w' : World) : Prop := ∃ A c, e = .returned (.tuple #[.agg (shV s A c), .int .i64 n]) ∧ RingsIn w' A s.rs ∧ Below w.heap.size w w'
theorem rings_nil (W : World) : RingsIn W none [] := ⟨[], fun h => absurd h (by simp), rfl, fun _ _ _ h => by simp at h⟩
theorem PaPost.zero {w : World} {n : Int} {e : Ending} {w' : World} (h : e = .returned (.tuple #[.agg #[.bool false, .int .i64 0, .int .i64 0, .int .i64 0, .int .i64 0, .slice none 0 0], .int .i64 n]) ∧ Below w.heap.size w w') : PaPost w zeroS n e w' := ⟨none, 0, h.1, rings_nil _, h.2⟩
set_option maxRecDepth 100000 in
set_option maxHeartbeats 8000000 in
theorem wparse_seg (t r0 : Bs) (ht : t.length ≤ 1048576) (hw : eatP [segW, polW] t = some (segW, r0)) (w : World) (hV : Vars w) :
    Calls Tryz.prog 9 #[.string (bs t)] w fun e w' => match segQ r0 with
      | some g => e = .returned (.tuple #[.agg #[.bool true, .int .i64 g.1.1, .int .i64 g.1.2, .int .i64 g.2.1, .int .i64 g.2.2, .slice none 0 0], .int .i64 0]) ∧ Below w.heap.size w w'
      | none => e = .returned (.tuple #[.agg #[.bool false, .int .i64 0, .int .i64 0, .int .i64 0, .int .i64 0, .slice none 0 0], .int .i64 190]) ∧ Below w.heap.size w w' := by
  have hrl : r0.length ≤ 1048576 := by
    have := (eatP_len hw).1
    rw [this] at ht
    simp at ht
    omega
  have hsq := segQ_of r0
  have HV := Hd.mk hV
  clear hV
  generalize segQ r0 = O at hsq ⊢
  have hmf : ∀ (fn : Fn) (first cap : Array Value) (w : World), (Instr.makeFunc fn first cap).run Tryz.prog w = .ok (.func fn first cap) w := fun _ _ _ _ => rfl
  have hmk : ∀ (w : World), (Instr.makeMap 69 none).run Tryz.prog w = .ok (.map (some w.heap.size)) (w.alloc (.map #[] 0)) := fun w => run_makeMap _ w
  have hum : Tryz.prog.underlying 69 = some (.map 9 1) := by kernel_rfl
  have hus : Tryz.prog.underlying 9 = some .string := by kernel_rfl
  have hsz : (bs t).size = t.length := by simp [ByteArray.size]
  have hd1 : decide ((t.length : Int) ≤ 1048576) = true := by simp; omega
  go_enter_defers Tryz.func9, Tryz.ntmps9
  go_upto_region 4 with (go_at_call 28; refine (wkt_must_ok _ _).mono ?_; rintro e w6 ⟨rfl, rfl⟩)
  refine abs_wp (fun W => PaSt w W t (RD0 w) ∧ w.heap.size + 4 ≤ W.heap.size) ⟨⟨heap_old (heap_old (heap_old (heap_new _ _) _) _) _, heap_old (heap_old (heap_at (by simp) _) _) _, heap_old (heap_at (by simp) _) _, heap_at (by simp) _, by focus (repeat (first | (with_reducible exact Below.refl _ _) | (with_reducible assumption) | ((with_reducible refine Below.setCell ?_ ?_ _); rotate_left; (focus (first | omega | (simp; done) | (simp; omega)))) | ((with_reducible refine Below.alloc ?_ ?_ _); rotate_left; (focus (first | omega | (simp; done) | (simp; omega)))) | (with_reducible refine Below.drew ?_) | (refine below_on ?_ (by assumption))))⟩, by simp⟩ fun W4 ⟨hst, hs4⟩ => ?_
  have u1 := map_first hum hus (W4.alloc (.map #[] 0)) W4.heap.size ⟨#[83, 69, 71, 77, 69, 78, 84, 40]⟩ (.func (.func 29) #[.pointer (some ⟨w.heap.size + 3, 0, none⟩)] #[]) (heap_new _ _)
  have hl1 : W4.heap.size < (W4.alloc (.map #[] 0)).heap.size := by simp
  have k1 := World.putObj_heap_same (o := .map #[{ key := .string ⟨#[83, 69, 71, 77, 69, 78, 84, 40]⟩, val := .func (.func 29) #[.pointer (some ⟨w.heap.size + 3, 0, none⟩)] #[], born := 0 }] 1) hl1
  have b1 : Below W4.heap.size W4 ((W4.alloc (.map #[] 0)).putObj W4.heap.size (.map #[{ key := .string ⟨#[83, 69, 71, 77, 69, 78, 84, 40]⟩, val := .func (.func 29) #[.pointer (some ⟨w.heap.size + 3, 0, none⟩)] #[], born := 0 }] 1)) := ((Below.refl _ _).alloc (Nat.le_refl _) _).trans (below_putObj _ _ _ (Nat.le_refl _))
  generalize (W4.alloc (.map #[] 0)).putObj W4.heap.size (.map #[{ key := .string ⟨#[83, 69, 71, 77, 69, 78, 84, 40]⟩, val := .func (.func 29) #[.pointer (some ⟨w.heap.size + 3, 0, none⟩)] #[], born := 0 }] 1) = W5 at u1 k1 b1
  have u2 := map_second hum hus W5 W4.heap.size ⟨#[80, 79, 76, 89, 71, 79, 78, 40]⟩ _ (.func (.func 30) #[.pointer (some ⟨w.heap.size + 3, 0, none⟩)] #[]) _ (by decide) k1
  have k2 := World.putObj_heap_same (o := .map (MAPE w) 2) (lt_of_block k1)
  have b2 : Below W4.heap.size W4 (W5.putObj W4.heap.size (.map (MAPE w) 2)) := b1.trans (below_putObj _ _ _ (Nat.le_refl _))
  change _ = Result.ok () (W5.putObj W4.heap.size (.map (MAPE w) 2)) at u2
  generalize W5.putObj W4.heap.size (.map (MAPE w) 2) = W6 at u2 k2 b2
  go_upto_region 5 with (fail)
  have hst6 := hst.below b2
  clear u1 u2 k1 b1 hst
  have hs6 := lt_of_block k2
  have c3 := cell_at hst6.2.2.2.1
  simp only [RD0] at c3
  go_wp2_with fail
  refine (eat_any (w.heap.size + 2) W6.heap.size 2 [segW, polW] t _ (by decide) (heap_old hst6.2.2.1 _) ?_).mono ?_
  · intro j p hp
    match j, hp with
    | 0, hp =>
      obtain rfl : segW = p := by simpa using hp
      exact cell_at (heap_new _ _) 0
    | 1, hp =>
      obtain rfl : polW = p := by simpa using hp
      exact cell_at (heap_new _ _) 1
  have hst7 := hst6.below ((Below.refl _ _).alloc (Nat.le_refl _) (.cells #[.string ⟨#[83, 69, 71, 77, 69, 78, 84, 40]⟩, .string ⟨#[80, 79, 76, 89, 71, 79, 78, 40]⟩] 9))
  have k7 := heap_old k2 (.cells #[.string ⟨#[83, 69, 71, 77, 69, 78, 84, 40]⟩, .string ⟨#[80, 79, 76, 89, 71, 79, 78, 40]⟩] 9)
  rintro e w7 (⟨p, r, hE, rfl, hW⟩ | ⟨hE, rfl, rfl⟩)
  rotate_left
  · rw [hw] at hE
    cases hE
  obtain ⟨rfl, rfl⟩ : segW = p ∧ r0 = r := by
    rw [hw] at hE
    simpa using hE
  have hst8 := hst7.wr hW
  have k8 := hW.other _ _ (by omega) k7
  have u3 := map_look hum hus w7 W4.heap.size 0 (bs segW) (.func (.func 29) #[.pointer (some ⟨w.heap.size + 3, 0, none⟩)] #[]) k8 (by rfl)
  clear hst6 hst7 k2 k7 hW b2 c3 hs6 hE hw
  go_wp2_with fail
  refine (segment_any (w.heap.size + 3) (w.heap.size + 2) (w.heap.size + 2) r0 (by omega) w7 (HV.out.low HV.out.size hst8.2.2.2.2) (by have := HV.out.size; omega) (by omega) (by omega) (by omega) hst8.2.2.1 hst8.2.2.2.1).mono ?_
  rintro e w10 ⟨hB, (⟨g, r2, hr, rfl, xb, xd⟩ | ⟨hr, rfl⟩)⟩
  rotate_left
  · have hO : O = none := by rw [hsq, hr]
    subst hO
    have x0 := (hB.block _ (by omega)).trans hst8.1
    have x1 := (hB.block _ (by omega)).trans hst8.2.1
    have hB10 := hst8.2.2.2.2.trans (hB.mono (by omega))
    refine leaves_cons (f := 27) (args := #[.pointer (some ⟨w.heap.size, 0, none⟩), .pointer (some ⟨w.heap.size + 1, 0, none⟩)]) (by simp) (by simp [go_sem]) ?_
    refine (wpc_full w.heap.size (w.heap.size + 1) _ _ 190 _ _ (by omega) rfl x0 x1).mono ?_
    rintro e u' w9 ⟨rfl, rfl, y1, y2, hy⟩
    refine abs_leaves (fun W => W.heap[w.heap.size]? = some (.cells #[.bool false, .int .i64 0, .int .i64 0, .int .i64 0, .int .i64 0, .slice none 0 0] 29 (0, 0)) ∧ W.heap[w.heap.size + 1]? = some (.cells #[.int .i64 190] 31 (0, 0)) ∧ Below w.heap.size w W) ⟨y1, y2, (hB10).trans (hy _ (Nat.le_refl _) (by omega))⟩ fun W ⟨y1, y2, hB⟩ => ?_
    have c1 := cell_at y1
    have c2 := cell_at y2
    simp [Leaves, settle, results, Tryz.results9, go_sem, c1, c2]
    exact hB
  have x0 := (hB.block _ (by omega)).trans hst8.1
  have x1 := (hB.block _ (by omega)).trans hst8.2.1
  have hB10 := hst8.2.2.2.2.trans (hB.mono (by omega))
  have HR := Hd.mk hr
  simp only [rdC] at xd
  clear hst8 k8 u3 hB hr
  have cb := cell_at xb
  have cd := cell_at xd
  cases r2 with
  | cons a r2 =>
    have hO : O = none := by rw [hsq, HR.out]
    subst hO
    have he1 := bs_cons_ne a r2
    have he2 := bs_cons_ne2 a r2
    go_wp2_with (go_at_call 28; refine (wkt_must_no _ _).mono ?_; rintro e w11 ⟨rfl, rfl⟩)
    refine leaves_cons (f := 27) (args := #[.pointer (some ⟨w.heap.size, 0, none⟩), .pointer (some ⟨w.heap.size + 1, 0, none⟩)]) (by simp) (by simp [go_sem]) ?_
    refine (wpc_full w.heap.size (w.heap.size + 1) _ _ 190 _ _ (by omega) rfl x0 x1).mono ?_
    rintro e u' w9 ⟨rfl, rfl, y1, y2, hy⟩
    refine abs_leaves (fun W => W.heap[w.heap.size]? = some (.cells #[.bool false, .int .i64 0, .int .i64 0, .int .i64 0, .int .i64 0, .slice none 0 0] 29 (0, 0)) ∧ W.heap[w.heap.size + 1]? = some (.cells #[.int .i64 190] 31 (0, 0)) ∧ Below w.heap.size w W) ⟨y1, y2, (hB10).trans (hy _ (Nat.le_refl _) (by omega))⟩ fun W ⟨y1, y2, hB⟩ => ?_
    have c1 := cell_at y1
    have c2 := cell_at y2
    simp [Leaves, settle, results, Tryz.results9, go_sem, c1, c2]
    exact hB
  | nil =>
    have hO : O = some g := by rw [hsq, HR.out]
    subst hO
    have hgB : sgB g = true := by
      have := HR.out
      unfold segR at this
      split at this
      · cases this
      · rename_i body left _
        cases hp : segP body with
        | none => rw [hp] at this; cases this
        | some k =>
          rw [hp] at this
          obtain ⟨rfl, _⟩ : k = g ∧ left = [] := by simpa using this
          exact (segP_some hp).1
    have HG := Hd.mk hgB
    clear hgB HR hsq
    go_upto_region 7 with (go_at_call 28; refine (wkt_must_ok _ _).mono ?_; rintro e w11 ⟨rfl, rfl⟩)
    go_wp2_with fail
    have HC : Hd (∀ W, Calls Tryz.prog 12 #[.agg #[.bool true, .int .i64 g.1.1, .int .i64 g.1.2, .int .i64 g.2.1, .int .i64 g.2.2, .slice none 0 0]] W fun e w' => e = .returned (.int .i64 0) ∧ Below W.heap.size W w') := ⟨fun W => by
      have h := wcheck_seg2 g none 0 W
      rw [if_pos HG.out] at h
      exact h⟩
    have HOW : Hd (w11.ownsRow (w.heap.size + 2) 30 1 (.slice none 0 0) 0 [] ∧ RowsN w11 [] []) := ⟨⟨⟨rfl, .inl ⟨rfl, rfl⟩⟩, rfl, by simp⟩⟩
    refine (HC.out _).mono ?_
    rintro e w13 ⟨rfl, hb⟩
    have y0 := heap_below hb x0
    have y1 := heap_below hb x1
    have yd := heap_below hb xd
    have hB13 := below_on hB10 hb
    have HOW3 := Hd.mk (And.intro (own_below HOW.out.1 hb) (HOW.out.2.kept (NKept.below hb)))
    clear hb x0 x1 xd xb cb cd hB10 HOW HC
    have c1 := cell_at y1
    have f1 := frozen_at y1
    go_upto_region 8 with (fail)
    have hW1 := wr_one (v' := .int .i64 0) y1 (Below.refl _ _)
    have z0 := hW1.other _ _ (by omega) y0
    have z1 := hW1.here
    have zd := hW1.other _ _ (by omega) yd
    have hB14 := hB13.trans (hW1.below _ (by omega))
    have HOW4 := Hd.mk (And.intro (HOW3.out.1.kept hW1.grown (own_ne HOW3.out.1 y1 (by decide))) (HOW3.out.2.kept (NKept.wr hW1 y1 (by decide))))
    generalize w13.setCell ⟨w.heap.size + 1, 0, none⟩ (.int .i64 0) = w14 at hW1 z0 z1 zd hB14 HOW4 ⊢
    clear y0 y1 yd hB13 HOW3 hW1 c1 f1
    have c1 := cell_at z1
    have cd := cell_at zd
    go_upto_region 9 with (go_at_call 28; refine (wkt_must_ok _ _).mono ?_; rintro e w11 ⟨rfl, rfl⟩)
    clear c1
    go_wp2_with (refine wpList_store_block rfl 29 (.tmp 2) (.tmp 52) rfl w.heap.size #[.bool true, .int .i64 g.1.1, .int .i64 g.1.2, .int .i64 g.2.1, .int .i64 g.2.2, .slice none 0 0] rfl rfl z0 rfl (by kernel_rfl) rfl ?_; rintro w15 hW2; have q1 := hW2.other _ _ (by omega) z1; have c1 := cell_at q1; have f1 := frozen_at q1)
    have hB15 := hB14.trans (hW2.below _ (Nat.le_refl _))
    have HOW5 := Hd.mk (And.intro (HOW4.out.1.kept hW2.grown (own_ne HOW4.out.1 z0 (by decide))) (HOW4.out.2.kept (NKept.wr hW2 z0 (by decide))))
    have hW3 := wr_one (v' := .int .i64 0) q1 (Below.refl _ _)
    refine leaves_cons (f := 27) (args := #[.pointer (some ⟨w.heap.size, 0, none⟩), .pointer (some ⟨w.heap.size + 1, 0, none⟩)]) (by simp) (by simp [go_sem]) ?_
    refine (wpc_idle _ _ _).mono ?_
    rintro e u' w9 ⟨rfl, rfl, rfl⟩
    refine abs_leaves (fun W => W.heap[w.heap.size]? = some (.cells #[.bool true, .int .i64 g.1.1, .int .i64 g.1.2, .int .i64 g.2.1, .int .i64 g.2.2, .slice none 0 0] 29 (0, 0)) ∧ W.heap[w.heap.size + 1]? = some (.cells #[.int .i64 0] 31 (0, 0)) ∧ True ∧ Below w.heap.size w W) ⟨hW3.other _ _ (by omega) hW2.here, hW3.here, trivial, hB15.trans (hW3.below _ (by omega))⟩ fun W ⟨y1, y2, hF, hB⟩ => ?_
    have c1 := cell_at y1
    have c2 := cell_at y2
    simp [Leaves, settle, results, Tryz.results9, go_sem, c1, c2]
    exact hB
end Go.Proofs.YtfchmikbebdflaaGreatDoor

namespace Go.Proofs.YtfchmikbebdflaaGreatDoor
open Go.RowKit Go.BigFrame Go.Shelf

theorem rings_of_own {W : World} {base c : Nat} {A : Option Addr} {Ls : List (List Nd)} {vs : List Value} (h1 : W.ownsRow base 30 1 (.slice A Ls.length c) Ls.length vs) (h2 : RowsN W vs Ls) : RingsIn W A Ls := by
  obtain ⟨A', c', e, hc⟩ := own_cells h1
  injection e with e1 _ _
  subst e1
  exact ⟨vs, hc, h2.1, fun j v l hv hl => (h2.2 j v l hv hl).ring⟩
theorem rings_many {Ls : List (List Nd)} (h : ∀ l ∈ Ls, RingOk l) : Ls.length ≤ total Ls := by
  induction Ls with
  | nil => simp
  | cons l Ls ih =>
    have h1 := ih fun m hm => h m (by simp [hm])
    have h2 := (h l (by simp)).1
    simp [total] at h1 ⊢
    omega
/-- What Parse tells of polygons that are read. -/
def PolP (w : World) (Ls : List (List Nd)) (e : Ending) (w' : World) : Prop := if 512 < total Ls then e = .returned (.tuple #[.agg #[.bool false, .int .i64 0, .int .i64 0, .int .i64 0, .int .i64 0, .slice none 0 0], .int .i64 3]) ∧ Below w.heap.size w w' else
  ∃ A c, e = .returned (.tuple #[.agg #[.bool false, .int .i64 0, .int .i64 0, .int .i64 0, .int .i64 0, .slice A Ls.length c], .int .i64 0]) ∧ RingsIn w' A Ls ∧ Below w.heap.size w w'
set_option maxRecDepth 100000 in
set_option maxHeartbeats 8000000 in
theorem wparse_pol (t r0 : Bs) (ht : t.length ≤ 1048576) (hw : eatP [segW, polW] t = some (polW, r0)) (w : World) (hV : Vars w) :
    Calls Tryz.prog 9 #[.string (bs t)] w fun e w' => match polyQ r0 with
      | some Ls => PolP w Ls e w'
      | none => e = .returned (.tuple #[.agg #[.bool false, .int .i64 0, .int .i64 0, .int .i64 0, .int .i64 0, .slice none 0 0], .int .i64 190]) ∧ Below w.heap.size w w' := by
  have hrl : r0.length ≤ 1048576 := by
    have := (eatP_len hw).1
    rw [this] at ht
    simp at ht
    omega
  have hsq := polyQ_of r0.length r0 (Nat.le_refl _)
  have hpi := polyQ_iff r0
  have HV := Hd.mk hV
  clear hV
  generalize polyQ r0 = O at hsq hpi ⊢
  have hmf : ∀ (fn : Fn) (first cap : Array Value) (w : World), (Instr.makeFunc fn first cap).run Tryz.prog w = .ok (.func fn first cap) w := fun _ _ _ _ => rfl
  have hmk : ∀ (w : World), (Instr.makeMap 69 none).run Tryz.prog w = .ok (.map (some w.heap.size)) (w.alloc (.map #[] 0)) := fun w => run_makeMap _ w
  have hum : Tryz.prog.underlying 69 = some (.map 9 1) := by kernel_rfl
  have hus : Tryz.prog.underlying 9 = some .string := by kernel_rfl
  have hsz : (bs t).size = t.length := by simp [ByteArray.size]
  have hd1 : decide ((t.length : Int) ≤ 1048576) = true := by simp; omega
  go_enter_defers Tryz.func9, Tryz.ntmps9
  go_upto_region 4 with (go_at_call 28; refine (wkt_must_ok _ _).mono ?_; rintro e w6 ⟨rfl, rfl⟩)
  refine abs_wp (fun W => PaSt w W t (RD0 w) ∧ w.heap.size + 4 ≤ W.heap.size) ⟨⟨heap_old (heap_old (heap_old (heap_new _ _) _) _) _, heap_old (heap_old (heap_at (by simp) _) _) _, heap_old (heap_at (by simp) _) _, heap_at (by simp) _, by focus (repeat (first | (with_reducible exact Below.refl _ _) | (with_reducible assumption) | ((with_reducible refine Below.setCell ?_ ?_ _); rotate_left; (focus (first | omega | (simp; done) | (simp; omega)))) | ((with_reducible refine Below.alloc ?_ ?_ _); rotate_left; (focus (first | omega | (simp; done) | (simp; omega)))) | (with_reducible refine Below.drew ?_) | (refine below_on ?_ (by assumption))))⟩, by simp⟩ fun W4 ⟨hst, hs4⟩ => ?_
  have u1 := map_first hum hus (W4.alloc (.map #[] 0)) W4.heap.size ⟨#[83, 69, 71, 77, 69, 78, 84, 40]⟩ (.func (.func 29) #[.pointer (some ⟨w.heap.size + 3, 0, none⟩)] #[]) (heap_new _ _)
  have hl1 : W4.heap.size < (W4.alloc (.map #[] 0)).heap.size := by simp
  have k1 := World.putObj_heap_same (o := .map #[{ key := .string ⟨#[83, 69, 71, 77, 69, 78, 84, 40]⟩, val := .func (.func 29) #[.pointer (some ⟨w.heap.size + 3, 0, none⟩)] #[], born := 0 }] 1) hl1
  have b1 : Below W4.heap.size W4 ((W4.alloc (.map #[] 0)).putObj W4.heap.size (.map #[{ key := .string ⟨#[83, 69, 71, 77, 69, 78, 84, 40]⟩, val := .func (.func 29) #[.pointer (some ⟨w.heap.size + 3, 0, none⟩)] #[], born := 0 }] 1)) := ((Below.refl _ _).alloc (Nat.le_refl _) _).trans (below_putObj _ _ _ (Nat.le_refl _))
  generalize (W4.alloc (.map #[] 0)).putObj W4.heap.size (.map #[{ key := .string ⟨#[83, 69, 71, 77, 69, 78, 84, 40]⟩, val := .func (.func 29) #[.pointer (some ⟨w.heap.size + 3, 0, none⟩)] #[], born := 0 }] 1) = W5 at u1 k1 b1
  have u2 := map_second hum hus W5 W4.heap.size ⟨#[80, 79, 76, 89, 71, 79, 78, 40]⟩ _ (.func (.func 30) #[.pointer (some ⟨w.heap.size + 3, 0, none⟩)] #[]) _ (by decide) k1
  have k2 := World.putObj_heap_same (o := .map (MAPE w) 2) (lt_of_block k1)
  have b2 : Below W4.heap.size W4 (W5.putObj W4.heap.size (.map (MAPE w) 2)) := b1.trans (below_putObj _ _ _ (Nat.le_refl _))
  change _ = Result.ok () (W5.putObj W4.heap.size (.map (MAPE w) 2)) at u2
  generalize W5.putObj W4.heap.size (.map (MAPE w) 2) = W6 at u2 k2 b2
  go_upto_region 5 with (fail)
  have hst6 := hst.below b2
  clear u1 u2 k1 b1 hst
  have hs6 := lt_of_block k2
  have c3 := cell_at hst6.2.2.2.1
  simp only [RD0] at c3
  go_wp2_with fail
  refine (eat_any (w.heap.size + 2) W6.heap.size 2 [segW, polW] t _ (by decide) (heap_old hst6.2.2.1 _) ?_).mono ?_
  · intro j p hp
    match j, hp with
    | 0, hp =>
      obtain rfl : segW = p := by simpa using hp
      exact cell_at (heap_new _ _) 0
    | 1, hp =>
      obtain rfl : polW = p := by simpa using hp
      exact cell_at (heap_new _ _) 1
  have hst7 := hst6.below ((Below.refl _ _).alloc (Nat.le_refl _) (.cells #[.string ⟨#[83, 69, 71, 77, 69, 78, 84, 40]⟩, .string ⟨#[80, 79, 76, 89, 71, 79, 78, 40]⟩] 9))
  have k7 := heap_old k2 (.cells #[.string ⟨#[83, 69, 71, 77, 69, 78, 84, 40]⟩, .string ⟨#[80, 79, 76, 89, 71, 79, 78, 40]⟩] 9)
  rintro e w7 (⟨p, r, hE, rfl, hW⟩ | ⟨hE, rfl, rfl⟩)
  rotate_left
  · rw [hw] at hE
    cases hE
  obtain ⟨rfl, rfl⟩ : polW = p ∧ r0 = r := by
    rw [hw] at hE
    simpa using hE
  have hst8 := hst7.wr hW
  have k8 := hW.other _ _ (by omega) k7
  have u3 := map_look hum hus w7 W4.heap.size 1 (bs polW) (.func (.func 30) #[.pointer (some ⟨w.heap.size + 3, 0, none⟩)] #[]) k8 (by rfl)
  clear hst6 hst7 k2 k7 hW b2 c3 hs6 hE hw
  go_wp2_with fail
  refine (polygon_any (w.heap.size + 3) (w.heap.size + 2) (w.heap.size + 2) r0 (by omega) w7 (HV.out.low HV.out.size hst8.2.2.2.2) (by have := HV.out.size; omega) (by omega) (by omega) hst8.2.2.1 hst8.2.2.2.1).mono ?_
  rintro e w10 ⟨hB, (⟨Ls, r2, vs, v, hr, rfl, xb, xd, hown, hrows⟩ | ⟨hr, rfl⟩)⟩
  rotate_left
  · have hO : O = none := by rw [hsq, hr]
    subst hO
    have x0 := (hB.block _ (by omega)).trans hst8.1
    have x1 := (hB.block _ (by omega)).trans hst8.2.1
    have hB10 := hst8.2.2.2.2.trans (hB.mono (by omega))
    refine leaves_cons (f := 27) (args := #[.pointer (some ⟨w.heap.size, 0, none⟩), .pointer (some ⟨w.heap.size + 1, 0, none⟩)]) (by simp) (by simp [go_sem]) ?_
    refine (wpc_full w.heap.size (w.heap.size + 1) _ _ 190 _ _ (by omega) rfl x0 x1).mono ?_
    rintro e u' w9 ⟨rfl, rfl, y1, y2, hy⟩
    refine abs_leaves (fun W => W.heap[w.heap.size]? = some (.cells #[.bool false, .int .i64 0, .int .i64 0, .int .i64 0, .int .i64 0, .slice none 0 0] 29 (0, 0)) ∧ W.heap[w.heap.size + 1]? = some (.cells #[.int .i64 190] 31 (0, 0)) ∧ Below w.heap.size w W) ⟨y1, y2, (hB10).trans (hy _ (Nat.le_refl _) (by omega))⟩ fun W ⟨y1, y2, hB⟩ => ?_
    have c1 := cell_at y1
    have c2 := cell_at y2
    simp [Leaves, settle, results, Tryz.results9, go_sem, c1, c2]
    exact hB
  have x0 := (hB.block _ (by omega)).trans hst8.1
  have x1 := (hB.block _ (by omega)).trans hst8.2.1
  have hB10 := hst8.2.2.2.2.trans (hB.mono (by omega))
  simp only [rdC] at xd
  clear hst8 k8 u3 hB
  have cb := cell_at xb
  cases r2 with
  | cons a r2 =>
    have hO : O = none := by rw [hsq, hr]
    subst hO
    have he1 := bs_cons_ne a r2
    have he2 := bs_cons_ne2 a r2
    have cd := cell_at xd
    clear hown hrows hr
    go_wp2_with (go_at_call 28; refine (wkt_must_no _ _).mono ?_; rintro e w11 ⟨rfl, rfl⟩)
    refine leaves_cons (f := 27) (args := #[.pointer (some ⟨w.heap.size, 0, none⟩), .pointer (some ⟨w.heap.size + 1, 0, none⟩)]) (by simp) (by simp [go_sem]) ?_
    refine (wpc_full w.heap.size (w.heap.size + 1) _ _ 190 _ _ (by omega) rfl x0 x1).mono ?_
    rintro e u' w9 ⟨rfl, rfl, y1, y2, hy⟩
    refine abs_leaves (fun W => W.heap[w.heap.size]? = some (.cells #[.bool false, .int .i64 0, .int .i64 0, .int .i64 0, .int .i64 0, .slice none 0 0] 29 (0, 0)) ∧ W.heap[w.heap.size + 1]? = some (.cells #[.int .i64 190] 31 (0, 0)) ∧ Below w.heap.size w W) ⟨y1, y2, (hB10).trans (hy _ (Nat.le_refl _) (by omega))⟩ fun W ⟨y1, y2, hB⟩ => ?_
    have c1 := cell_at y1
    have c2 := cell_at y2
    simp [Leaves, settle, results, Tryz.results9, go_sem, c1, c2]
    exact hB
  | nil =>
    have hO : O = some Ls := by rw [hsq, hr]
    subst hO
    obtain ⟨e1, hne, hok⟩ := (hpi Ls).1 rfl
    have htt : total Ls ≤ 1100000 := by
      have := total_tail Ls hok
      rw [← e1] at this
      omega
    have hlm : Ls.length ≤ 1100000 := Nat.le_trans (rings_many hok) htt
    obtain ⟨A, c, rfl, _⟩ := own_cells hown
    have HCK : Hd (∀ W, RingsIn W A Ls → Calls Tryz.prog 12 #[.agg #[.bool false, .int .i64 0, .int .i64 0, .int .i64 0, .int .i64 0, .slice A Ls.length c]] W fun e w' => e = .returned (.int .i64 (if 512 < total Ls then 3 else 0)) ∧ Below W.heap.size W w') := ⟨fun W hR => by
      have h := wcheck_rings Ls hne A c W hR htt hlm
      rw [checkV_ok hne hok] at h
      exact h⟩
    clear hsq hpi hr e1 hok hne htt hlm
    have cd := cell_at xd
    by_cases hbig : 512 < total Ls
    · rw [if_pos hbig] at HCK
      have HBIG := Hd.mk hbig
      have HOW : Hd (w10.ownsRow (w.heap.size + 2) 30 1 (.slice A Ls.length c) Ls.length vs ∧ RowsN w10 vs Ls) := ⟨hown, hrows⟩
      clear hown hrows hbig
      go_upto_region 7 with (go_at_call 28; refine (wkt_must_ok _ _).mono ?_; rintro e w11 ⟨rfl, rfl⟩)
      go_wp2_with fail
      have HC := Hd.mk (HCK.out w11 (rings_of_own HOW.out.1 HOW.out.2))
      refine HC.out.mono ?_
      rintro e w13 ⟨rfl, hb⟩
      have y0 := heap_below hb x0
      have y1 := heap_below hb x1
      have hB13 := below_on hB10 hb
      clear hb x0 x1 xd xb cb cd hB10 HOW HC HCK
      have c1 := cell_at y1
      have f1 := frozen_at y1
      go_upto_region 8 with (fail)
      have hW1 := wr_one (v' := .int .i64 3) y1 (Below.refl _ _)
      have z0 := hW1.other _ _ (by omega) y0
      have z1 := hW1.here
      have hB14 := hB13.trans (hW1.below _ (by omega))
      generalize w13.setCell ⟨w.heap.size + 1, 0, none⟩ (.int .i64 3) = w14 at hW1 z0 z1 hB14 ⊢
      clear y0 y1 hB13 hW1 c1 f1
      have c1 := cell_at z1
      go_wp2_with (go_at_call 28; refine (wkt_must_no _ _).mono ?_; rintro e w11 ⟨rfl, rfl⟩)
      refine leaves_cons (f := 27) (args := #[.pointer (some ⟨w.heap.size, 0, none⟩), .pointer (some ⟨w.heap.size + 1, 0, none⟩)]) (by simp) (by simp [go_sem]) ?_
      refine (wpc_full w.heap.size (w.heap.size + 1) _ _ 3 _ _ (by omega) rfl z0 z1).mono ?_
      rintro e u' w9 ⟨rfl, rfl, y1, y2, hy⟩
      refine abs_leaves (fun W => W.heap[w.heap.size]? = some (.cells #[.bool false, .int .i64 0, .int .i64 0, .int .i64 0, .int .i64 0, .slice none 0 0] 29 (0, 0)) ∧ W.heap[w.heap.size + 1]? = some (.cells #[.int .i64 3] 31 (0, 0)) ∧ Below w.heap.size w W) ⟨y1, y2, (hB14).trans (hy _ (Nat.le_refl _) (by omega))⟩ fun W ⟨y1, y2, hB⟩ => ?_
      have c1 := cell_at y1
      have c2 := cell_at y2
      simp [Leaves, settle, results, Tryz.results9, go_sem, c1, c2]
      unfold PolP
      rw [if_pos HBIG.out]
      exact ⟨rfl, hB⟩
    · rw [if_neg hbig] at HCK
      have HBIG := Hd.mk hbig
      have HOW : Hd (w10.ownsRow (w.heap.size + 2) 30 1 (.slice A Ls.length c) Ls.length vs ∧ RowsN w10 vs Ls) := ⟨hown, hrows⟩
      clear hown hrows hbig
      go_upto_region 7 with (go_at_call 28; refine (wkt_must_ok _ _).mono ?_; rintro e w11 ⟨rfl, rfl⟩)
      go_wp2_with fail
      have HC : Hd (∀ W, RingsIn W A Ls → Calls Tryz.prog 12 #[.agg #[.bool false, .int .i64 0, .int .i64 0, .int .i64 0, .int .i64 0, .slice A Ls.length c]] W fun e w' => e = .returned (.int .i64 0) ∧ Below W.heap.size W w') := HCK
      refine (HC.out _ (rings_of_own HOW.out.1 HOW.out.2)).mono ?_
      clear HCK
      rintro e w13 ⟨rfl, hb⟩
      have y0 := heap_below hb x0
      have y1 := heap_below hb x1
      have yd := heap_below hb xd
      have hB13 := below_on hB10 hb
      have HOW3 := Hd.mk (And.intro (own_below HOW.out.1 hb) (HOW.out.2.kept (NKept.below hb)))
      clear hb x0 x1 xd xb cb cd hB10 HOW HC
      have c1 := cell_at y1
      have f1 := frozen_at y1
      go_upto_region 8 with (fail)
      have hW1 := wr_one (v' := .int .i64 0) y1 (Below.refl _ _)
      have z0 := hW1.other _ _ (by omega) y0
      have z1 := hW1.here
      have zd := hW1.other _ _ (by omega) yd
      have hB14 := hB13.trans (hW1.below _ (by omega))
      have HOW4 := Hd.mk (And.intro (HOW3.out.1.kept hW1.grown (own_ne HOW3.out.1 y1 (by decide))) (HOW3.out.2.kept (NKept.wr hW1 y1 (by decide))))
      generalize w13.setCell ⟨w.heap.size + 1, 0, none⟩ (.int .i64 0) = w14 at hW1 z0 z1 zd hB14 HOW4 ⊢
      clear y0 y1 yd hB13 HOW3 hW1 c1 f1
      have c1 := cell_at z1
      have cd := cell_at zd
      go_upto_region 9 with (go_at_call 28; refine (wkt_must_ok _ _).mono ?_; rintro e w11 ⟨rfl, rfl⟩)
      clear c1
      go_wp2_with (refine wpList_store_block rfl 29 (.tmp 2) (.tmp 52) rfl w.heap.size #[.bool false, .int .i64 0, .int .i64 0, .int .i64 0, .int .i64 0, .slice A Ls.length c] rfl rfl z0 rfl (by kernel_rfl) rfl ?_; rintro w15 hW2; have q1 := hW2.other _ _ (by omega) z1; have c1 := cell_at q1; have f1 := frozen_at q1)
      have hB15 := hB14.trans (hW2.below _ (Nat.le_refl _))
      have HOW5 := Hd.mk (And.intro (HOW4.out.1.kept hW2.grown (own_ne HOW4.out.1 z0 (by decide))) (HOW4.out.2.kept (NKept.wr hW2 z0 (by decide))))
      have hW3 := wr_one (v' := .int .i64 0) q1 (Below.refl _ _)
      refine leaves_cons (f := 27) (args := #[.pointer (some ⟨w.heap.size, 0, none⟩), .pointer (some ⟨w.heap.size + 1, 0, none⟩)]) (by simp) (by simp [go_sem]) ?_
      refine (wpc_idle _ _ _).mono ?_
      rintro e u' w9 ⟨rfl, rfl, rfl⟩
      refine abs_leaves (fun W => W.heap[w.heap.size]? = some (.cells #[.bool false, .int .i64 0, .int .i64 0, .int .i64 0, .int .i64 0, .slice A Ls.length c] 29 (0, 0)) ∧ W.heap[w.heap.size + 1]? = some (.cells #[.int .i64 0] 31 (0, 0)) ∧ RingsIn W A Ls ∧ Below w.heap.size w W) ⟨hW3.other _ _ (by omega) hW2.here, hW3.here, (rings_of_own (HOW5.out.1.kept hW3.grown (own_ne HOW5.out.1 q1 (by decide))) (HOW5.out.2.kept (NKept.wr hW3 q1 (by decide)))), hB15.trans (hW3.below _ (by omega))⟩ fun W ⟨y1, y2, hF, hB⟩ => ?_
      have c1 := cell_at y1
      have c2 := cell_at y2
      simp [Leaves, settle, results, Tryz.results9, go_sem, c1, c2]
      unfold PolP
      rw [if_neg HBIG.out]
      exact ⟨A, c, rfl, hF, hB⟩
/-- Parse, of any text. -/
theorem wparse_any (t : Bs) (ht : t.length ≤ 1100000) (w : World) (hV : Vars w) :
    Calls Tryz.prog 9 #[.string (bs t)] w fun e w' => PaPost w (parseS t).1 (parseS t).2 e w' := by
  by_cases hl : 1048576 < t.length
  · have e : parseS t = (zeroS, 3) := by unfold parseS; rw [if_pos hl]
    rw [e]
    exact (wparse_long t hl w).mono fun _ _ h => PaPost.zero h
  · rcases eat_words t with ⟨h, h1, h2⟩ | ⟨r, h1, h⟩ | ⟨r, h1, h2, h⟩
    · have e : parseS t = (zeroS, 190) := by unfold parseS; rw [if_neg hl, h1]; simp only; rw [h2]; try rfl
      rw [e]
      exact (wparse_word t (by omega) h w).mono fun _ _ h => PaPost.zero h
    · refine (wparse_seg t r (by omega) h w hV).mono fun x w' hp => ?_
      have e : parseS t = match segQ r with | some g => (⟨true, g, []⟩, 0) | none => (zeroS, 190) := by unfold parseS; rw [if_neg hl, h1]; try rfl
      rw [e]
      cases hq : segQ r with
      | none => rw [hq] at hp; exact PaPost.zero hp
      | some g => rw [hq] at hp; exact ⟨none, 0, hp.1, rings_nil _, hp.2⟩
    · refine (wparse_pol t r (by omega) h w hV).mono fun x w' hp => ?_
      have e : parseS t = match polyQ r with | some Ls => if 512 < total Ls then (zeroS, 3) else (⟨false, ((0, 0), (0, 0)), Ls⟩, 0) | none => (zeroS, 190) := by unfold parseS; rw [if_neg hl, h1]; simp only; rw [h2]; try rfl
      rw [e]
      cases hq : polyQ r with
      | none => rw [hq] at hp; exact PaPost.zero hp
      | some Ls =>
        rw [hq] at hp
        simp only at hp ⊢
        unfold PolP at hp
        by_cases hb : 512 < total Ls
        · rw [if_pos hb] at hp ⊢
          exact PaPost.zero hp
        · rw [if_neg hb] at hp ⊢
          obtain ⟨A, c, h1, h2, h3⟩ := hp
          exact ⟨A, c, h1, h2, h3⟩
end Go.Proofs.YtfchmikbebdflaaGreatDoor

namespace Go.Proofs.YtfchmikbebdflaaGreatDoor
open Go.RowKit Go.BigFrame Go.Shelf
attribute [-go_sem] Builtin.append_

set_option maxRecDepth 20000 in
set_option maxHeartbeats 1000000 in
theorem wnode_text (x y : Int) (hx : -9223372036854775808 ≤ x ∧ x ≤ 9223372036854775807) (hy : -9223372036854775808 ≤ y ∧ y ≤ 9223372036854775807) (w : World) (hV : Vars w) :
    Calls Tryz.prog 25 #[.agg #[.int .i64 x, .int .i64 y]] w fun e w' => e = .returned (.string (nodeS x y)) ∧ Below w.heap.size w w' := by
  unfold nodeS
  obtain ⟨sx, hsx⟩ : ∃ s, s = itS x := ⟨_, rfl⟩
  obtain ⟨sy, hsy⟩ : ∃ s, s = itS y := ⟨_, rfl⟩
  have HF : Hd (∀ n s, ((n = x ∧ s = sx) ∨ (n = y ∧ s = sy)) → ∀ w, Vars w → Calls Tryz.prog 53 #[.int .i64 n, .int .i64 10] w fun e w' => e = .returned (.string s) ∧ Below w.heap.size w w') := ⟨by
    rintro n s (⟨rfl, rfl⟩ | ⟨rfl, rfl⟩) w hv
    · rw [hsx]; exact fmt_itS _ hx.1 hx.2 w hv
    · rw [hsy]; exact fmt_itS _ hy.1 hy.2 w hv⟩
  have b1 : sx.size ≤ 21 := hsx ▸ itS_size x hx.1 hx.2
  have b2 : sy.size ≤ 21 := hsy ▸ itS_size y hy.1 hy.2
  have b3 : ByteArray.size ⟨#[32]⟩ = 1 := rfl
  rw [← hsx, ← hsy]
  have r1 := fun w => run_string_add_sum (P := Tryz.prog) w sx ⟨#[32]⟩ (by omega)
  have r2 := fun w => run_string_add_sum (P := Tryz.prog) w (sx ++ ⟨#[32]⟩) sy (by rw [ByteArray.size_append]; omega)
  clear hsx hsy b3
  have HV := Hd.mk hV
  clear hx hy hV
  go_enter Tryz.func25, Tryz.ntmps25
  go_upto_region 1 with (fail)
  refine abs_wp (fun W => W.heap[w.heap.size]? = some (.cells #[.int .i64 x, .int .i64 y] 24 (0, 0)) ∧ Below w.heap.size w W) ⟨heap_new _ _, by focus (repeat (first | (with_reducible exact Below.refl _ _) | (with_reducible assumption) | ((with_reducible refine Below.setCell ?_ ?_ _); rotate_left; (focus (first | omega | (simp; done) | (simp; omega)))) | ((with_reducible refine Below.alloc ?_ ?_ _); rotate_left; (focus (first | omega | (simp; done) | (simp; omega)))) | (with_reducible refine Below.drew ?_) | (refine below_on ?_ (by assumption))))⟩ fun W ⟨z0, hB⟩ => ?_
  have HVW := Hd.mk (HV.out.below hB)
  refine region_qt 8 (by kernel_rfl) (by kernel_rfl) fun X _ mk hmk hcl => ?_
  have c0 := mk_cell hmk z0
  simp only [List.take_succ_cons, List.take_zero, List.drop_succ_cons, List.drop_zero]
  repeat (go_big_quiet_step ((go_at_call 53; exact (HF.out _ _ (by first | (with_reducible exact Or.inl ⟨rfl, rfl⟩) | (with_reducible exact Or.inr ⟨rfl, rfl⟩)) _ (HVW.out.below (hmk _))).mono fun e w' h => ⟨h.1, hcl _ _ h.2⟩)))
  refine wpQuiet_nil ?_
  rintro _ ⟨x, rfl⟩
  clear c0
  have hx := hmk x
  clear hcl hmk
  generalize mk x = W1 at hx
  have hB1 := below_on hB hx
  clear hx z0 hB HVW
  go_wp2
  go_ret
  exact ⟨rfl, hB1⟩
set_option maxRecDepth 20000 in
set_option maxHeartbeats 1000000 in
theorem rwnode_text (x y : Int) (hx : -9223372036854775808 ≤ x ∧ x ≤ 9223372036854775807) (hy : -9223372036854775808 ≤ y ∧ y ≤ 9223372036854775807) (w : World) (hV : Vars w) :
    Calls Tryz.prog 33 #[.agg #[.int .i64 x, .int .i64 y]] w fun e w' => e = .returned (.string (nodeS x y)) ∧ Below w.heap.size w w' := by
  unfold nodeS
  obtain ⟨sx, hsx⟩ : ∃ s, s = itS x := ⟨_, rfl⟩
  obtain ⟨sy, hsy⟩ : ∃ s, s = itS y := ⟨_, rfl⟩
  have HF : Hd (∀ n s, ((n = x ∧ s = sx) ∨ (n = y ∧ s = sy)) → ∀ w, Vars w → Calls Tryz.prog 53 #[.int .i64 n, .int .i64 10] w fun e w' => e = .returned (.string s) ∧ Below w.heap.size w w') := ⟨by
    rintro n s (⟨rfl, rfl⟩ | ⟨rfl, rfl⟩) w hv
    · rw [hsx]; exact fmt_itS _ hx.1 hx.2 w hv
    · rw [hsy]; exact fmt_itS _ hy.1 hy.2 w hv⟩
  have b1 : sx.size ≤ 21 := hsx ▸ itS_size x hx.1 hx.2
  have b2 : sy.size ≤ 21 := hsy ▸ itS_size y hy.1 hy.2
  have b3 : ByteArray.size ⟨#[32]⟩ = 1 := rfl
  rw [← hsx, ← hsy]
  have r1 := fun w => run_string_add_sum (P := Tryz.prog) w sx ⟨#[32]⟩ (by omega)
  have r2 := fun w => run_string_add_sum (P := Tryz.prog) w (sx ++ ⟨#[32]⟩) sy (by rw [ByteArray.size_append]; omega)
  clear hsx hsy b3
  have HV := Hd.mk hV
  clear hx hy hV
  go_enter Tryz.func33, Tryz.ntmps33
  go_upto_region 1 with (fail)
  refine abs_wp (fun W => W.heap[w.heap.size]? = some (.cells #[.int .i64 x, .int .i64 y] 24 (0, 0)) ∧ Below w.heap.size w W) ⟨heap_new _ _, by focus (repeat (first | (with_reducible exact Below.refl _ _) | (with_reducible assumption) | ((with_reducible refine Below.setCell ?_ ?_ _); rotate_left; (focus (first | omega | (simp; done) | (simp; omega)))) | ((with_reducible refine Below.alloc ?_ ?_ _); rotate_left; (focus (first | omega | (simp; done) | (simp; omega)))) | (with_reducible refine Below.drew ?_) | (refine below_on ?_ (by assumption))))⟩ fun W ⟨z0, hB⟩ => ?_
  have HVW := Hd.mk (HV.out.below hB)
  refine region_qt 8 (by kernel_rfl) (by kernel_rfl) fun X _ mk hmk hcl => ?_
  have c0 := mk_cell hmk z0
  simp only [List.take_succ_cons, List.take_zero, List.drop_succ_cons, List.drop_zero]
  repeat (go_big_quiet_step ((go_at_call 53; exact (HF.out _ _ (by first | (with_reducible exact Or.inl ⟨rfl, rfl⟩) | (with_reducible exact Or.inr ⟨rfl, rfl⟩)) _ (HVW.out.below (hmk _))).mono fun e w' h => ⟨h.1, hcl _ _ h.2⟩)))
  refine wpQuiet_nil ?_
  rintro _ ⟨x, rfl⟩
  clear c0
  have hx := hmk x
  clear hcl hmk
  generalize mk x = W1 at hx
  have hB1 := below_on hB hx
  clear hx z0 hB HVW
  go_wp2
  go_ret
  exact ⟨rfl, hB1⟩
def P64 (p : Nd) : Prop := I64 p.1 ∧ I64 p.2
theorem nodeS_bs (p : Nd) : nodeS p.1 p.2 = bs (nodeL p) := bs_self _
theorem nodeL_len {p : Nd} (h : P64 p) : (nodeL p).length ≤ 43 := by
  have h1 := nodeS_size p.1 p.2 h.1 h.2
  unfold nodeL
  rw [size_list]
  exact h1
theorem wnode_bs (p : Nd) (h : P64 p) (w : World) (hV : Vars w) : Calls Tryz.prog 25 #[.agg #[.int .i64 p.1, .int .i64 p.2]] w fun e w' => e = .returned (.string (bs (nodeL p))) ∧ Below w.heap.size w w' := by
  rw [← nodeS_bs]
  exact wnode_text p.1 p.2 h.1 h.2 w hV
theorem join_le {B : Nat} : ∀ {ps : List Bs}, (∀ p ∈ ps, p.length ≤ B) → (Lib.join ps [44]).length ≤ ps.length * (B + 1)
  | [], _ => by simp [Lib.join_nil]
  | [p], h => by
    have := h p (by simp)
    rw [Lib.join_one]
    simp
    omega
  | p :: q :: r, h => by
    have h1 := h p (by simp)
    have h2 := join_le (ps := q :: r) fun x hx => h x (by simp [hx])
    rw [join_two]
    simp [Nat.add_mul] at h2 ⊢
    omega
theorem infoStrW : (Tryz.prog.info? 9).map (fun i => (i.zero, i.size, i.bytes)) = some (some (.string ByteArray.empty), 1, 16) := by kernel_rfl
/-- Join at commas, of a row that is owned. -/
theorem wjoin_own {W : World} {base : Nat} {v : Value} {ps : List Bs} (hne : ps ≠ []) (hl : ps.length ≤ 1100000) (hB : ∀ p ∈ ps, p.length ≤ 50000000) (h : W.ownsRow base 9 1 v ps.length (ps.map fun x => Value.string (bs x))) :
    Calls Tryz.prog 54 #[v, .string ⟨#[44]⟩] W fun e w' => e = .returned (.string (bs (Lib.join ps [44]))) ∧ Below W.heap.size W w' := by
  have hpos := List.length_pos_iff.2 hne
  have hj := join_le hB
  obtain ⟨hlen, h2⟩ := h
  rcases h2 with ⟨_, h0⟩ | ⟨g, cap, cur, rfl, _, hg, hc, hm, hs, ht⟩
  · omega
  · have e0 : (ps.map bs).length = ps.length := by simp
    have h3 := sh_strings_Join g 0 cap (ps.map bs) ⟨#[44]⟩ W (fun j x hx => by
      rw [Nat.zero_add, cell_at hg]
      rw [List.getElem?_map] at hx
      obtain ⟨q, hq, rfl⟩ := Option.map_eq_some_iff.1 hx
      have h4 : (ps.map fun x => Value.string (bs x))[j]? = some (.string (bs q)) := by rw [List.getElem?_map, hq]; rfl
      have hjl := (List.getElem?_eq_some_iff.1 hq).1
      rw [← ht, List.getElem?_take, if_pos (by omega)] at h4
      simpa using h4) (lt_of_block hg) (by omega) (by omega) (by
        rw [List.map_map]
        have e : (fun s : ByteArray => s.data.toList) ∘ bs = id := by funext x; simp
        rw [e, List.map_id]
        show (Lib.join ps [44]).length ≤ _
        have : ps.length * (50000000 + 1) ≤ 1100000 * 50000001 := Nat.mul_le_mul_right _ hl
        omega)
    rw [e0] at h3
    refine h3.mono ?_
    rintro e w' ⟨rfl, hb⟩
    refine ⟨?_, hb⟩
    rw [List.map_map]
    have e : (fun s : ByteArray => s.data.toList) ∘ bs = id := by funext x; simp
    rw [e, List.map_id]
theorem strs_snoc {α : Type} (f : α → Bs) {l : List α} {k : Nat} {x : α} (h : l[k]? = some x) : (l.map fun p => Value.string (bs (f p))).take (k + 1) = (l.map fun p => Value.string (bs (f p))).take k ++ [.string (bs (f x))] := by
  rw [List.take_add_one, List.getElem?_map, h]
  simp
set_option maxRecDepth 100000 in
set_option maxHeartbeats 4000000 in
/-- joined, of nodes. -/
theorem joined_nds (A : Option Addr) (c : Nat) (l : List Nd) (hne : l ≠ []) (hl : l.length ≤ 10000) (h64 : ∀ p ∈ l, P64 p) (w : World) (hV : Vars w) (hN : NdsIn w A l) :
    Calls Tryz.prog 23 #[.slice A l.length c, .func (.func 25) #[] #[]] w fun e w' => e = .returned (.string (bs (40 :: (Lib.join (l.map nodeL) [44] ++ [41])))) ∧ Below w.heap.size w w' := by
  have HJ : Hd (∀ v W, W.ownsRow w.heap.size 9 1 v l.length (l.map fun p => Value.string (bs (nodeL p))) → Calls Tryz.prog 54 #[v, .string ⟨#[44]⟩] W fun e w' => e = .returned (.string (bs (Lib.join (l.map nodeL) [44]))) ∧ Below W.heap.size W w') := ⟨fun v W h => by
    refine wjoin_own (base := w.heap.size) (ps := l.map nodeL) (by simpa using hne) (by rw [List.length_map]; omega) (fun p hp => ?_) (by rw [List.length_map, List.map_map]; exact h)
    obtain ⟨q, hq, rfl⟩ := List.mem_map.1 hp
    have := nodeL_len (h64 q hq)
    omega⟩
  have HLN : Hd ((Lib.join (l.map nodeL) [44]).length ≤ 1000000) := ⟨by
    have h1 := join_le (B := 43) (ps := l.map nodeL) (fun p hp => by
      obtain ⟨q, hq, rfl⟩ := List.mem_map.1 hp
      exact nodeL_len (h64 q hq))
    rw [List.length_map] at h1
    omega⟩
  have HF : Hd (∀ p ∈ l, ∀ W, Vars W → Calls Tryz.prog 25 #[.agg #[.int .i64 p.1, .int .i64 p.2]] W fun e w' => e = .returned (.string (bs (nodeL p))) ∧ Below W.heap.size W w') := ⟨fun p hp W hv => wnode_bs p (h64 p hp) W hv⟩
  have HV := Hd.mk hV
  have HN := Hd.mk hN
  generalize hT : Lib.join (l.map nodeL) [44] = T at HJ HLN ⊢
  have r1 := fun w => run_string_add_sum (P := Tryz.prog) w ⟨#[40]⟩ (bs T) (by have := HLN.out; simp [ByteArray.size]; omega)
  have r2 := fun w => run_string_add_sum (P := Tryz.prog) w (⟨#[40]⟩ ++ bs T) ⟨#[41]⟩ (by have := HLN.out; rw [ByteArray.size_append]; simp [ByteArray.size]; omega)
  have HE : Hd ((⟨#[40]⟩ ++ bs T) ++ ⟨#[41]⟩ = bs (40 :: (T ++ [41]))) := ⟨by apply bs_of; simp⟩
  clear hV hN h64 hT hne
  go_enter Tryz.func23, Tryz.ntmps23
  go_wp2
  go_loopw [5, 10] (fun v iv wr => ∃ k : Nat, iv = .int .i64 k ∧ k ≤ l.length ∧ Hd (wr.ownsRow w.heap.size 9 1 v k ((l.map fun p => Value.string (bs (nodeL p))).take k)) ∧ Below w.heap.size w wr) (fun _ iv _ => l.length - (intOf iv).toNat)
  case atStart => exact ⟨0, rfl, Nat.zero_le _, ⟨⟨rfl, .inl ⟨rfl, rfl⟩⟩⟩, Below.refl _ _⟩
  case round =>
    obtain ⟨k, rfl, hk, HO, hB⟩ := hrel
    by_cases hlt : k < l.length
    · have hd1 : decide ((k : Int) < (l.length : Int)) = true := by simp; omega
      have hd2 : decide (k < l.length) = true := by simp; omega
      obtain ⟨b, off, rfl, hcc⟩ := HN.out.below hB (by omega)
      obtain ⟨p, hp⟩ : ∃ p, l[k]? = some p := ⟨_, List.getElem?_eq_getElem hlt⟩
      have hq := hcc k p hp
      have q1 := hq.1
      have q2 := hq.2
      have HC := Hd.mk (HF.out p (List.mem_of_getElem? hp))
      have HS := Hd.mk (strs_snoc nodeL hp)
      have hVr := HV.out.below hB
      have HVR : Hd (Vars (wr.alloc (.cells #[.int .i64 p.1, .int .i64 p.2] 24))) := ⟨hVr.below ((Below.refl _ _).alloc (Nat.le_refl _) _)⟩
      clear hcc hp hq hVr
      go_wp2_with fail
      refine (HC.out _ HVR.out).mono ?_
      rintro e w5 ⟨rfl, hb⟩
      have HO5 := Hd.mk (own_below (HO.out.alloc _) hb)
      have hB5 := below_on (hB.alloc hB.size _) hb
      have hsz := hB5.size
      clear hb q1 q2
      obtain ⟨i0, hi, hz0, hz1, hz2⟩ := info_parts infoStrW
      have hu : Tryz.prog.underlying 104 = some (.slice 9) := by kernel_rfl
      go_wp2_with (at_builtin; refine wpList_append_own_at _ rfl (.tmp 14) (.tmp 18) 104 rfl w.heap.size 9 i0 (.string ByteArray.empty) 1 16 hu hi hz0 hz1 hz2 rfl (by decide) _ k _ rfl (HO5.out.alloc _) ⟨w5.heap.size, 0, none⟩ 1 1 [.string (bs (nodeL p))] rfl rfl (cell_one_new _ _ _) ?c2 ?b1 ?b2 ?b3 ?go)
      case c2 => intro u hu; simp at hu; subst hu; rfl
      case b1 => unfold maxLen; omega
      case b2 => omega
      case b3 => simp; omega
      case go =>
        intro v' w6 hown' hgrow _ hat
        have hr : ∀ k, u5.ownBlock = some k → w.heap.size ≤ k := fun k hk => own_ge HO5.out hk
        have hb6 : Below w.heap.size w w6 := (hB5.alloc hB5.size _).trans (below_grown hgrow (fun k hk => hr k hk) (by simp; omega))
        have HO6 := Hd.mk hown'
        clear hown' hgrow hat hr hi hz0 hz1 hz2 hu HO HO5
        go_wp2
        go_roundw
        case rel => exact ⟨k + 1, by go_num, by omega, ⟨by rw [HS.out]; exact HO6.out⟩, hb6⟩
        case measure => simp [intOf]; omega
    · obtain rfl : k = l.length := by omega
      have hd1 : decide (((l.length : Nat) : Int) < (l.length : Int)) = false := by simp
      have HO2 : Hd (wr.ownsRow w.heap.size 9 1 u5 l.length (l.map fun p => Value.string (bs (nodeL p)))) := ⟨by have := HO.out; rwa [List.take_of_length_le (by simp)] at this⟩
      clear HO
      go_wp2_with fail
      refine (HJ.out _ _ HO2.out).mono ?_
      rintro e w5 ⟨rfl, hb⟩
      have hB5 := below_on hB hb
      clear hb
      go_wp2
      go_ret
      exact ⟨by rw [← HE.out]; rfl, hB5⟩
end Go.Proofs.YtfchmikbebdflaaGreatDoor

namespace Go.Proofs.YtfchmikbebdflaaGreatDoor
open Go.RowKit Go.BigFrame Go.Shelf
attribute [-go_sem] Builtin.append_

theorem ndsC_len (l : List Nd) : (ndsC l).length = l.length * 2 := by
  unfold ndsC
  induction l with
  | nil => rfl
  | cons p l ih =>
    rw [List.flatMap_cons, List.length_append, ih]
    simp
    omega
theorem nds_cells {W : World} {b off : Nat} {l : List Nd} (h : ∀ (j : Nat) (p : Nd), l[j]? = some p → W.cell? ⟨b, off + j * 2, none⟩ = some (.int .i64 p.1) ∧ W.cell? ⟨b, off + j * 2 + 1, none⟩ = some (.int .i64 p.2)) :
    ∀ (j : Nat) (u : Value), (ndsC l)[j]? = some u → W.cell? ((⟨b, off, none⟩ : Addr).add j) = some u := by
  intro j u hj
  have ha : (⟨b, off, none⟩ : Addr).add j = ⟨b, off + j, none⟩ := by
    unfold Addr.add
    split
    · rename_i h; subst h; rfl
    · rfl
  rw [ha]
  have hlen := ndsC_len l
  have hjl := (List.getElem?_eq_some_iff.1 hj).1
  obtain ⟨p, hp⟩ : ∃ p, l[j / 2]? = some p := ⟨_, List.getElem?_eq_getElem (by omega)⟩
  obtain ⟨e1, e2⟩ := ndsC_at l (j / 2) p hp
  obtain ⟨h1, h2⟩ := h (j / 2) p hp
  rcases Nat.mod_two_eq_zero_or_one j with hm | hm
  · have e : j / 2 * 2 = j := by omega
    rw [e] at e1 h1
    rw [e1] at hj
    rw [← Option.some.inj hj]
    exact h1
  · have e : j / 2 * 2 + 1 = j := by omega
    rw [e] at e2
    rw [e2] at hj
    rw [← Option.some.inj hj, show off + j = off + j / 2 * 2 + 1 by omega]
    exact h2
theorem ndsC_one (l : List Nd) : ∀ u ∈ ndsC l, u.oneCell' = true := by
  unfold ndsC
  intro u hu
  obtain ⟨p, _, hp⟩ := List.mem_flatMap.1 hu
  simp at hp
  rcases hp with rfl | rfl <;> rfl
theorem RowN.nds {W : World} {A : Option Addr} {c n : Nat} {l : List Nd} (h : RowN W (.slice A n c) l) : NdsIn W A l := by
  obtain ⟨A', c', e, _, _, h3⟩ := h.ring
  injection e with e1 _ _
  subst e1
  exact h3
set_option maxRecDepth 100000 in
set_option maxHeartbeats 4000000 in
theorem closed_nds (A : Option Addr) (c : Nat) (l : List Nd) (hpos : 0 < l.length) (hl : l.length ≤ 10000) (hc : l.length ≤ c) (w : World) (hN : NdsIn w A l) :
    Calls Tryz.prog 24 #[.slice A l.length c] w fun e w' => ∃ A' c', e = .returned (.slice A' (l ++ l.take 1).length c') ∧ NdsIn w' A' (l ++ l.take 1) ∧ Below w.heap.size w w' := by
  obtain ⟨b, off, rfl, hcc⟩ := hN hpos
  obtain ⟨⟨x, y⟩, hp⟩ : ∃ p, l[0]? = some p := ⟨_, List.getElem?_eq_getElem hpos⟩
  have h0 := hcc 0 _ hp
  have q1 : w.cell? ⟨b, off, none⟩ = some (.int .i64 x) := by simpa using h0.1
  have q2 : w.cell? ⟨b, off + 1, none⟩ = some (.int .i64 y) := by simpa using h0.2
  have hbl := World.block_lt_of_cell? w _ q1
  have htk : l.take 1 = [(x, y)] := by
    cases l with
    | nil => simp at hpos
    | cons p l => simpa using hp
  have hcells := nds_cells hcc
  obtain ⟨i0, hi, hz0, hz1, hz2⟩ := info_parts infoNodeW
  have hu : Tryz.prog.underlying 30 = some (.slice 24) := by kernel_rfl
  have hb1 : Below w.heap.size w ((w.alloc (.cells #[.int .i64 x, .int .i64 y] 24)).drew) := ((Below.refl _ w).alloc (Nat.le_refl _) _).drew
  obtain ⟨v', w1, hr, hown, hgrow⟩ := run_append_arg_grows (P := Tryz.prog) (w := (w.alloc (.cells #[.int .i64 x, .int .i64 y] 24)).drew) 30 30 24 i0 (.agg #[.int .i64 0, .int .i64 0]) 2 16 hu hi hz0 hz1 hz2 rfl (by decide)
    ⟨b, off, none⟩ l.length l.length (ndsC l) (ndsC_len l) (fun j u hj => by
      have h := hcells j u hj
      exact (hb1.cell (World.block_lt_of_cell? w _ h)).trans h) ⟨w.heap.size, 0, none⟩ 1 1 [.int .i64 x, .int .i64 y] rfl (cell_two_new _ _ _ _) (by omega) (by unfold maxLen; omega) (by omega)
  have hrow : RowN w1 v' (l ++ l.take 1) := by
    refine own_row (base := w.heap.size + 1) ?_
    rw [htk, ndsC_append, List.length_append]
    have e : ((w.alloc (.cells #[.int .i64 x, .int .i64 y] 24)).drew).heap.size = w.heap.size + 1 := by simp
    rw [e] at hown
    exact hown
  have hbw : Below w.heap.size w w1 := hb1.trans (below_grown hgrow (fun k hk => by cases hk) (by simp))
  have HF := Hd.mk (And.intro hrow hbw)
  have hi1 : (l.length : Int) ≤ (c : Int) := by omega
  have hle : l.length ≤ l.length := Nat.le_refl _
  clear hrow hbw hown hgrow hcells hcc hb1 hi hz0 hz1 hz2 hu h0 hp htk hN
  go_enter Tryz.func24, Tryz.ntmps24
  go_wp2
  refine region_abs_w (fun a0 a' w' => ∃ vv : Nat → Value, (w' = w1) ∧ (a' = Act.put (Act.put (Act.put (Act.put (Act.put (Act.put (Act.put (Act.put (Act.put (Act.put (Act.put (Act.put a0 (some 3) (vv 3)) (some 4) (vv 4)) (some 5) (vv 5)) (some 6) (vv 6)) (some 7) (vv 7)) (some 8) (vv 8)) (some 9) (vv 9)) (some 10) (vv 10)) (some 11) (vv 11)) (some 12) (vv 12)) (some 13) (vv 13)) (some 2) v')) (fun KR hKR => ?_) ?_
  · go_region
    all_goals exact ⟨rfl, hKR _ _ (ex_putw4 ⟨rfl, by kernel_rfl⟩)⟩
  rintro a' w9 ⟨vv, rfl, rfl⟩
  simp only [Act.put, List.setIfInBounds_toArray, List.set_cons_succ, List.set_cons_zero]
  go_wp2
  go_ret
  obtain ⟨A', c', e, h1, h2, h3⟩ := HF.out.1.ring
  exact ⟨A', c', by rw [← e]; rfl, h3, HF.out.2⟩
set_option maxRecDepth 100000 in
set_option maxHeartbeats 4000000 in
/-- A ring's text. -/
theorem ringtext_any (v : Value) (l : List Nd) (hpos : 0 < l.length) (hl : l.length ≤ 9000) (h64 : ∀ p ∈ l, P64 p) (w : World) (hV : Vars w) (hN : RingIn w v l) :
    Calls Tryz.prog 22 #[v] w fun e w' => e = .returned (.string (bs (ringL l))) ∧ Below w.heap.size w w' := by
  obtain ⟨A, c, rfl, hc, _, hnd⟩ := hN
  have HC := Hd.mk (closed_nds A c l hpos (by omega) hc w hnd)
  have HJ : Hd (∀ A' c' W, Vars W → NdsIn W A' (l ++ l.take 1) → Calls Tryz.prog 23 #[.slice A' (l ++ l.take 1).length c', .func (.func 25) #[] #[]] W fun e w' => e = .returned (.string (bs (ringL l))) ∧ Below W.heap.size W w') := ⟨fun A' c' W hv hn => by
    refine joined_nds A' c' (l ++ l.take 1) (fun e => by have := congrArg List.length e; simp at this; rw [this] at hpos; simp at hpos) (by simp; omega) (fun p hp => ?_) W hv hn
    rcases List.mem_append.1 hp with h | h
    · exact h64 p h
    · exact h64 p (List.mem_of_mem_take h)⟩
  have HV := Hd.mk hV
  generalize l ++ l.take 1 = m at HC HJ
  clear hnd hV h64
  go_enter Tryz.func22, Tryz.ntmps22
  go_wp2_with fail
  refine HC.out.mono ?_
  rintro e w1 ⟨A', c', rfl, hn, hB⟩
  go_wp2_with fail
  refine (HJ.out A' c' _ (HV.out.below hB) hn).mono ?_
  rintro e w2 ⟨rfl, hb⟩
  have hB2 := below_on hB hb
  clear hb hB hn
  go_wp2
  go_ret
  exact ⟨rfl, hB2⟩
end Go.Proofs.YtfchmikbebdflaaGreatDoor
