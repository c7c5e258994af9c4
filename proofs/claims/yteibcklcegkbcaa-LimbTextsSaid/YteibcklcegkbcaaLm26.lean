/-
  Walks: Parse. Conditions stand in each theorem.
-/
import Derived.Test.YteibcklcegkbcaaLm24
import Derived.Laws.IdiomStrings
namespace Go.Proofs.Yteibcklcegkbcaa
open Go.RowKit Go.BigFrame

/-- Is a byte a digit? -/
def isDig (c : Int) : Bool := decide (48 ≤ c) && decide (c ≤ 57)
theorem odd_any (c : Int) (w : World) :
    Calls Try.prog 60 #[.int .u8 c] w fun e w' => e = .returned (.bool (!isDig c)) ∧ w' = w := by
  by_cases h1 : c < 48
  · have hr : isDig c = false := by unfold isDig; simp; omega
    rw [hr]
    clear hr
    go_enter Try.func60, Try.ntmps60
    go_wp2
    go_ret
    exact ⟨rfl, rfl⟩
  · by_cases h2 : 57 < c
    · have hr : isDig c = false := by unfold isDig; simp; omega
      rw [hr]
      clear hr
      go_enter Try.func60, Try.ntmps60
      go_wp2
      go_ret
      exact ⟨rfl, rfl⟩
    · have hr : isDig c = true := by unfold isDig; simp; omega
      rw [hr]
      clear hr
      go_enter Try.func60, Try.ntmps60
      go_wp2
      go_ret
      exact ⟨rfl, rfl⟩
/-- Bytes that are read. -/
def BytesAt (W : World) (b off : Nat) (l : List Int) : Prop := l.length ≤ 1000000 ∧ ∀ k c, l[k]? = some c → W.cell? ⟨b, off + k, none⟩ = some (.int .u8 c)
def IndexPost (l : List Int) (W : World) (e : Ending) (w' : World) : Prop := ∃ r : Int, e = .returned (.int .i64 r) ∧ w' = W ∧ (r ≥ 0 ↔ l.all isDig = false)
set_option maxHeartbeats 1000000 in
theorem index_any (b off cap : Nat) (l : List Int) (W : World) (h : BytesAt W b off l) :
    Calls Try.prog 77 #[.slice (some ⟨b, off, none⟩) l.length cap, .func (.func 60) #[] #[]] W (IndexPost l W) := by
  have hl := h.1
  have HC := Hd.mk h.2
  clear h
  go_enter Try.func77, Try.ntmps77
  go_wp2
  go_loopw [8] (fun ci wr => ∃ k : Nat, k ≤ l.length ∧ ci = .int .i64 k ∧ (∀ j c, j < k → l[j]? = some c → isDig c = true) ∧ wr = W) (fun ci _ => l.length - (intOf ci).toNat)
  case atStart => exact ⟨0, by omega, rfl, fun j c hj => absurd hj (by omega), rfl⟩
  case round =>
    obtain ⟨k, hk, rfl, hok, rfl⟩ := hrel
    have HK := Hd.mk hok
    clear hok
    by_cases hlt : k < l.length
    · obtain ⟨c, hc⟩ : ∃ c, l[k]? = some c := ⟨_, List.getElem?_eq_getElem hlt⟩
      have e0 := HC.out k c hc
      have HL := Hd.mk hc
      have hkn : (k : Int) < l.length := by omega
      clear hc
      cases hd : isDig c
      · have HD := Hd.mk hd
        clear hd
        go_wp2_with fail
        refine (odd_any c _).mono ?_
        rw [HD.out]
        rintro e w' ⟨rfl, rfl⟩
        go_wp2
        go_ret
        refine ⟨k, rfl, rfl, ⟨fun _ => ?_, fun _ => by omega⟩⟩
        rw [List.all_eq_false]
        exact ⟨c, List.mem_of_getElem? HL.out, by rw [HD.out]; simp⟩
      · have HD := Hd.mk hd
        clear hd
        go_wp2_with fail
        refine (odd_any c _).mono ?_
        rw [HD.out]
        rintro e w' ⟨rfl, rfl⟩
        go_wp2
        go_roundw
        case rel =>
          refine ⟨k + 1, by omega, by go_num, fun j q hj hq => ?_, trivial⟩
          rcases Nat.lt_succ_iff_lt_or_eq.1 hj with h | h
          · exact HK.out j q h hq
          · subst h
            rw [HL.out] at hq
            injection hq with hq
            subst hq
            exact HD.out
        case measure => simp [intOf]; omega
    · obtain rfl : k = l.length := by omega
      go_wp2
      go_ret
      refine ⟨-1, rfl, rfl, ⟨fun h => absurd h (by omega), fun h => ?_⟩⟩
      rw [List.all_eq_false] at h
      obtain ⟨c, h1, h2⟩ := h
      obtain ⟨j, hj, rfl⟩ := List.mem_iff_getElem.1 h1
      exact absurd (HK.out j _ hj (List.getElem?_eq_getElem hj)) h2
theorem contains_any (b off cap : Nat) (l : List Int) (W : World) (h : BytesAt W b off l) :
    Calls Try.prog 59 #[.slice (some ⟨b, off, none⟩) l.length cap, .func (.func 60) #[] #[]] W fun e w' => e = .returned (.bool (!l.all isDig)) ∧ w' = W := by
  have HH := Hd.mk h
  clear h
  go_enter Try.func59, Try.ntmps59
  go_wp2_with fail
  refine (index_any b off cap l _ HH.out).mono ?_
  rintro e w' ⟨r, rfl, rfl, hr⟩
  cases ha : l.all isDig
  · have h2 : decide (0 ≤ r) = true := by have := hr.2 ha; simpa using this
    have HA := Hd.mk ha
    clear hr ha
    go_wp2
    go_ret
    exact ⟨by rw [HA.out]; rfl, rfl⟩
  · have h2 : decide (0 ≤ r) = false := decide_eq_false fun h => by rw [hr.1 h] at ha; cases ha
    have HA := Hd.mk ha
    clear hr ha
    go_wp2
    go_ret
    exact ⟨by rw [HA.out]; rfl, rfl⟩
open Go.RowKit Go.BigFrame

set_option maxHeartbeats 400000 in
theorem clear_parse {W : World} {b : Nat} {c : Array Value} {t : TypeId} (h : W.heap[b]? = some (.cells c t (0, 0))) (hs : c.size = 5) :
    Calls Try.prog 58 #[.pointer (some ⟨b, 0, none⟩)] W fun e w' => e = .returned (.tuple #[]) ∧ Laid b (#[.bool (ng (0)), .int .u64 (dg (ab (0)) 0), .int .u64 (dg (ab (0)) 1), .int .u64 (dg (ab (0)) 2), .int .u64 (dg (ab (0)) 3)]) W w' := by
  have hf := frozen_at h
  have hcc := cell_at h
  obtain ⟨c0, c1, c2, c3, c4, rfl⟩ := five_of hs
  have h0 : W.cell? ⟨b, 0, none⟩ = some c0 := hcc 0
  have h1 : W.cell? ⟨b, 1, none⟩ = some c1 := hcc 1
  have h2 : W.cell? ⟨b, 2, none⟩ = some c2 := hcc 2
  have h3 : W.cell? ⟨b, 3, none⟩ = some c3 := hcc 3
  have h4 : W.cell? ⟨b, 4, none⟩ = some c4 := hcc 4
  go_enter Try.func58, Try.ntmps58
  go_wp2
  go_end0
  rw [zero_cells]
  exact ⟨rfl, laid_five ..⟩
/-- The bytes of a text. -/
def strB (s : ByteArray) : List Int := s.data.toList.map fun b : UInt8 => (b.toNat : Int)
/-- A magnitude and digits behind it; nothing once it is too great. -/
def decF (m : Nat) : List Int → Option Nat
  | [] => some m
  | c :: cs => if m * 10 + (c - 48).toNat < 2 ^ 256 then decF (m * 10 + (c - 48).toNat) cs else none
def isNeg (l : List Int) : Bool := l.head? == some 45
def rest (l : List Int) : List Int := if isNeg l then l.tail else l
/-- Are these the digits of a number that may be written so? -/
def goodD (neg : Bool) (d : List Int) : Bool := !d.isEmpty && (d.head? != some 48 || d.length == 1 && !neg) && d.all isDig
def parseV (l : List Int) : Int := if goodD (isNeg l) (rest l) then ((decF 0 (rest l)).map (fun m => zof (isNeg l) m)).getD 0 else 0
def parseE (l : List Int) : Int := if goodD (isNeg l) (rest l) then (if (decF 0 (rest l)).isSome then 0 else 110) else 111
theorem strB_length (s : ByteArray) : (strB s).length = s.size := by unfold strB; simp
theorem conv_str (s : ByteArray) (W : World) : (convert 9 92 (.string s)).run Try.prog W = .ok (.slice (some ⟨W.heap.size, 0, none⟩) s.size (grownCap W s.size 0 5))
      (W.drew.alloc (.cells (bytesRow s (grownCap W s.size 0 5)) 5 ((bytesRow s (grownCap W s.size 0 5)).size, (bytesRow s (grownCap W s.size 0 5)).size + 1))) :=
  run_bytes_of_string W 9 92 5 s (by kernel_rfl) (by kernel_rfl) (by kernel_rfl)
theorem times_ten_ok (a : Nat) (ha : a < 2 ^ 256) (h : a * 10 < 2 ^ 256) (w : World) :
    Calls Try.prog 62 #[.agg #[.int .u64 (dg (a) 0), .int .u64 (dg (a) 1), .int .u64 (dg (a) 2), .int .u64 (dg (a) 3)], .agg #[.int .u64 10, .int .u64 0, .int .u64 0, .int .u64 0]] w fun e w' => e = .returned (.agg #[.int .u64 (dg (a * 10) 0), .int .u64 (dg (a * 10) 1), .int .u64 (dg (a * 10) 2), .int .u64 (dg (a * 10) 3)]) ∧ Below w.heap.size w w' := by
  obtain ⟨d0, d1, d2, d3⟩ := dg_small (m := 10) (by decide)
  have h := times_ok a 10 ha (by decide) h w
  rw [d0, d1, d2, d3] at h
  exact h
theorem times_ten_no (a : Nat) (ha : a < 2 ^ 256) (h : ¬ a * 10 < 2 ^ 256) (w : World) :
    Calls Try.prog 62 #[.agg #[.int .u64 (dg (a) 0), .int .u64 (dg (a) 1), .int .u64 (dg (a) 2), .int .u64 (dg (a) 3)], .agg #[.int .u64 10, .int .u64 0, .int .u64 0, .int .u64 0]] w fun e w' => e = .panicked [{ v := .iface 26 (.int .i64 110), recovered := false }] ∧ Below w.heap.size w w' := by
  obtain ⟨d0, d1, d2, d3⟩ := dg_small (m := 10) (by decide)
  have h := times_no a 10 ha (by decide) h w
  rw [d0, d1, d2, d3] at h
  exact h
theorem plus_small_ok (a : Nat) (x : Int) (n : Nat) (hx : x = n) (hn : n < 256) (ha : a < 2 ^ 256) (h : a + n < 2 ^ 256) (w : World) :
    Calls Try.prog 61 #[.agg #[.int .u64 (dg (a) 0), .int .u64 (dg (a) 1), .int .u64 (dg (a) 2), .int .u64 (dg (a) 3)], .agg #[.int .u64 x, .int .u64 0, .int .u64 0, .int .u64 0]] w fun e w' => e = .returned (.agg #[.int .u64 (dg (a + n) 0), .int .u64 (dg (a + n) 1), .int .u64 (dg (a + n) 2), .int .u64 (dg (a + n) 3)]) ∧ Below w.heap.size w w' := by
  obtain ⟨d0, d1, d2, d3⟩ := dg_small (m := n) (by omega)
  have h := plus_ok a n ha (Nat.lt_trans hn (by decide)) h w
  rw [d0, d1, d2, d3, ← hx] at h
  exact h
theorem plus_small_no (a : Nat) (x : Int) (n : Nat) (hx : x = n) (hn : n < 256) (ha : a < 2 ^ 256) (h : ¬ a + n < 2 ^ 256) (w : World) :
    Calls Try.prog 61 #[.agg #[.int .u64 (dg (a) 0), .int .u64 (dg (a) 1), .int .u64 (dg (a) 2), .int .u64 (dg (a) 3)], .agg #[.int .u64 x, .int .u64 0, .int .u64 0, .int .u64 0]] w fun e w' => e = .panicked [{ v := .iface 26 (.int .i64 110), recovered := false }] ∧ Below w.heap.size w w' := by
  obtain ⟨d0, d1, d2, d3⟩ := dg_small (m := n) (by omega)
  have h := plus_no a n ha (Nat.lt_trans hn (by decide)) h w
  rw [d0, d1, d2, d3, ← hx] at h
  exact h
theorem BytesAt.below {W W1 : World} {b off : Nat} {l : List Int} (h : BytesAt W b off l) (hb : Below W.heap.size W W1) : BytesAt W1 b off l :=
  ⟨h.1, fun k c hk => (hb.cell (World.block_lt_of_cell? W _ (h.2 k c hk))).trans (h.2 k c hk)⟩
theorem BytesAt.tail {W : World} {b : Nat} {c : Int} {l : List Int} (h : BytesAt W b 0 (c :: l)) : BytesAt W b 1 l :=
  ⟨by have := h.1; simp at this; omega, fun k x hk => by
    have := h.2 (k + 1) x (by simpa using hk)
    rwa [Nat.zero_add, Nat.add_comm k 1] at this⟩
theorem BytesAt.lt {W : World} {b off : Nat} {l : List Int} (h : BytesAt W b off l) (h0 : 0 < l.length) : b < W.heap.size :=
  World.block_lt_of_cell? W _ (h.2 0 _ (List.getElem?_eq_getElem h0))
theorem BytesAt.other {W W1 : World} {b off g : Nat} {l : List Int} (h : BytesAt W b off l) (hg : b ≠ g) (hk : ∀ k o, k ≠ g → W.heap[k]? = some o → W1.heap[k]? = some o) : BytesAt W1 b off l := by
  refine ⟨h.1, fun k c hc => ?_⟩
  have h1 := h.2 k c hc
  have h2 : b < W.heap.size := World.block_lt_of_cell? W _ h1
  refine (World.cell?_of_block (w := W) ?_).trans h1
  show W1.heap[b]? = W.heap[b]?
  rw [Array.getElem?_eq_getElem h2]
  exact hk b _ hg (Array.getElem?_eq_getElem h2)
theorem decF_step {m k : Nat} {d : List Int} {c : Int} (hk : d[k]? = some c) (h : m * 10 + (c - 48).toNat < 2 ^ 256) : decF (m * 10 + (c - 48).toNat) (d.drop (k + 1)) = decF m (d.drop k) := by
  obtain ⟨h1, rfl⟩ := List.getElem?_eq_some_iff.1 hk
  rw [List.drop_eq_getElem_cons h1, decF, if_pos h]
theorem decF_over {m k : Nat} {d : List Int} {c : Int} (hk : d[k]? = some c) (h : ¬ m * 10 + (c - 48).toNat < 2 ^ 256) : decF m (d.drop k) = none := by
  obtain ⟨h1, rfl⟩ := List.getElem?_eq_some_iff.1 hk
  rw [List.drop_eq_getElem_cons h1, decF, if_neg h]
set_option maxRecDepth 20000 in
set_option maxHeartbeats 400000 in
theorem parse_l (s : ByteArray) (l : List Int) (hl : strB s = l) (hs : l.length ≤ 1000000) (w : World) :
    Calls Try.prog 21 #[.string s] w fun e w' => e = .returned (.tuple #[.agg #[.bool (ng (parseV l)), .int .u64 (dg (ab (parseV l)) 0), .int .u64 (dg (ab (parseV l)) 1), .int .u64 (dg (ab (parseV l)) 2), .int .u64 (dg (ab (parseV l)) 3)], .int .i64 (parseE l)]) ∧ Below w.heap.size w w' := by
  have hmf : ∀ (fn : Fn) (first cap : Array Value) (w : World), (Instr.makeFunc fn first cap).run Try.prog w = .ok (.func fn first cap) w := fun _ _ _ _ => rfl
  have hcv := conv_str s
  generalize hV : parseV l = V
  generalize hE : parseE l = E
  have HV0 := Hd.mk hV
  have HE0 := Hd.mk hE
  clear hV hE
  have HL := Hd.mk hl
  have hsl : s.size = l.length := by rw [← hl, strB_length]
  have HSL := Hd.mk hsl
  clear hl hsl
  go_enter_defers Try.func21, Try.ntmps21
  go_upto_region 3 with (fail)
  have hcap := grownCap_ge ((w.alloc (.cells #[.bool false, .int .u64 0, .int .u64 0, .int .u64 0, .int .u64 0] 25)).alloc (.cells #[.int .i64 0] 26)) s.size 0 5
  generalize grownCap ((w.alloc (.cells #[.bool false, .int .u64 0, .int .u64 0, .int .u64 0, .int .u64 0] 25)).alloc (.cells #[.int .i64 0] 26)) s.size 0 5 = cap at hcap
  rw [HSL.out] at hcap ⊢
  refine abs_wp (fun W => W.heap[w.heap.size]? = some (.cells #[.bool false, .int .u64 0, .int .u64 0, .int .u64 0, .int .u64 0] 25 (0, 0)) ∧ W.heap[w.heap.size + 1]? = some (.cells #[.int .i64 0] 26 (0, 0)) ∧
    BytesAt W (w.heap.size + 1 + 1) 0 l ∧ Below w.heap.size w W) ?_ fun W ⟨y1, y2, hb, hB⟩ => ?_
  · refine ⟨(congrArg (fun h => h[w.heap.size]?) (drew_heap _)).trans (heap_old (heap_old (heap_new w _) _) _), (congrArg (fun h => h[w.heap.size + 1]?) (drew_heap _)).trans (heap_old (heap_at (n := w.heap.size + 1) (by simp) _) _), ⟨hs, fun k c hk => ?_⟩, by focus (repeat (first | (with_reducible exact Below.refl _ _) | (with_reducible assumption) | ((with_reducible refine Below.setCell ?_ ?_ _); rotate_left; (focus (first | omega | (simp; done) | (simp; omega)))) | ((with_reducible refine Below.alloc ?_ ?_ _); rotate_left; (focus (first | omega | (simp; done) | (simp; omega)))) | (with_reducible refine Below.drew ?_) | (refine below_on ?_ (by assumption))))⟩
    refine (cell_at (heap_at (n := w.heap.size + 1 + 1) (by simp) _) (0 + k)).trans ?_
    rw [← HL.out] at hk
    have hk2 : k < s.data.size := by
      have := (List.getElem?_eq_some_iff.1 hk).1
      simpa [strB] using this
    rw [Nat.zero_add, bytesRow_at s cap k hk2]
    simp only [strB, List.getElem?_map, Option.map_eq_some_iff, Array.getElem?_toList] at hk
    obtain ⟨a, ha, rfl⟩ := hk
    rw [(Array.getElem?_eq_some_iff.1 ha).2]
  clear hcv HSL
  match l, hs, hcap, hb with
  | [], hs, hcap, hb =>
    have HV : Hd (V = 0) := ⟨HV0.out.symm.trans rfl⟩
    have HE : Hd (E = 111) := ⟨HE0.out.symm.trans rfl⟩
    go_wp2_with fail
    refine (must_no _ _).mono ?_
    rintro e w' ⟨rfl, rfl⟩
    go_wp2
    rw [HV.out, HE.out]
    refine leaves_cons (f := 43) (args := #[.pointer (some ⟨w.heap.size + 1, 0, none⟩), .func (.func 58) #[] #[.pointer (some ⟨w.heap.size, 0, none⟩)]]) (by simp) (by simp [go_sem]) ?_
    refine (caught_full _ _ 111 _ _ _ _ (Laid (w.heap.size) (#[.bool (ng (0)), .int .u64 (dg (ab (0)) 0), .int .u64 (dg (ab (0)) 1), .int .u64 (dg (ab (0)) 2), .int .u64 (dg (ab (0)) 3)]) _) (cell_at y2 0) (frozen_at y2 0) (fun _ => rfl) (clear_parse (heap_set_other y1 (by simp) _) rfl)).mono ?_
    rintro e u' w3 ⟨rfl, rfl, hL⟩
    refine abs_leaves (OutAt w (w.heap.size) (w.heap.size + 1) 0 111) (out_cleared (by omega) (by omega) y1 y2 rfl rfl hB hL) fun W hW => ?_
    obtain ⟨y1, y2, hB⟩ := hW
    have c1 := cell_at y1
    have c2 := cell_at y2
    simp [Leaves, settle, results, Try.results21, go_sem, c1, c2]
    first | exact ⟨rfl, hB⟩ | exact hB
  | c :: cs, hs, hcap, hb =>
    have e0 := hb.2 0 c rfl
    have HB0 := Hd.mk hb
    clear hb
    by_cases h45 : c = 45
    · subst h45
      match cs, hs, hcap, HB0 with
      | [], hs, hcap, hb =>
        have HV : Hd (V = 0) := ⟨HV0.out.symm.trans rfl⟩
        have HE : Hd (E = 111) := ⟨HE0.out.symm.trans rfl⟩
        by_cases hc1 : cap = 1
        · go_wp2_with fail
          refine (must_no _ _).mono ?_
          rintro e w' ⟨rfl, rfl⟩
          go_wp2
          rw [HV.out, HE.out]
          refine leaves_cons (f := 43) (args := #[.pointer (some ⟨w.heap.size + 1, 0, none⟩), .func (.func 58) #[] #[.pointer (some ⟨w.heap.size, 0, none⟩)]]) (by simp) (by simp [go_sem]) ?_
          refine (caught_full _ _ 111 _ _ _ _ (Laid (w.heap.size) (#[.bool (ng (0)), .int .u64 (dg (ab (0)) 0), .int .u64 (dg (ab (0)) 1), .int .u64 (dg (ab (0)) 2), .int .u64 (dg (ab (0)) 3)]) _) (cell_at y2 0) (frozen_at y2 0) (fun _ => rfl) (clear_parse (heap_set_other y1 (by simp) _) rfl)).mono ?_
          rintro e u' w3 ⟨rfl, rfl, hL⟩
          refine abs_leaves (OutAt w (w.heap.size) (w.heap.size + 1) 0 111) (out_cleared (by omega) (by omega) y1 y2 rfl rfl hB hL) fun W hW => ?_
          obtain ⟨y1, y2, hB⟩ := hW
          have c1 := cell_at y1
          have c2 := cell_at y2
          simp [Leaves, settle, results, Try.results21, go_sem, c1, c2]
          first | exact ⟨rfl, hB⟩ | exact hB
        · go_wp2_with fail
          refine (must_no _ _).mono ?_
          rintro e w' ⟨rfl, rfl⟩
          go_wp2
          rw [HV.out, HE.out]
          refine leaves_cons (f := 43) (args := #[.pointer (some ⟨w.heap.size + 1, 0, none⟩), .func (.func 58) #[] #[.pointer (some ⟨w.heap.size, 0, none⟩)]]) (by simp) (by simp [go_sem]) ?_
          refine (caught_full _ _ 111 _ _ _ _ (Laid (w.heap.size) (#[.bool (ng (0)), .int .u64 (dg (ab (0)) 0), .int .u64 (dg (ab (0)) 1), .int .u64 (dg (ab (0)) 2), .int .u64 (dg (ab (0)) 3)]) _) (cell_at y2 0) (frozen_at y2 0) (fun _ => rfl) (clear_parse (heap_set_other y1 (by simp) _) rfl)).mono ?_
          rintro e u' w3 ⟨rfl, rfl, hL⟩
          refine abs_leaves (OutAt w (w.heap.size) (w.heap.size + 1) 0 111) (out_cleared (by omega) (by omega) y1 y2 rfl rfl hB hL) fun W hW => ?_
          obtain ⟨y1, y2, hB⟩ := hW
          have c1 := cell_at y1
          have c2 := cell_at y2
          simp [Leaves, settle, results, Try.results21, go_sem, c1, c2]
          first | exact ⟨rfl, hB⟩ | exact hB
      | c :: cs, hs, hcap, HB0 =>
        have e1 := HB0.out.2 1 c rfl
        have hc1 : ¬ cap = 1 := by simp at hcap; omega
        by_cases h48 : c = 48
        · subst h48
          have HV : Hd (V = 0) := ⟨HV0.out.symm.trans (by simp [parseV, goodD, isNeg, rest])⟩
          have HE : Hd (E = 111) := ⟨HE0.out.symm.trans (by simp [parseE, goodD, isNeg, rest])⟩
          by_cases hcs : cs = []
          · subst hcs
            go_wp2_with fail
            refine (must_no _ _).mono ?_
            rintro e w' ⟨rfl, rfl⟩
            go_wp2
            rw [HV.out, HE.out]
            refine leaves_cons (f := 43) (args := #[.pointer (some ⟨w.heap.size + 1, 0, none⟩), .func (.func 58) #[] #[.pointer (some ⟨w.heap.size, 0, none⟩)]]) (by simp) (by simp [go_sem]) ?_
            refine (caught_full _ _ 111 _ _ _ _ (Laid (w.heap.size) (#[.bool (ng (0)), .int .u64 (dg (ab (0)) 0), .int .u64 (dg (ab (0)) 1), .int .u64 (dg (ab (0)) 2), .int .u64 (dg (ab (0)) 3)]) _) (cell_at y2 0) (frozen_at y2 0) (fun _ => rfl) (clear_parse (heap_set_other y1 (by simp) _) rfl)).mono ?_
            rintro e u' w3 ⟨rfl, rfl, hL⟩
            refine abs_leaves (OutAt w (w.heap.size) (w.heap.size + 1) 0 111) (out_cleared (by omega) (by omega) y1 y2 rfl rfl hB hL) fun W hW => ?_
            obtain ⟨y1, y2, hB⟩ := hW
            have c1 := cell_at y1
            have c2 := cell_at y2
            simp [Leaves, settle, results, Try.results21, go_sem, c1, c2]
            first | exact ⟨rfl, hB⟩ | exact hB
          · have hne : ((cs.length : Int) + 1 == 1) = false := by
              have : 0 < cs.length := List.length_pos_iff.2 hcs
              simp; omega
            clear hcs
            go_wp2_with fail
            refine (must_no _ _).mono ?_
            rintro e w' ⟨rfl, rfl⟩
            go_wp2
            rw [HV.out, HE.out]
            refine leaves_cons (f := 43) (args := #[.pointer (some ⟨w.heap.size + 1, 0, none⟩), .func (.func 58) #[] #[.pointer (some ⟨w.heap.size, 0, none⟩)]]) (by simp) (by simp [go_sem]) ?_
            refine (caught_full _ _ 111 _ _ _ _ (Laid (w.heap.size) (#[.bool (ng (0)), .int .u64 (dg (ab (0)) 0), .int .u64 (dg (ab (0)) 1), .int .u64 (dg (ab (0)) 2), .int .u64 (dg (ab (0)) 3)]) _) (cell_at y2 0) (frozen_at y2 0) (fun _ => rfl) (clear_parse (heap_set_other y1 (by simp) _) rfl)).mono ?_
            rintro e u' w3 ⟨rfl, rfl, hL⟩
            refine abs_leaves (OutAt w (w.heap.size) (w.heap.size + 1) 0 111) (out_cleared (by omega) (by omega) y1 y2 rfl rfl hB hL) fun W hW => ?_
            obtain ⟨y1, y2, hB⟩ := hW
            have c1 := cell_at y1
            have c2 := cell_at y2
            simp [Leaves, settle, results, Try.results21, go_sem, c1, c2]
            first | exact ⟨rfl, hB⟩ | exact hB
        · have hne : (c != 48) = true := by simpa using h48
          go_wp2_with fail
          refine (must_ok _ _).mono ?_
          rintro e w' ⟨rfl, rfl⟩
          have HBd : Hd (BytesAt w' (w.heap.size + 1 + 1) 1 (c :: cs)) := ⟨HB0.out.tail⟩
          have HVb : Hd ((c :: cs).all isDig = false → V = 0 ∧ E = 111) := ⟨fun h => ⟨HV0.out.symm.trans (by simp only [parseV, goodD, isNeg, rest]; simp [h]), HE0.out.symm.trans (by simp only [parseE, goodD, isNeg, rest]; simp [h])⟩⟩
          have HVg : Hd ((c :: cs).all isDig = true → V = ((decF 0 (c :: cs)).map (fun m => zof true m)).getD 0 ∧ E = if (decF 0 (c :: cs)).isSome then 0 else 110) := ⟨fun h => ⟨HV0.out.symm.trans (by simp only [parseV, goodD, isNeg, rest]; simp [h, h48]), HE0.out.symm.trans (by simp only [parseE, goodD, isNeg, rest]; simp [h, h48])⟩⟩
          clear hne h48 e0 e1 HB0 hs hcap hc1 HV0 HE0 HL
          obtain ⟨d, hd⟩ : ∃ d : List Int, d = c :: cs := ⟨_, rfl⟩
          rw [show cs.length + 1 = d.length by subst hd; rfl]
          rw [← hd] at HBd HVb HVg
          clear hd
          go_wp2_with fail
          refine (contains_any _ 1 _ d _ HBd.out).mono ?_
          rintro e w' ⟨rfl, rfl⟩
          cases ha : d.all isDig
          · obtain ⟨hv, he⟩ := HVb.out ha
            have HV := Hd.mk hv
            have HE := Hd.mk he
            clear hv he ha
            go_wp2_with fail
            refine (must_no _ _).mono ?_
            rintro e w' ⟨rfl, rfl⟩
            go_wp2
            rw [HV.out, HE.out]
            refine leaves_cons (f := 43) (args := #[.pointer (some ⟨w.heap.size + 1, 0, none⟩), .func (.func 58) #[] #[.pointer (some ⟨w.heap.size, 0, none⟩)]]) (by simp) (by simp [go_sem]) ?_
            refine (caught_full _ _ 111 _ _ _ _ (Laid (w.heap.size) (#[.bool (ng (0)), .int .u64 (dg (ab (0)) 0), .int .u64 (dg (ab (0)) 1), .int .u64 (dg (ab (0)) 2), .int .u64 (dg (ab (0)) 3)]) _) (cell_at y2 0) (frozen_at y2 0) (fun _ => rfl) (clear_parse (heap_set_other y1 (by simp) _) rfl)).mono ?_
            rintro e u' w3 ⟨rfl, rfl, hL⟩
            refine abs_leaves (OutAt w (w.heap.size) (w.heap.size + 1) 0 111) (out_cleared (by omega) (by omega) y1 y2 rfl rfl hB hL) fun W hW => ?_
            obtain ⟨y1, y2, hB⟩ := hW
            have c1 := cell_at y1
            have c2 := cell_at y2
            simp [Leaves, settle, results, Try.results21, go_sem, c1, c2]
            first | exact ⟨rfl, hB⟩ | exact hB
          · obtain ⟨hv, he⟩ := HVg.out ha
            have HV := Hd.mk hv
            have HE := Hd.mk he
            have HA := Hd.mk ha
            have HBW := Hd.mk hB
            clear hv he ha hB HVb HVg
            go_wp2_with fail
            refine (must_ok _ _).mono ?_
            rintro e w' ⟨rfl, rfl⟩
            go_wp2
            have hs1 := lt_of_block y2
            have hdl := HBd.out.1
            refine abs_wp (fun W => W.heap[w.heap.size]? = some (.cells #[.bool false, .int .u64 0, .int .u64 0, .int .u64 0, .int .u64 0] 25 (0, 0)) ∧ W.heap[w.heap.size + 1]? = some (.cells #[.int .i64 0] 26 (0, 0)) ∧
              BytesAt W (w.heap.size + 1 + 1) 1 d ∧ W.heap[w'.heap.size]? = some (.cells #[.int .u64 (dg (0) 0), .int .u64 (dg (0) 1), .int .u64 (dg (0) 2), .int .u64 (dg (0) 3)] 82 (0, 0)) ∧ Below w.heap.size w W) ⟨heap_old y1 _, heap_old y2 _, HBd.out.below (by focus (repeat (first | (with_reducible exact Below.refl _ _) | (with_reducible assumption) | ((with_reducible refine Below.setCell ?_ ?_ _); rotate_left; (focus (first | omega | (simp; done) | (simp; omega)))) | ((with_reducible refine Below.alloc ?_ ?_ _); rotate_left; (focus (first | omega | (simp; done) | (simp; omega)))) | (with_reducible refine Below.drew ?_) | (refine below_on ?_ (by assumption))))), by simp only [dg_zero]; exact heap_new _ _, (by have hB := HBW.out; have hsb := hB.size; focus (repeat (first | (with_reducible exact Below.refl _ _) | (with_reducible assumption) | ((with_reducible refine Below.setCell ?_ ?_ _); rotate_left; (focus (first | omega | (simp; done) | (simp; omega)))) | ((with_reducible refine Below.alloc ?_ ?_ _); rotate_left; (focus (first | omega | (simp; done) | (simp; omega)))) | (with_reducible refine Below.drew ?_) | (refine below_on ?_ (by assumption)))))⟩ fun W ⟨y1, y2, hb, y6, hB⟩ => ?_
            go_loopw [49] (fun ci wr => ∃ k m : Nat, k ≤ d.length ∧ ci = .int .i64 k ∧ m < 2 ^ 256 ∧ decF m (d.drop k) = decF 0 d ∧ wr.heap[w.heap.size]? = some (.cells #[.bool false, .int .u64 0, .int .u64 0, .int .u64 0, .int .u64 0] 25 (0, 0)) ∧ wr.heap[w.heap.size + 1]? = some (.cells #[.int .i64 0] 26 (0, 0)) ∧
              BytesAt wr (w.heap.size + 1 + 1) 1 d ∧ wr.heap[w'.heap.size]? = some (.cells #[.int .u64 (dg (m) 0), .int .u64 (dg (m) 1), .int .u64 (dg (m) 2), .int .u64 (dg (m) 3)] 82 (0, 0)) ∧ Below w.heap.size w wr) (fun ci _ => d.length - (intOf ci).toNat)
            case atStart => exact ⟨0, 0, by omega, rfl, by decide, rfl, y1, y2, hb, y6, hB⟩
            case round =>
              clear y1 y2 hb y6 hB
              obtain ⟨k, m, hk, rfl, hm, hdec, y1, y2, hb, y6, hB⟩ := hrel
              have HM := Hd.mk hm
              have HDC := Hd.mk hdec
              have d6 := cell_at y6
              have f6 := frozen_at y6
              have HB := Hd.mk hb
              clear hm hdec
              by_cases hlt : k < d.length
              · obtain ⟨c, hc⟩ : ∃ c, d[k]? = some c := ⟨_, List.getElem?_eq_getElem hlt⟩
                have e3 := hb.2 k c hc
                try simp only [Nat.zero_add] at e3
                have hdg := List.all_eq_true.1 HA.out c (List.mem_of_getElem? hc)
                have hdg1 : 48 ≤ c ∧ c ≤ 57 := by unfold isDig at hdg; simpa using hdg
                obtain ⟨hc1, hc2⟩ := hdg1
                have HL := Hd.mk hc
                clear hdg hc hb
                by_cases h10 : m * 10 < 2 ^ 256
                · have H10 := Hd.mk h10
                  clear h10
                  go_wp2_with fail
                  refine (times_ten_ok _ HM.out H10.out _).mono ?_
                  rintro e w2 ⟨rfl, hb2⟩
                  have v1 := heap_below hb2 y1
                  have v2 := heap_below hb2 y2
                  have v6 := heap_below hb2 y6
                  have HB2 := Hd.mk (HB.out.below hb2)
                  have hB2 : Below w.heap.size w w2 := below_on hB hb2
                  clear y1 y2 y6 d6 f6 e3 hb2 hB
                  by_cases hp : m * 10 + (c - 48).toNat < 2 ^ 256
                  · have HP := Hd.mk hp
                    clear hp
                    go_wp2_with fail
                    refine (plus_small_ok _ _ (c - 48).toNat (by first | omega | (simp [IntKind.wrap, IntKind.bits, IntKind.signed]; omega)) (by omega) H10.out HP.out _).mono ?_
                    rintro e w3 ⟨rfl, hb3⟩
                    have y1 := heap_below hb3 v1
                    have y2 := heap_below hb3 v2
                    have y6 := heap_below hb3 v6
                    have HB3 := Hd.mk (HB2.out.below hb3)
                    have hB3 : Below w.heap.size w w3 := below_on hB2 hb3
                    have d6 := cell_at y6
                    have f6 := frozen_at y6
                    clear v1 v2 v6 hb3 hB2
                    go_wp2
                    go_roundw
                    case rel =>
                      have hs0 := HBd.out.lt (by omega)
                      obtain ⟨l1, l2, l3⟩ := laid_four w'.heap.size w3 (.int .u64 (dg (m * 10 + (c - 48).toNat) 0)) (.int .u64 (dg (m * 10 + (c - 48).toNat) 1)) (.int .u64 (dg (m * 10 + (c - 48).toNat) 2)) (.int .u64 (dg (m * 10 + (c - 48).toNat) 3))
                      exact ⟨k + 1, m * 10 + (c - 48).toNat, by omega, by go_num, HP.out, (decF_step HL.out HP.out).trans HDC.out, l2 _ _ (by omega) y1, l2 _ _ (by omega) y2, HB3.out.other (by omega) l2, l1 y6 rfl, hB3.trans (l3 _ (by omega))⟩
                    case measure => simp [intOf]; omega
                  · have hnone := (decF_over HL.out hp).symm.trans HDC.out
                    have HP := Hd.mk hp
                    have HV2 : Hd (V = 0) := ⟨by rw [HV.out, ← hnone]; rfl⟩
                    have HE2 : Hd (E = 110) := ⟨by rw [HE.out, ← hnone]; rfl⟩
                    clear hp hnone
                    go_wp2_with fail
                    refine (plus_small_no _ _ (c - 48).toNat (by first | omega | (simp [IntKind.wrap, IntKind.bits, IntKind.signed]; omega)) (by omega) H10.out HP.out _).mono ?_
                    rintro e w3 ⟨rfl, hb3⟩
                    have y1 := heap_below hb3 v1
                    have y2 := heap_below hb3 v2
                    have hB3 : Below w.heap.size w w3 := below_on hB2 hb3
                    clear v1 v2 v6 hb3 hB2
                    go_wp2
                    rw [HV2.out, HE2.out]
                    refine leaves_cons (f := 43) (args := #[.pointer (some ⟨w.heap.size + 1, 0, none⟩), .func (.func 58) #[] #[.pointer (some ⟨w.heap.size, 0, none⟩)]]) (by simp) (by simp [go_sem]) ?_
                    refine (caught_full _ _ 110 _ _ _ _ (Laid (w.heap.size) (#[.bool (ng (0)), .int .u64 (dg (ab (0)) 0), .int .u64 (dg (ab (0)) 1), .int .u64 (dg (ab (0)) 2), .int .u64 (dg (ab (0)) 3)]) _) (cell_at y2 0) (frozen_at y2 0) (fun _ => rfl) (clear_parse (heap_set_other y1 (by simp) _) rfl)).mono ?_
                    rintro e u' w3 ⟨rfl, rfl, hL⟩
                    refine abs_leaves (OutAt w (w.heap.size) (w.heap.size + 1) 0 110) (out_cleared (by omega) (by omega) y1 y2 rfl rfl hB3 hL) fun W hW => ?_
                    obtain ⟨y1, y2, hB⟩ := hW
                    have c1 := cell_at y1
                    have c2 := cell_at y2
                    simp [Leaves, settle, results, Try.results21, go_sem, c1, c2]
                    first | exact ⟨rfl, hB⟩ | exact hB
                · have hp : ¬ m * 10 + (c - 48).toNat < 2 ^ 256 := fun h => h10 (Nat.lt_of_le_of_lt (Nat.le_add_right _ _) h)
                  have hnone := (decF_over HL.out hp).symm.trans HDC.out
                  have HP := Hd.mk h10
                  have HV2 : Hd (V = 0) := ⟨by rw [HV.out, ← hnone]; rfl⟩
                  have HE2 : Hd (E = 110) := ⟨by rw [HE.out, ← hnone]; rfl⟩
                  clear hp hnone h10
                  go_wp2_with fail
                  refine (times_ten_no _ HM.out HP.out _).mono ?_
                  rintro e w3 ⟨rfl, hb3⟩
                  have v1 := heap_below hb3 y1
                  have v2 := heap_below hb3 y2
                  have hB3 : Below w.heap.size w w3 := below_on hB hb3
                  clear y1 y2 y6 d6 f6 e3 hb3 hB
                  go_wp2
                  rw [HV2.out, HE2.out]
                  refine leaves_cons (f := 43) (args := #[.pointer (some ⟨w.heap.size + 1, 0, none⟩), .func (.func 58) #[] #[.pointer (some ⟨w.heap.size, 0, none⟩)]]) (by simp) (by simp [go_sem]) ?_
                  refine (caught_full _ _ 110 _ _ _ _ (Laid (w.heap.size) (#[.bool (ng (0)), .int .u64 (dg (ab (0)) 0), .int .u64 (dg (ab (0)) 1), .int .u64 (dg (ab (0)) 2), .int .u64 (dg (ab (0)) 3)]) _) (cell_at v2 0) (frozen_at v2 0) (fun _ => rfl) (clear_parse (heap_set_other v1 (by simp) _) rfl)).mono ?_
                  rintro e u' w3 ⟨rfl, rfl, hL⟩
                  refine abs_leaves (OutAt w (w.heap.size) (w.heap.size + 1) 0 110) (out_cleared (by omega) (by omega) v1 v2 rfl rfl hB3 hL) fun W hW => ?_
                  obtain ⟨y1, y2, hB⟩ := hW
                  have c1 := cell_at y1
                  have c2 := cell_at y2
                  simp [Leaves, settle, results, Try.results21, go_sem, c1, c2]
                  first | exact ⟨rfl, hB⟩ | exact hB
              · obtain rfl : k = d.length := by omega
                have hdec := HDC.out
                rw [List.drop_length] at hdec
                have HV2 : Hd (V = zof true m) := ⟨by rw [HV.out, ← hdec]; rfl⟩
                have HE2 : Hd (E = 0) := ⟨by rw [HE.out, ← hdec]; rfl⟩
                clear hdec hb
                go_wp2_with fail
                refine (of_z _ _ HM.out _).mono ?_
                rintro e w3 ⟨rfl, hb3⟩
                rw [← HV2.out]
                have z1 : w3.heap[w.heap.size]? = some _ := heap_below hb3 y1
                have c1 := cell_at z1
                have f1 := frozen_at z1
                have z2 : w3.heap[w.heap.size + 1]? = some _ := heap_below hb3 y2
                have c2 := cell_at z2
                have f2 := frozen_at z2
                have hB3 : Below w.heap.size w w3 := below_on hB hb3
                clear y1 y2 y6 d6 f6 hb3 hB
                go_wp2
                rw [HE2.out]
                refine leaves_cons (f := 43) (args := #[.pointer (some ⟨w.heap.size + 1, 0, none⟩), .func (.func 58) #[] #[.pointer (some ⟨w.heap.size, 0, none⟩)]]) (by simp) (by simp [go_sem]) ?_
                refine (caught_idle _ _ _).mono ?_
                rintro e u' w3 ⟨rfl, rfl, rfl⟩
                refine abs_leaves (OutAt w (w.heap.size) (w.heap.size + 1) (V) 0) (out_stored (by omega) (by omega) z1 z2 rfl rfl hB3) fun W hW => ?_
                obtain ⟨y1, y2, hB⟩ := hW
                have c1 := cell_at y1
                have c2 := cell_at y2
                simp [Leaves, settle, results, Try.results21, go_sem, c1, c2]
                first | exact ⟨rfl, hB⟩ | exact hB
    · have hn45 : (c == 45) = false := by simpa using h45
      by_cases h48 : c = 48
      · subst h48
        by_cases hcs : cs = []
        · have hne : ((cs.length : Int) + 1 == 1) = true := by rw [hcs]; rfl
          have HVb : Hd (((48 : Int) :: cs).all isDig = false → V = 0 ∧ E = 111) := ⟨fun h => by rw [hcs] at h; exact absurd h (by decide)⟩
          have HVg : Hd (((48 : Int) :: cs).all isDig = true → V = ((decF 0 (48 :: cs)).map (fun m => zof false m)).getD 0 ∧ E = if (decF 0 (48 :: cs)).isSome then 0 else 110) := ⟨fun h => ⟨HV0.out.symm.trans (by rw [hcs]; simp only [parseV, goodD, isNeg, rest]; simp [isDig]), HE0.out.symm.trans (by rw [hcs]; simp only [parseE, goodD, isNeg, rest]; simp [isDig])⟩⟩
          clear hcs
          go_wp2_with fail
          refine (must_ok _ _).mono ?_
          rintro e w' ⟨rfl, rfl⟩
          have HBd : Hd (BytesAt w' (w.heap.size + 1 + 1) 0 (48 :: cs)) := ⟨HB0.out⟩
          clear e0 HB0 hs hcap hn45 HV0 HE0 HL h45 hne
          obtain ⟨d, hd⟩ : ∃ d : List Int, d = 48 :: cs := ⟨_, rfl⟩
          rw [show ((48 : Int) :: cs).length = d.length by subst hd; rfl]
          rw [← hd] at HBd HVb HVg
          clear hd
          go_wp2_with fail
          refine (contains_any _ 0 _ d _ HBd.out).mono ?_
          rintro e w' ⟨rfl, rfl⟩
          cases ha : d.all isDig
          · obtain ⟨hv, he⟩ := HVb.out ha
            have HV := Hd.mk hv
            have HE := Hd.mk he
            clear hv he ha
            go_wp2_with fail
            refine (must_no _ _).mono ?_
            rintro e w' ⟨rfl, rfl⟩
            go_wp2
            rw [HV.out, HE.out]
            refine leaves_cons (f := 43) (args := #[.pointer (some ⟨w.heap.size + 1, 0, none⟩), .func (.func 58) #[] #[.pointer (some ⟨w.heap.size, 0, none⟩)]]) (by simp) (by simp [go_sem]) ?_
            refine (caught_full _ _ 111 _ _ _ _ (Laid (w.heap.size) (#[.bool (ng (0)), .int .u64 (dg (ab (0)) 0), .int .u64 (dg (ab (0)) 1), .int .u64 (dg (ab (0)) 2), .int .u64 (dg (ab (0)) 3)]) _) (cell_at y2 0) (frozen_at y2 0) (fun _ => rfl) (clear_parse (heap_set_other y1 (by simp) _) rfl)).mono ?_
            rintro e u' w3 ⟨rfl, rfl, hL⟩
            refine abs_leaves (OutAt w (w.heap.size) (w.heap.size + 1) 0 111) (out_cleared (by omega) (by omega) y1 y2 rfl rfl hB hL) fun W hW => ?_
            obtain ⟨y1, y2, hB⟩ := hW
            have c1 := cell_at y1
            have c2 := cell_at y2
            simp [Leaves, settle, results, Try.results21, go_sem, c1, c2]
            first | exact ⟨rfl, hB⟩ | exact hB
          · obtain ⟨hv, he⟩ := HVg.out ha
            have HV := Hd.mk hv
            have HE := Hd.mk he
            have HA := Hd.mk ha
            have HBW := Hd.mk hB
            clear hv he ha hB HVb HVg
            go_wp2_with fail
            refine (must_ok _ _).mono ?_
            rintro e w' ⟨rfl, rfl⟩
            go_wp2
            have hs1 := lt_of_block y2
            have hdl := HBd.out.1
            refine abs_wp (fun W => W.heap[w.heap.size]? = some (.cells #[.bool false, .int .u64 0, .int .u64 0, .int .u64 0, .int .u64 0] 25 (0, 0)) ∧ W.heap[w.heap.size + 1]? = some (.cells #[.int .i64 0] 26 (0, 0)) ∧
              BytesAt W (w.heap.size + 1 + 1) 0 d ∧ W.heap[w'.heap.size]? = some (.cells #[.int .u64 (dg (0) 0), .int .u64 (dg (0) 1), .int .u64 (dg (0) 2), .int .u64 (dg (0) 3)] 82 (0, 0)) ∧ Below w.heap.size w W) ⟨heap_old y1 _, heap_old y2 _, HBd.out.below (by focus (repeat (first | (with_reducible exact Below.refl _ _) | (with_reducible assumption) | ((with_reducible refine Below.setCell ?_ ?_ _); rotate_left; (focus (first | omega | (simp; done) | (simp; omega)))) | ((with_reducible refine Below.alloc ?_ ?_ _); rotate_left; (focus (first | omega | (simp; done) | (simp; omega)))) | (with_reducible refine Below.drew ?_) | (refine below_on ?_ (by assumption))))), by simp only [dg_zero]; exact heap_new _ _, (by have hB := HBW.out; have hsb := hB.size; focus (repeat (first | (with_reducible exact Below.refl _ _) | (with_reducible assumption) | ((with_reducible refine Below.setCell ?_ ?_ _); rotate_left; (focus (first | omega | (simp; done) | (simp; omega)))) | ((with_reducible refine Below.alloc ?_ ?_ _); rotate_left; (focus (first | omega | (simp; done) | (simp; omega)))) | (with_reducible refine Below.drew ?_) | (refine below_on ?_ (by assumption)))))⟩ fun W ⟨y1, y2, hb, y6, hB⟩ => ?_
            go_loopw [49] (fun ci wr => ∃ k m : Nat, k ≤ d.length ∧ ci = .int .i64 k ∧ m < 2 ^ 256 ∧ decF m (d.drop k) = decF 0 d ∧ wr.heap[w.heap.size]? = some (.cells #[.bool false, .int .u64 0, .int .u64 0, .int .u64 0, .int .u64 0] 25 (0, 0)) ∧ wr.heap[w.heap.size + 1]? = some (.cells #[.int .i64 0] 26 (0, 0)) ∧
              BytesAt wr (w.heap.size + 1 + 1) 0 d ∧ wr.heap[w'.heap.size]? = some (.cells #[.int .u64 (dg (m) 0), .int .u64 (dg (m) 1), .int .u64 (dg (m) 2), .int .u64 (dg (m) 3)] 82 (0, 0)) ∧ Below w.heap.size w wr) (fun ci _ => d.length - (intOf ci).toNat)
            case atStart => exact ⟨0, 0, by omega, rfl, by decide, rfl, y1, y2, hb, y6, hB⟩
            case round =>
              clear y1 y2 hb y6 hB
              obtain ⟨k, m, hk, rfl, hm, hdec, y1, y2, hb, y6, hB⟩ := hrel
              have HM := Hd.mk hm
              have HDC := Hd.mk hdec
              have d6 := cell_at y6
              have f6 := frozen_at y6
              have HB := Hd.mk hb
              clear hm hdec
              by_cases hlt : k < d.length
              · obtain ⟨c, hc⟩ : ∃ c, d[k]? = some c := ⟨_, List.getElem?_eq_getElem hlt⟩
                have e3 := hb.2 k c hc
                try simp only [Nat.zero_add] at e3
                have hdg := List.all_eq_true.1 HA.out c (List.mem_of_getElem? hc)
                have hdg1 : 48 ≤ c ∧ c ≤ 57 := by unfold isDig at hdg; simpa using hdg
                obtain ⟨hc1, hc2⟩ := hdg1
                have HL := Hd.mk hc
                clear hdg hc hb
                by_cases h10 : m * 10 < 2 ^ 256
                · have H10 := Hd.mk h10
                  clear h10
                  go_wp2_with fail
                  refine (times_ten_ok _ HM.out H10.out _).mono ?_
                  rintro e w2 ⟨rfl, hb2⟩
                  have v1 := heap_below hb2 y1
                  have v2 := heap_below hb2 y2
                  have v6 := heap_below hb2 y6
                  have HB2 := Hd.mk (HB.out.below hb2)
                  have hB2 : Below w.heap.size w w2 := below_on hB hb2
                  clear y1 y2 y6 d6 f6 e3 hb2 hB
                  by_cases hp : m * 10 + (c - 48).toNat < 2 ^ 256
                  · have HP := Hd.mk hp
                    clear hp
                    go_wp2_with fail
                    refine (plus_small_ok _ _ (c - 48).toNat (by first | omega | (simp [IntKind.wrap, IntKind.bits, IntKind.signed]; omega)) (by omega) H10.out HP.out _).mono ?_
                    rintro e w3 ⟨rfl, hb3⟩
                    have y1 := heap_below hb3 v1
                    have y2 := heap_below hb3 v2
                    have y6 := heap_below hb3 v6
                    have HB3 := Hd.mk (HB2.out.below hb3)
                    have hB3 : Below w.heap.size w w3 := below_on hB2 hb3
                    have d6 := cell_at y6
                    have f6 := frozen_at y6
                    clear v1 v2 v6 hb3 hB2
                    go_wp2
                    go_roundw
                    case rel =>
                      have hs0 := HBd.out.lt (by omega)
                      obtain ⟨l1, l2, l3⟩ := laid_four w'.heap.size w3 (.int .u64 (dg (m * 10 + (c - 48).toNat) 0)) (.int .u64 (dg (m * 10 + (c - 48).toNat) 1)) (.int .u64 (dg (m * 10 + (c - 48).toNat) 2)) (.int .u64 (dg (m * 10 + (c - 48).toNat) 3))
                      exact ⟨k + 1, m * 10 + (c - 48).toNat, by omega, by go_num, HP.out, (decF_step HL.out HP.out).trans HDC.out, l2 _ _ (by omega) y1, l2 _ _ (by omega) y2, HB3.out.other (by omega) l2, l1 y6 rfl, hB3.trans (l3 _ (by omega))⟩
                    case measure => simp [intOf]; omega
                  · have hnone := (decF_over HL.out hp).symm.trans HDC.out
                    have HP := Hd.mk hp
                    have HV2 : Hd (V = 0) := ⟨by rw [HV.out, ← hnone]; rfl⟩
                    have HE2 : Hd (E = 110) := ⟨by rw [HE.out, ← hnone]; rfl⟩
                    clear hp hnone
                    go_wp2_with fail
                    refine (plus_small_no _ _ (c - 48).toNat (by first | omega | (simp [IntKind.wrap, IntKind.bits, IntKind.signed]; omega)) (by omega) H10.out HP.out _).mono ?_
                    rintro e w3 ⟨rfl, hb3⟩
                    have y1 := heap_below hb3 v1
                    have y2 := heap_below hb3 v2
                    have hB3 : Below w.heap.size w w3 := below_on hB2 hb3
                    clear v1 v2 v6 hb3 hB2
                    go_wp2
                    rw [HV2.out, HE2.out]
                    refine leaves_cons (f := 43) (args := #[.pointer (some ⟨w.heap.size + 1, 0, none⟩), .func (.func 58) #[] #[.pointer (some ⟨w.heap.size, 0, none⟩)]]) (by simp) (by simp [go_sem]) ?_
                    refine (caught_full _ _ 110 _ _ _ _ (Laid (w.heap.size) (#[.bool (ng (0)), .int .u64 (dg (ab (0)) 0), .int .u64 (dg (ab (0)) 1), .int .u64 (dg (ab (0)) 2), .int .u64 (dg (ab (0)) 3)]) _) (cell_at y2 0) (frozen_at y2 0) (fun _ => rfl) (clear_parse (heap_set_other y1 (by simp) _) rfl)).mono ?_
                    rintro e u' w3 ⟨rfl, rfl, hL⟩
                    refine abs_leaves (OutAt w (w.heap.size) (w.heap.size + 1) 0 110) (out_cleared (by omega) (by omega) y1 y2 rfl rfl hB3 hL) fun W hW => ?_
                    obtain ⟨y1, y2, hB⟩ := hW
                    have c1 := cell_at y1
                    have c2 := cell_at y2
                    simp [Leaves, settle, results, Try.results21, go_sem, c1, c2]
                    first | exact ⟨rfl, hB⟩ | exact hB
                · have hp : ¬ m * 10 + (c - 48).toNat < 2 ^ 256 := fun h => h10 (Nat.lt_of_le_of_lt (Nat.le_add_right _ _) h)
                  have hnone := (decF_over HL.out hp).symm.trans HDC.out
                  have HP := Hd.mk h10
                  have HV2 : Hd (V = 0) := ⟨by rw [HV.out, ← hnone]; rfl⟩
                  have HE2 : Hd (E = 110) := ⟨by rw [HE.out, ← hnone]; rfl⟩
                  clear hp hnone h10
                  go_wp2_with fail
                  refine (times_ten_no _ HM.out HP.out _).mono ?_
                  rintro e w3 ⟨rfl, hb3⟩
                  have v1 := heap_below hb3 y1
                  have v2 := heap_below hb3 y2
                  have hB3 : Below w.heap.size w w3 := below_on hB hb3
                  clear y1 y2 y6 d6 f6 e3 hb3 hB
                  go_wp2
                  rw [HV2.out, HE2.out]
                  refine leaves_cons (f := 43) (args := #[.pointer (some ⟨w.heap.size + 1, 0, none⟩), .func (.func 58) #[] #[.pointer (some ⟨w.heap.size, 0, none⟩)]]) (by simp) (by simp [go_sem]) ?_
                  refine (caught_full _ _ 110 _ _ _ _ (Laid (w.heap.size) (#[.bool (ng (0)), .int .u64 (dg (ab (0)) 0), .int .u64 (dg (ab (0)) 1), .int .u64 (dg (ab (0)) 2), .int .u64 (dg (ab (0)) 3)]) _) (cell_at v2 0) (frozen_at v2 0) (fun _ => rfl) (clear_parse (heap_set_other v1 (by simp) _) rfl)).mono ?_
                  rintro e u' w3 ⟨rfl, rfl, hL⟩
                  refine abs_leaves (OutAt w (w.heap.size) (w.heap.size + 1) 0 110) (out_cleared (by omega) (by omega) v1 v2 rfl rfl hB3 hL) fun W hW => ?_
                  obtain ⟨y1, y2, hB⟩ := hW
                  have c1 := cell_at y1
                  have c2 := cell_at y2
                  simp [Leaves, settle, results, Try.results21, go_sem, c1, c2]
                  first | exact ⟨rfl, hB⟩ | exact hB
              · obtain rfl : k = d.length := by omega
                have hdec := HDC.out
                rw [List.drop_length] at hdec
                have HV2 : Hd (V = zof false m) := ⟨by rw [HV.out, ← hdec]; rfl⟩
                have HE2 : Hd (E = 0) := ⟨by rw [HE.out, ← hdec]; rfl⟩
                clear hdec hb
                go_wp2_with fail
                refine (of_z _ _ HM.out _).mono ?_
                rintro e w3 ⟨rfl, hb3⟩
                rw [← HV2.out]
                have z1 : w3.heap[w.heap.size]? = some _ := heap_below hb3 y1
                have c1 := cell_at z1
                have f1 := frozen_at z1
                have z2 : w3.heap[w.heap.size + 1]? = some _ := heap_below hb3 y2
                have c2 := cell_at z2
                have f2 := frozen_at z2
                have hB3 : Below w.heap.size w w3 := below_on hB hb3
                clear y1 y2 y6 d6 f6 hb3 hB
                go_wp2
                rw [HE2.out]
                refine leaves_cons (f := 43) (args := #[.pointer (some ⟨w.heap.size + 1, 0, none⟩), .func (.func 58) #[] #[.pointer (some ⟨w.heap.size, 0, none⟩)]]) (by simp) (by simp [go_sem]) ?_
                refine (caught_idle _ _ _).mono ?_
                rintro e u' w3 ⟨rfl, rfl, rfl⟩
                refine abs_leaves (OutAt w (w.heap.size) (w.heap.size + 1) (V) 0) (out_stored (by omega) (by omega) z1 z2 rfl rfl hB3) fun W hW => ?_
                obtain ⟨y1, y2, hB⟩ := hW
                have c1 := cell_at y1
                have c2 := cell_at y2
                simp [Leaves, settle, results, Try.results21, go_sem, c1, c2]
                first | exact ⟨rfl, hB⟩ | exact hB
        · have hne : ((cs.length : Int) + 1 == 1) = false := by
            have : 0 < cs.length := List.length_pos_iff.2 hcs
            simp; omega
          have HV : Hd (V = 0) := ⟨HV0.out.symm.trans (by simp [parseV, goodD, isNeg, rest, hcs])⟩
          have HE : Hd (E = 111) := ⟨HE0.out.symm.trans (by simp [parseE, goodD, isNeg, rest, hcs])⟩
          clear hcs
          go_wp2_with fail
          refine (must_no _ _).mono ?_
          rintro e w' ⟨rfl, rfl⟩
          go_wp2
          rw [HV.out, HE.out]
          refine leaves_cons (f := 43) (args := #[.pointer (some ⟨w.heap.size + 1, 0, none⟩), .func (.func 58) #[] #[.pointer (some ⟨w.heap.size, 0, none⟩)]]) (by simp) (by simp [go_sem]) ?_
          refine (caught_full _ _ 111 _ _ _ _ (Laid (w.heap.size) (#[.bool (ng (0)), .int .u64 (dg (ab (0)) 0), .int .u64 (dg (ab (0)) 1), .int .u64 (dg (ab (0)) 2), .int .u64 (dg (ab (0)) 3)]) _) (cell_at y2 0) (frozen_at y2 0) (fun _ => rfl) (clear_parse (heap_set_other y1 (by simp) _) rfl)).mono ?_
          rintro e u' w3 ⟨rfl, rfl, hL⟩
          refine abs_leaves (OutAt w (w.heap.size) (w.heap.size + 1) 0 111) (out_cleared (by omega) (by omega) y1 y2 rfl rfl hB hL) fun W hW => ?_
          obtain ⟨y1, y2, hB⟩ := hW
          have c1 := cell_at y1
          have c2 := cell_at y2
          simp [Leaves, settle, results, Try.results21, go_sem, c1, c2]
          first | exact ⟨rfl, hB⟩ | exact hB
      · have hne : (c != 48) = true := by simpa using h48
        go_wp2_with fail
        refine (must_ok _ _).mono ?_
        rintro e w' ⟨rfl, rfl⟩
        have HBd : Hd (BytesAt w' (w.heap.size + 1 + 1) 0 (c :: cs)) := ⟨HB0.out⟩
        have HVb : Hd ((c :: cs).all isDig = false → V = 0 ∧ E = 111) := ⟨fun h => ⟨HV0.out.symm.trans (by simp only [parseV, goodD, isNeg, rest]; simp [h, h45]), HE0.out.symm.trans (by simp only [parseE, goodD, isNeg, rest]; simp [h, h45])⟩⟩
        have HVg : Hd ((c :: cs).all isDig = true → V = ((decF 0 (c :: cs)).map (fun m => zof false m)).getD 0 ∧ E = if (decF 0 (c :: cs)).isSome then 0 else 110) := ⟨fun h => ⟨HV0.out.symm.trans (by simp only [parseV, goodD, isNeg, rest]; simp [h, h48, h45, hn45]), HE0.out.symm.trans (by simp only [parseE, goodD, isNeg, rest]; simp [h, h48, h45, hn45])⟩⟩
        clear hne hn45 h45 h48 e0 HB0 hs hcap HV0 HE0 HL
        obtain ⟨d, hd⟩ : ∃ d : List Int, d = c :: cs := ⟨_, rfl⟩
        rw [show (c :: cs).length = d.length by subst hd; rfl]
        rw [← hd] at HBd HVb HVg
        clear hd
        go_wp2_with fail
        refine (contains_any _ 0 _ d _ HBd.out).mono ?_
        rintro e w' ⟨rfl, rfl⟩
        cases ha : d.all isDig
        · obtain ⟨hv, he⟩ := HVb.out ha
          have HV := Hd.mk hv
          have HE := Hd.mk he
          clear hv he ha
          go_wp2_with fail
          refine (must_no _ _).mono ?_
          rintro e w' ⟨rfl, rfl⟩
          go_wp2
          rw [HV.out, HE.out]
          refine leaves_cons (f := 43) (args := #[.pointer (some ⟨w.heap.size + 1, 0, none⟩), .func (.func 58) #[] #[.pointer (some ⟨w.heap.size, 0, none⟩)]]) (by simp) (by simp [go_sem]) ?_
          refine (caught_full _ _ 111 _ _ _ _ (Laid (w.heap.size) (#[.bool (ng (0)), .int .u64 (dg (ab (0)) 0), .int .u64 (dg (ab (0)) 1), .int .u64 (dg (ab (0)) 2), .int .u64 (dg (ab (0)) 3)]) _) (cell_at y2 0) (frozen_at y2 0) (fun _ => rfl) (clear_parse (heap_set_other y1 (by simp) _) rfl)).mono ?_
          rintro e u' w3 ⟨rfl, rfl, hL⟩
          refine abs_leaves (OutAt w (w.heap.size) (w.heap.size + 1) 0 111) (out_cleared (by omega) (by omega) y1 y2 rfl rfl hB hL) fun W hW => ?_
          obtain ⟨y1, y2, hB⟩ := hW
          have c1 := cell_at y1
          have c2 := cell_at y2
          simp [Leaves, settle, results, Try.results21, go_sem, c1, c2]
          first | exact ⟨rfl, hB⟩ | exact hB
        · obtain ⟨hv, he⟩ := HVg.out ha
          have HV := Hd.mk hv
          have HE := Hd.mk he
          have HA := Hd.mk ha
          have HBW := Hd.mk hB
          clear hv he ha hB HVb HVg
          go_wp2_with fail
          refine (must_ok _ _).mono ?_
          rintro e w' ⟨rfl, rfl⟩
          go_wp2
          have hs1 := lt_of_block y2
          have hdl := HBd.out.1
          refine abs_wp (fun W => W.heap[w.heap.size]? = some (.cells #[.bool false, .int .u64 0, .int .u64 0, .int .u64 0, .int .u64 0] 25 (0, 0)) ∧ W.heap[w.heap.size + 1]? = some (.cells #[.int .i64 0] 26 (0, 0)) ∧
            BytesAt W (w.heap.size + 1 + 1) 0 d ∧ W.heap[w'.heap.size]? = some (.cells #[.int .u64 (dg (0) 0), .int .u64 (dg (0) 1), .int .u64 (dg (0) 2), .int .u64 (dg (0) 3)] 82 (0, 0)) ∧ Below w.heap.size w W) ⟨heap_old y1 _, heap_old y2 _, HBd.out.below (by focus (repeat (first | (with_reducible exact Below.refl _ _) | (with_reducible assumption) | ((with_reducible refine Below.setCell ?_ ?_ _); rotate_left; (focus (first | omega | (simp; done) | (simp; omega)))) | ((with_reducible refine Below.alloc ?_ ?_ _); rotate_left; (focus (first | omega | (simp; done) | (simp; omega)))) | (with_reducible refine Below.drew ?_) | (refine below_on ?_ (by assumption))))), by simp only [dg_zero]; exact heap_new _ _, (by have hB := HBW.out; have hsb := hB.size; focus (repeat (first | (with_reducible exact Below.refl _ _) | (with_reducible assumption) | ((with_reducible refine Below.setCell ?_ ?_ _); rotate_left; (focus (first | omega | (simp; done) | (simp; omega)))) | ((with_reducible refine Below.alloc ?_ ?_ _); rotate_left; (focus (first | omega | (simp; done) | (simp; omega)))) | (with_reducible refine Below.drew ?_) | (refine below_on ?_ (by assumption)))))⟩ fun W ⟨y1, y2, hb, y6, hB⟩ => ?_
          go_loopw [49] (fun ci wr => ∃ k m : Nat, k ≤ d.length ∧ ci = .int .i64 k ∧ m < 2 ^ 256 ∧ decF m (d.drop k) = decF 0 d ∧ wr.heap[w.heap.size]? = some (.cells #[.bool false, .int .u64 0, .int .u64 0, .int .u64 0, .int .u64 0] 25 (0, 0)) ∧ wr.heap[w.heap.size + 1]? = some (.cells #[.int .i64 0] 26 (0, 0)) ∧
            BytesAt wr (w.heap.size + 1 + 1) 0 d ∧ wr.heap[w'.heap.size]? = some (.cells #[.int .u64 (dg (m) 0), .int .u64 (dg (m) 1), .int .u64 (dg (m) 2), .int .u64 (dg (m) 3)] 82 (0, 0)) ∧ Below w.heap.size w wr) (fun ci _ => d.length - (intOf ci).toNat)
          case atStart => exact ⟨0, 0, by omega, rfl, by decide, rfl, y1, y2, hb, y6, hB⟩
          case round =>
            clear y1 y2 hb y6 hB
            obtain ⟨k, m, hk, rfl, hm, hdec, y1, y2, hb, y6, hB⟩ := hrel
            have HM := Hd.mk hm
            have HDC := Hd.mk hdec
            have d6 := cell_at y6
            have f6 := frozen_at y6
            have HB := Hd.mk hb
            clear hm hdec
            by_cases hlt : k < d.length
            · obtain ⟨c, hc⟩ : ∃ c, d[k]? = some c := ⟨_, List.getElem?_eq_getElem hlt⟩
              have e3 := hb.2 k c hc
              try simp only [Nat.zero_add] at e3
              have hdg := List.all_eq_true.1 HA.out c (List.mem_of_getElem? hc)
              have hdg1 : 48 ≤ c ∧ c ≤ 57 := by unfold isDig at hdg; simpa using hdg
              obtain ⟨hc1, hc2⟩ := hdg1
              have HL := Hd.mk hc
              clear hdg hc hb
              by_cases h10 : m * 10 < 2 ^ 256
              · have H10 := Hd.mk h10
                clear h10
                go_wp2_with fail
                refine (times_ten_ok _ HM.out H10.out _).mono ?_
                rintro e w2 ⟨rfl, hb2⟩
                have v1 := heap_below hb2 y1
                have v2 := heap_below hb2 y2
                have v6 := heap_below hb2 y6
                have HB2 := Hd.mk (HB.out.below hb2)
                have hB2 : Below w.heap.size w w2 := below_on hB hb2
                clear y1 y2 y6 d6 f6 e3 hb2 hB
                by_cases hp : m * 10 + (c - 48).toNat < 2 ^ 256
                · have HP := Hd.mk hp
                  clear hp
                  go_wp2_with fail
                  refine (plus_small_ok _ _ (c - 48).toNat (by first | omega | (simp [IntKind.wrap, IntKind.bits, IntKind.signed]; omega)) (by omega) H10.out HP.out _).mono ?_
                  rintro e w3 ⟨rfl, hb3⟩
                  have y1 := heap_below hb3 v1
                  have y2 := heap_below hb3 v2
                  have y6 := heap_below hb3 v6
                  have HB3 := Hd.mk (HB2.out.below hb3)
                  have hB3 : Below w.heap.size w w3 := below_on hB2 hb3
                  have d6 := cell_at y6
                  have f6 := frozen_at y6
                  clear v1 v2 v6 hb3 hB2
                  go_wp2
                  go_roundw
                  case rel =>
                    have hs0 := HBd.out.lt (by omega)
                    obtain ⟨l1, l2, l3⟩ := laid_four w'.heap.size w3 (.int .u64 (dg (m * 10 + (c - 48).toNat) 0)) (.int .u64 (dg (m * 10 + (c - 48).toNat) 1)) (.int .u64 (dg (m * 10 + (c - 48).toNat) 2)) (.int .u64 (dg (m * 10 + (c - 48).toNat) 3))
                    exact ⟨k + 1, m * 10 + (c - 48).toNat, by omega, by go_num, HP.out, (decF_step HL.out HP.out).trans HDC.out, l2 _ _ (by omega) y1, l2 _ _ (by omega) y2, HB3.out.other (by omega) l2, l1 y6 rfl, hB3.trans (l3 _ (by omega))⟩
                  case measure => simp [intOf]; omega
                · have hnone := (decF_over HL.out hp).symm.trans HDC.out
                  have HP := Hd.mk hp
                  have HV2 : Hd (V = 0) := ⟨by rw [HV.out, ← hnone]; rfl⟩
                  have HE2 : Hd (E = 110) := ⟨by rw [HE.out, ← hnone]; rfl⟩
                  clear hp hnone
                  go_wp2_with fail
                  refine (plus_small_no _ _ (c - 48).toNat (by first | omega | (simp [IntKind.wrap, IntKind.bits, IntKind.signed]; omega)) (by omega) H10.out HP.out _).mono ?_
                  rintro e w3 ⟨rfl, hb3⟩
                  have y1 := heap_below hb3 v1
                  have y2 := heap_below hb3 v2
                  have hB3 : Below w.heap.size w w3 := below_on hB2 hb3
                  clear v1 v2 v6 hb3 hB2
                  go_wp2
                  rw [HV2.out, HE2.out]
                  refine leaves_cons (f := 43) (args := #[.pointer (some ⟨w.heap.size + 1, 0, none⟩), .func (.func 58) #[] #[.pointer (some ⟨w.heap.size, 0, none⟩)]]) (by simp) (by simp [go_sem]) ?_
                  refine (caught_full _ _ 110 _ _ _ _ (Laid (w.heap.size) (#[.bool (ng (0)), .int .u64 (dg (ab (0)) 0), .int .u64 (dg (ab (0)) 1), .int .u64 (dg (ab (0)) 2), .int .u64 (dg (ab (0)) 3)]) _) (cell_at y2 0) (frozen_at y2 0) (fun _ => rfl) (clear_parse (heap_set_other y1 (by simp) _) rfl)).mono ?_
                  rintro e u' w3 ⟨rfl, rfl, hL⟩
                  refine abs_leaves (OutAt w (w.heap.size) (w.heap.size + 1) 0 110) (out_cleared (by omega) (by omega) y1 y2 rfl rfl hB3 hL) fun W hW => ?_
                  obtain ⟨y1, y2, hB⟩ := hW
                  have c1 := cell_at y1
                  have c2 := cell_at y2
                  simp [Leaves, settle, results, Try.results21, go_sem, c1, c2]
                  first | exact ⟨rfl, hB⟩ | exact hB
              · have hp : ¬ m * 10 + (c - 48).toNat < 2 ^ 256 := fun h => h10 (Nat.lt_of_le_of_lt (Nat.le_add_right _ _) h)
                have hnone := (decF_over HL.out hp).symm.trans HDC.out
                have HP := Hd.mk h10
                have HV2 : Hd (V = 0) := ⟨by rw [HV.out, ← hnone]; rfl⟩
                have HE2 : Hd (E = 110) := ⟨by rw [HE.out, ← hnone]; rfl⟩
                clear hp hnone h10
                go_wp2_with fail
                refine (times_ten_no _ HM.out HP.out _).mono ?_
                rintro e w3 ⟨rfl, hb3⟩
                have v1 := heap_below hb3 y1
                have v2 := heap_below hb3 y2
                have hB3 : Below w.heap.size w w3 := below_on hB hb3
                clear y1 y2 y6 d6 f6 e3 hb3 hB
                go_wp2
                rw [HV2.out, HE2.out]
                refine leaves_cons (f := 43) (args := #[.pointer (some ⟨w.heap.size + 1, 0, none⟩), .func (.func 58) #[] #[.pointer (some ⟨w.heap.size, 0, none⟩)]]) (by simp) (by simp [go_sem]) ?_
                refine (caught_full _ _ 110 _ _ _ _ (Laid (w.heap.size) (#[.bool (ng (0)), .int .u64 (dg (ab (0)) 0), .int .u64 (dg (ab (0)) 1), .int .u64 (dg (ab (0)) 2), .int .u64 (dg (ab (0)) 3)]) _) (cell_at v2 0) (frozen_at v2 0) (fun _ => rfl) (clear_parse (heap_set_other v1 (by simp) _) rfl)).mono ?_
                rintro e u' w3 ⟨rfl, rfl, hL⟩
                refine abs_leaves (OutAt w (w.heap.size) (w.heap.size + 1) 0 110) (out_cleared (by omega) (by omega) v1 v2 rfl rfl hB3 hL) fun W hW => ?_
                obtain ⟨y1, y2, hB⟩ := hW
                have c1 := cell_at y1
                have c2 := cell_at y2
                simp [Leaves, settle, results, Try.results21, go_sem, c1, c2]
                first | exact ⟨rfl, hB⟩ | exact hB
            · obtain rfl : k = d.length := by omega
              have hdec := HDC.out
              rw [List.drop_length] at hdec
              have HV2 : Hd (V = zof false m) := ⟨by rw [HV.out, ← hdec]; rfl⟩
              have HE2 : Hd (E = 0) := ⟨by rw [HE.out, ← hdec]; rfl⟩
              clear hdec hb
              go_wp2_with fail
              refine (of_z _ _ HM.out _).mono ?_
              rintro e w3 ⟨rfl, hb3⟩
              rw [← HV2.out]
              have z1 : w3.heap[w.heap.size]? = some _ := heap_below hb3 y1
              have c1 := cell_at z1
              have f1 := frozen_at z1
              have z2 : w3.heap[w.heap.size + 1]? = some _ := heap_below hb3 y2
              have c2 := cell_at z2
              have f2 := frozen_at z2
              have hB3 : Below w.heap.size w w3 := below_on hB hb3
              clear y1 y2 y6 d6 f6 hb3 hB
              go_wp2
              rw [HE2.out]
              refine leaves_cons (f := 43) (args := #[.pointer (some ⟨w.heap.size + 1, 0, none⟩), .func (.func 58) #[] #[.pointer (some ⟨w.heap.size, 0, none⟩)]]) (by simp) (by simp [go_sem]) ?_
              refine (caught_idle _ _ _).mono ?_
              rintro e u' w3 ⟨rfl, rfl, rfl⟩
              refine abs_leaves (OutAt w (w.heap.size) (w.heap.size + 1) (V) 0) (out_stored (by omega) (by omega) z1 z2 rfl rfl hB3) fun W hW => ?_
              obtain ⟨y1, y2, hB⟩ := hW
              have c1 := cell_at y1
              have c2 := cell_at y2
              simp [Leaves, settle, results, Try.results21, go_sem, c1, c2]
              first | exact ⟨rfl, hB⟩ | exact hB
theorem parse_any (s : ByteArray) (hs : s.size ≤ 1000000) (w : World) :
    Calls Try.prog 21 #[.string s] w fun e w' => e = .returned (.tuple #[.agg #[.bool (ng (parseV (strB s))), .int .u64 (dg (ab (parseV (strB s))) 0), .int .u64 (dg (ab (parseV (strB s))) 1), .int .u64 (dg (ab (parseV (strB s))) 2), .int .u64 (dg (ab (parseV (strB s))) 3)], .int .i64 (parseE (strB s))]) ∧ Below w.heap.size w w' :=
  parse_l s _ rfl (by rw [strB_length]; exact hs) w
end Go.Proofs.Yteibcklcegkbcaa
