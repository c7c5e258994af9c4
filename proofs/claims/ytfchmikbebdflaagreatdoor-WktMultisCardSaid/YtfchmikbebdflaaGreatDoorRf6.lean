/-
  Plain laws: the Int of an Int's text is that Int. Conditions stand in each theorem.
-/
import Derived.Laws.IdiomStrings
import Derived.Laws.StructEq
import Derived.Test.YtfchmikbebdflaaGreatDoorLm24
namespace Go.Proofs.YtfchmikbebdflaaGreatDoor
open Go.RowKit Go.BigFrame

/-- Is a byte a digit? -/
def isDig (c : Int) : Bool := decide (48 ≤ c) && decide (c ≤ 57)
/-- Bytes that are read. -/
def BytesAt (W : World) (b off : Nat) (l : List Int) : Prop := l.length ≤ 1000000 ∧ ∀ k c, l[k]? = some c → W.cell? ⟨b, off + k, none⟩ = some (.int .u8 c)
def IndexPost (l : List Int) (W : World) (e : Ending) (w' : World) : Prop := ∃ r : Int, e = .returned (.int .i64 r) ∧ w' = W ∧ (r ≥ 0 ↔ l.all isDig = false)
open Go.RowKit Go.BigFrame

/-- The bytes of a text. -/
def strB (s : ByteArray) : List Int := s.data.toList.map fun b : UInt8 => (b.toNat : Int)
/-- A magnitude and digits behind it; nothing once it is too great. -/
def decF (m : Nat) : List Int → Option Nat
  | [] => some m
  | c :: cs => if m * 10 + (c - 48).toNat < 2 ^ 256 then decF (m * 10 + (c - 48).toNat) cs else none
def isNeg (l : List Int) : Bool := l.head? == some 45
def rest (l : List Int) : List Int := if isNeg l then l.tail else l
/-- Are these the digits of a number that may be written so? -/
def goodD (neg : Bool) (d : List Int) : Bool := !d.isEmpty && (d.head? != some 48 || d.length == 1 && !neg) && d.all isDig
def parseV (l : List Int) : Int := if goodD (isNeg l) (rest l) then ((decF 0 (rest l)).map (fun m => zof (isNeg l) m)).getD 0 else 0
def parseE (l : List Int) : Int := if goodD (isNeg l) (rest l) then (if (decF 0 (rest l)).isSome then 0 else 110) else 111
theorem strB_length (s : ByteArray) : (strB s).length = s.size := by unfold strB; simp
theorem conv_str (s : ByteArray) (W : World) : (convert 9 130 (.string s)).run Tryz.prog W = .ok (.slice (some ⟨W.heap.size, 0, none⟩) s.size (grownCap W s.size 0 5))
      (W.drew.alloc (.cells (bytesRow s (grownCap W s.size 0 5)) 5 ((bytesRow s (grownCap W s.size 0 5)).size, (bytesRow s (grownCap W s.size 0 5)).size + 1))) :=
  run_bytes_of_string W 9 130 5 s (by kernel_rfl) (by kernel_rfl) (by kernel_rfl)
theorem BytesAt.below {W W1 : World} {b off : Nat} {l : List Int} (h : BytesAt W b off l) (hb : Below W.heap.size W W1) : BytesAt W1 b off l :=
  ⟨h.1, fun k c hk => (hb.cell (World.block_lt_of_cell? W _ (h.2 k c hk))).trans (h.2 k c hk)⟩
theorem BytesAt.tail {W : World} {b : Nat} {c : Int} {l : List Int} (h : BytesAt W b 0 (c :: l)) : BytesAt W b 1 l :=
  ⟨by have := h.1; simp at this; omega, fun k x hk => by
    have := h.2 (k + 1) x (by simpa using hk)
    rwa [Nat.zero_add, Nat.add_comm k 1] at this⟩
theorem BytesAt.lt {W : World} {b off : Nat} {l : List Int} (h : BytesAt W b off l) (h0 : 0 < l.length) : b < W.heap.size :=
  World.block_lt_of_cell? W _ (h.2 0 _ (List.getElem?_eq_getElem h0))
theorem BytesAt.other {W W1 : World} {b off g : Nat} {l : List Int} (h : BytesAt W b off l) (hg : b ≠ g) (hk : ∀ k o, k ≠ g → W.heap[k]? = some o → W1.heap[k]? = some o) : BytesAt W1 b off l := by
  refine ⟨h.1, fun k c hc => ?_⟩
  have h1 := h.2 k c hc
  have h2 : b < W.heap.size := World.block_lt_of_cell? W _ h1
  refine (World.cell?_of_block (w := W) ?_).trans h1
  show W1.heap[b]? = W.heap[b]?
  rw [Array.getElem?_eq_getElem h2]
  exact hk b _ hg (Array.getElem?_eq_getElem h2)
theorem decF_step {m k : Nat} {d : List Int} {c : Int} (hk : d[k]? = some c) (h : m * 10 + (c - 48).toNat < 2 ^ 256) : decF (m * 10 + (c - 48).toNat) (d.drop (k + 1)) = decF m (d.drop k) := by
  obtain ⟨h1, rfl⟩ := List.getElem?_eq_some_iff.1 hk
  rw [List.drop_eq_getElem_cons h1, decF, if_pos h]
theorem decF_over {m k : Nat} {d : List Int} {c : Int} (hk : d[k]? = some c) (h : ¬ m * 10 + (c - 48).toNat < 2 ^ 256) : decF m (d.drop k) = none := by
  obtain ⟨h1, rfl⟩ := List.getElem?_eq_some_iff.1 hk
  rw [List.drop_eq_getElem_cons h1, decF, if_neg h]
end Go.Proofs.YtfchmikbebdflaaGreatDoor

namespace Go.Proofs.YtfchmikbebdflaaGreatDoor
open Go.RowKit Go.BigFrame

theorem fieldsInt : (Tryz.prog.fieldsOf 89).toList.map (fun f => (f.name == "_", f.type, f.offset)) = [(false, 4, 0), (false, 87, 1)] := by kernel_rfl
@[go_sem] theorem eqInt (w : World) (d : Nat) (p q : Bool) (a0 a1 a2 a3 b0 b1 b2 b3 : Int) :
    (Op.equalIn (d + 3) 89 (.agg #[.bool p, .int .u64 a0, .int .u64 a1, .int .u64 a2, .int .u64 a3]) (.agg #[.bool q, .int .u64 b0, .int .u64 b1, .int .u64 b2, .int .u64 b3])).run Tryz.prog w =
      .ok (p == q && (a0 == b0 && (a1 == b1 && (a2 == b2 && a3 == b3)))) w := by
  rw [run_equalIn_struct (P := Tryz.prog) w (d + 2) 89 _ _ (by kernel_rfl) (by kernel_rfl)]
  have h := fieldsInt
  generalize (Tryz.prog.fieldsOf 89).toList = fs at h
  obtain ⟨f0, f1, rfl⟩ : ∃ f0 f1, fs = [f0, f1] := by
    have hl := congrArg List.length h
    rw [List.length_map] at hl
    cases fs with
    | nil => simp at hl
    | cons f0 fs =>
      cases fs with
      | nil => simp at hl
      | cons f1 fs =>
        cases fs with
        | nil => exact ⟨f0, f1, rfl⟩
        | cons f2 fs => simp at hl
  · simp only [List.map_cons, List.map_nil, List.cons.injEq, Prod.mk.injEq, and_true] at h
    obtain ⟨⟨n0, t0, o0⟩, n1, t1, o1⟩ := h
    have m0 : f0.name ≠ "_" := by simpa using n0
    have m1 : f1.name ≠ "_" := by simpa using n1
    have g0 : ∀ w : World, (isAgg 4).run Tryz.prog w = .ok false w := fun w => by simp [isAgg, run_underlying Tryz.underlying4]
    have g1 : ∀ w : World, (isAgg 87).run Tryz.prog w = .ok true w := fun w => by simp [isAgg, run_underlying Tryz.underlying87]
    have c1 : Tryz.prog.cellsOf 87 = 4 := by kernel_rfl
    obtain ⟨i1, hi1⟩ : ∃ i, Tryz.prog.info? 87 = some i := by
      cases h : Tryz.prog.info? 87 with
      | some i => exact ⟨i, rfl⟩
      | none => exact absurd h (by intro h; have : (Tryz.prog.info? 87).isSome = true := (by kernel_rfl); rw [h] at this; cases this)
    have s1 : ∀ w : World, (sizeOf 87).run Tryz.prog w = .ok 4 w := fun w => by rw [run_sizeOf w hi1, c1]
    simp only [Op.eqFields, if_pos m0, if_pos m1, t0, t1, o0, o1, part, Sem.run_bind, g0, Result.andThen_ok]
    have e0 := fun w => run_equalIn_bool' (P := Tryz.prog) (w := w) (d + 1) 4 p q Tryz.underlying4
    have e1 := fun w => eqArr w d a0 a1 a2 a3 b0 b1 b2 b3
    cases hb : (p == q)
    · rw [hb] at e0
      simp [e0]
    · rw [hb] at e0
      cases hr : (a0 == b0 && (a1 == b1 && (a2 == b2 && a3 == b3)))
      · rw [hr] at e1
        simp [e0, e1]
      · rw [hr] at e1
        simp [e0, e1]
open Go.RowKit Go.BigFrame

theorem gcd_at (x y g : Int) (hx : ab x < 2 ^ 256) (hy : ab y < 2 ^ 256) (hg : ((Nat.gcd (ab x) (ab y) : Nat) : Int) = g) (w : World) :
    Calls Tryz.prog 133 #[.agg #[.bool (ng (x)), .int .u64 (dg (ab (x)) 0), .int .u64 (dg (ab (x)) 1), .int .u64 (dg (ab (x)) 2), .int .u64 (dg (ab (x)) 3)], .agg #[.bool (ng (y)), .int .u64 (dg (ab (y)) 0), .int .u64 (dg (ab (y)) 1), .int .u64 (dg (ab (y)) 2), .int .u64 (dg (ab (y)) 3)]] w fun e w' => e = .returned (.tuple #[.agg #[.bool (ng (g)), .int .u64 (dg (ab (g)) 0), .int .u64 (dg (ab (g)) 1), .int .u64 (dg (ab (g)) 2), .int .u64 (dg (ab (g)) 3)], .int .i64 0]) ∧ Below w.heap.size w w' := by
  have h := gcd_ok x y hx hy w
  rw [hg] at h
  exact h
theorem text_at (z : Int) (s : ByteArray) (hz : ab z < 2 ^ 256) (h : textZ z = s) (w : World) :
    Calls Tryz.prog 88 #[.agg #[.bool (ng (z)), .int .u64 (dg (ab (z)) 0), .int .u64 (dg (ab (z)) 1), .int .u64 (dg (ab (z)) 2), .int .u64 (dg (ab (z)) 3)]] w fun e w' => e = .returned (.tuple #[.string s, .int .i64 0]) ∧ Below w.heap.size w w' := h ▸ text_ok z hz w
theorem text120 : textZ (-120) = ⟨#[45, 49, 50, 48]⟩ := by
  have h : dec10 120 = [0, 2, 1] := by
    rw [dec10_big (by decide), dec10_big (by decide), dec10_small (by decide)]
  unfold textZ revB
  rw [show ab (-120) = 120 from rfl, h]
  rfl
def maxI : Int := 115792089237316195423570985008687907853269984665640564039457584007913129639935
theorem ints_max {W : World} {b : Nat} {t : TypeId} {f : Nat × Nat}
    (h : W.heap[b]? = some (.cells #[.bool false, .int .u64 18446744073709551615, .int .u64 18446744073709551615, .int .u64 18446744073709551615, .int .u64 18446744073709551615, .bool (ng 1), .int .u64 (dg (ab 1) 0), .int .u64 (dg (ab 1) 1), .int .u64 (dg (ab 1) 2), .int .u64 (dg (ab 1) 3)] t f)) :
    IntsAt W (some ⟨b, 0, none⟩) ([maxI, 1].map pr) := by
  refine ints_two_z (t := t) (f := f) (by decide) (by decide) (h.trans ?_)
  have h0 : ng maxI = false := by decide
  have h1 : dg (ab maxI) 0 = 18446744073709551615 := by decide
  have h2 : dg (ab maxI) 1 = 18446744073709551615 := by decide
  have h3 : dg (ab maxI) 2 = 18446744073709551615 := by decide
  have h4 : dg (ab maxI) 3 = 18446744073709551615 := by decide
  rw [h0, h1, h2, h3, h4]
theorem addV_max : addV [maxI, 1] = 0 := by
  have h1 : ab (0 + maxI) < 2 ^ 256 := by decide
  have h2 : ¬ ab (0 + maxI + 1) < 2 ^ 256 := by decide
  simp only [addV, addF, if_pos h1, if_neg h2]; rfl
theorem addE_max : addE [maxI, 1] = 110 := by
  have h1 : ab (0 + maxI) < 2 ^ 256 := by decide
  have h2 : ¬ ab (0 + maxI + 1) < 2 ^ 256 := by decide
  simp only [addE, addF, if_pos h1, if_neg h2]; rfl
theorem parse_m0 : parseV (strB ⟨#[45, 48]⟩) = 0 ∧ parseE (strB ⟨#[45, 48]⟩) = 111 := by decide
theorem parse_007 : parseV (strB ⟨#[48, 48, 55]⟩) = 0 ∧ parseE (strB ⟨#[48, 48, 55]⟩) = 111 := by decide
end Go.Proofs.YtfchmikbebdflaaGreatDoor

namespace Go.Proofs.YtfchmikbebdflaaGreatDoor
open Go.RowKit Go.BigFrame

theorem add_cases (x y : Int) (hx : ab x < 2 ^ 256) : (ab (x + y) < 2 ^ 256 ∧ addV [x, y] = x + y ∧ addE [x, y] = 0) ∨ (¬ ab (x + y) < 2 ^ 256 ∧ addV [x, y] = 0 ∧ addE [x, y] = 110) := by
  by_cases h : ab (x + y) < 2 ^ 256
  · refine .inl ⟨h, ?_, ?_⟩
    · simp only [addV, addF, Int.zero_add, if_pos hx, if_pos h]; rfl
    · simp only [addE, addF, Int.zero_add, if_pos hx, if_pos h]; rfl
  · refine .inr ⟨h, ?_, ?_⟩
    · simp only [addV, addF, Int.zero_add, if_pos hx, if_neg h]; rfl
    · simp only [addE, addF, Int.zero_add, if_pos hx, if_neg h]; rfl
theorem mul_cases (x y : Int) (hx : ab x < 2 ^ 256) : (ab (x * y) < 2 ^ 256 ∧ mulV [x, y] = x * y ∧ mulE [x, y] = 0) ∨ (¬ ab (x * y) < 2 ^ 256 ∧ mulV [x, y] = 0 ∧ mulE [x, y] = 110) := by
  by_cases h : ab (x * y) < 2 ^ 256
  · refine .inl ⟨h, ?_, ?_⟩
    · simp only [mulV, mulF, Int.one_mul, if_pos hx, if_pos h]; rfl
    · simp only [mulE, mulF, Int.one_mul, if_pos hx, if_pos h]; rfl
  · refine .inr ⟨h, ?_, ?_⟩
    · simp only [mulV, mulF, Int.one_mul, if_pos hx, if_neg h]; rfl
    · simp only [mulE, mulF, Int.one_mul, if_pos hx, if_neg h]; rfl
theorem ab_tdiv (m n : Int) : ab (m.tdiv n) = ab m / ab n := by unfold ab; exact Int.natAbs_tdiv m n
theorem ab_tmod (m n : Int) : ab (m.tmod n) = ab m % ab n := by unfold ab; exact Int.natAbs_tmod m n
end Go.Proofs.YtfchmikbebdflaaGreatDoor

namespace Go.Proofs.YtfchmikbebdflaaGreatDoor
open Go.RowKit Go.BigFrame

/-- A slice of digits that is read. -/
def DigAt (W : World) (A : Option Addr) (ds : List Int) : Prop :=
  ds.length ≤ 1000000 ∧ (0 < ds.length → ∃ b off, A = some ⟨b, off, none⟩ ∧ ∀ k x, ds[k]? = some x → W.cell? ⟨b, off + k, none⟩ = some (.int .i64 x))
theorem DigAt.below {W W1 : World} {A : Option Addr} {ds : List Int} (h : DigAt W A ds) (hb : Below W.heap.size W W1) : DigAt W1 A ds :=
  ⟨h.1, fun h0 => by
    obtain ⟨b, off, e, hc⟩ := h.2 h0
    exact ⟨b, off, e, fun k x hk => (hb.cell (World.block_lt_of_cell? W _ (hc k x hk))).trans (hc k x hk)⟩⟩
theorem DigAt.take {W : World} {A : Option Addr} {ds : List Int} (h : DigAt W A ds) (n : Nat) : DigAt W A (ds.take n) :=
  ⟨by have := h.1; rw [List.length_take]; omega, fun h0 => by
    have h1 : 0 < ds.length := by rw [List.length_take] at h0; omega
    obtain ⟨b, off, e, hc⟩ := h.2 h1
    refine ⟨b, off, e, fun k x hk => hc k x ?_⟩
    rw [List.getElem?_take] at hk
    split at hk
    · exact hk
    · cases hk⟩
/-- Digits without noughts behind: how many are left. -/
def keepN (ds : List Int) : Nat → Nat
  | 0 => 0
  | n + 1 => if ds[n]? = some 0 then keepN ds n else n + 1
theorem keepN_le (ds : List Int) : ∀ n, keepN ds n ≤ n
  | 0 => Nat.le_refl _
  | n + 1 => by
    unfold keepN
    split
    · have := keepN_le ds n; omega
    · exact Nat.le_refl _
def strip (ds : List Int) : List Int := ds.take (keepN ds ds.length)
theorem strip_length (ds : List Int) : (strip ds).length = keepN ds ds.length := by
  unfold strip
  rw [List.length_take]
  have := keepN_le ds ds.length
  omega
theorem DigAt.strip {W : World} {A A' : Option Addr} {ds : List Int} (h : DigAt W A ds) (hA : 0 < (strip ds).length → A' = A) : DigAt W A' (strip ds) := by
  refine ⟨(h.take _).1, fun h0 => ?_⟩
  rw [hA h0]
  exact (h.take _).2 h0
set_option maxHeartbeats 1000000 in
theorem cut_any (A : Option Addr) (c : Nat) (ds : List Int) (hc : ds.length ≤ c) (w : World) (h : DigAt w A ds) :
    Calls Tryz.prog 164 #[.slice A ds.length c] w fun e w' => (∃ A' : Option Addr, e = .returned (.slice A' (strip ds).length c) ∧ (0 < (strip ds).length → A' = A)) ∧ w' = w := by
  have hl := h.1
  have HH := Hd.mk h
  clear h
  go_enter Tryz.func164, Tryz.ntmps164
  go_wp2
  go_loopw [0] (fun v wr => ∃ (n : Nat) (A' : Option Addr), n ≤ ds.length ∧ v = .slice A' n c ∧ keepN ds n = keepN ds ds.length ∧ (0 < n → A' = A) ∧ wr = w) (fun v _ => match v with | .slice _ n _ => n | _ => 0)
  case atStart => exact ⟨ds.length, A, Nat.le_refl _, rfl, rfl, fun _ => rfl, rfl⟩
  case round =>
    obtain ⟨n, A', hn, rfl, hk, hA, rfl⟩ := hrel
    match n, hn, hk, hA with
    | 0, hn, hk, hA =>
      have HK := Hd.mk hk
      clear hk hA
      go_wp2
      go_ret
      refine ⟨⟨A', ?_, ?_⟩, rfl⟩
      · rw [strip_length, ← HK.out]; rfl
      · intro h0; rw [strip_length, ← HK.out] at h0; exact absurd h0 (by simp [keepN])
    | m + 1, hn, hk, hA =>
      obtain rfl : A' = A := hA (by omega)
      obtain ⟨b, off, rfl, hcell⟩ := HH.out.2 (by omega)
      obtain ⟨x, hx⟩ : ∃ x, ds[m]? = some x := ⟨_, List.getElem?_eq_getElem (by omega)⟩
      have e0 := hcell m x hx
      have hmc : m + 1 ≤ c := by omega
      have hmi : (m : Int) ≤ 1000000 := by omega
      by_cases h0 : x = 0
      · have hk2 : keepN ds m = keepN ds ds.length := by rw [← hk, keepN, if_pos (by rw [hx, h0])]
        have HK := Hd.mk hk2
        subst h0
        clear hk hA hcell hk2 hx
        go_wp2
        exact ⟨⟨m, _, by omega, rfl, HK.out, fun _ => rfl, trivial⟩, Nat.lt_succ_self m⟩
      · have hk2 : m + 1 = keepN ds ds.length := by rw [← hk, keepN, if_neg (by rw [hx]; simpa using h0)]
        have HK := Hd.mk hk2
        have hx0 : (x == 0) = false := by simpa using h0
        clear hk hA hcell hk2 hx h0
        go_wp2
        go_ret
        refine ⟨⟨some ⟨b, off, none⟩, ?_, fun _ => rfl⟩, rfl⟩
        rw [strip_length, ← HK.out]
        rfl
open Go.RowKit Go.BigFrame

/-- The digits of n to the base 65536, without noughts behind. -/
def dd (n : Nat) : List Int := if h : n = 0 then [] else ((n % 65536 : Nat) : Int) :: dd (n / 65536)
termination_by n
decreasing_by omega
theorem dd_zero : dd 0 = [] := by unfold dd; rw [dif_pos rfl]
theorem dd_pos {n : Nat} (h : n ≠ 0) : dd n = ((n % 65536 : Nat) : Int) :: dd (n / 65536) := by rw [dd]; rw [dif_neg h]
def val : List Int → Nat
  | [] => 0
  | x :: xs => x.toNat + 65536 * val xs
def Dg (ds : List Int) : Prop := ∀ x ∈ ds, 0 ≤ x ∧ x < 65536
theorem dd_dg : ∀ (k n : Nat), n < 65536 ^ k → Dg (dd n)
  | 0, n, h => by
    obtain rfl : n = 0 := by simpa using h
    rw [dd_zero]; intro x hx; cases hx
  | k + 1, n, h => by
    by_cases h0 : n = 0
    · rw [h0, dd_zero]; intro x hx; cases hx
    · rw [dd_pos h0]
      intro x hx
      rcases List.mem_cons.1 hx with rfl | hx
      · omega
      · exact dd_dg k (n / 65536) (Nat.div_lt_of_lt_mul (by rw [Nat.mul_comm]; simpa [Nat.pow_succ] using h)) x hx
theorem dd_range (n : Nat) : Dg (dd n) := dd_dg n n (Nat.lt_pow_self (by decide))
theorem val_dd : ∀ (k n : Nat), n < 65536 ^ k → val (dd n) = n
  | 0, n, h => by
    obtain rfl : n = 0 := by simpa using h
    rw [dd_zero]; rfl
  | k + 1, n, h => by
    by_cases h0 : n = 0
    · rw [h0, dd_zero]; rfl
    · rw [dd_pos h0, val, val_dd k (n / 65536) (Nat.div_lt_of_lt_mul (by rw [Nat.mul_comm]; simpa [Nat.pow_succ] using h))]
      omega
theorem val_of_dd (n : Nat) : val (dd n) = n := val_dd n n (Nat.lt_pow_self (by decide))
theorem val_append : ∀ (l m : List Int), val (l ++ m) = val l + 65536 ^ l.length * val m
  | [], m => by simp [val]
  | x :: l, m => by
    simp only [List.cons_append, val, val_append l m, List.length_cons, Nat.pow_succ]
    rw [Nat.mul_add, ← Nat.mul_assoc, Nat.mul_comm 65536 (65536 ^ l.length), Nat.add_assoc]
theorem val_keep (ds : List Int) : ∀ n, n ≤ ds.length → val (ds.take (keepN ds n)) = val (ds.take n)
  | 0, _ => rfl
  | n + 1, h => by
    unfold keepN
    split
    · rename_i h0
      rw [val_keep ds n (by omega), List.take_add_one, h0, val_append]
      simp [val]
    · rfl
theorem val_strip (ds : List Int) : val (strip ds) = val ds := by
  unfold strip
  rw [val_keep ds ds.length (Nat.le_refl _), List.take_length]
theorem keep_last (ds : List Int) : ∀ n m, keepN ds n = m + 1 → ds[m]? ≠ some 0
  | 0, m, h => by cases h
  | n + 1, m, h => by
    unfold keepN at h
    split at h
    · exact keep_last ds n m h
    · rename_i h0
      obtain rfl : n = m := by omega
      exact h0
theorem dd_val : ∀ (l : List Int), Dg l → (∀ m, l.length = m + 1 → l[m]? ≠ some 0) → dd (val l) = l
  | [], _, _ => dd_zero
  | x :: l, hd, hl => by
    have hx := hd x (by simp)
    have ih := dd_val l (fun y hy => hd y (by simp [hy])) (fun m hm => by
      have := hl (m + 1) (by simp [hm])
      simpa using this)
    have hne : val (x :: l) ≠ 0 := by
      unfold val
      cases l with
      | nil =>
        have := hl 0 rfl
        simp at this
        omega
      | cons y l =>
        have h1 : val (y :: l) ≠ 0 := by
          intro h0
          rw [h0, dd_zero] at ih
          cases ih
        omega
    rw [dd_pos hne]
    have e0 : val (x :: l) = x.toNat + 65536 * val l := rfl
    have e1 : val (x :: l) % 65536 = x.toNat := by omega
    have e2 : val (x :: l) / 65536 = val l := by omega
    rw [e1, e2, ih]
    congr 1
    omega
theorem strip_dd (ds : List Int) (h : Dg ds) : strip ds = dd (val ds) := by
  rw [← val_strip]
  refine (dd_val (strip ds) (fun x hx => h x (List.mem_of_mem_take hx)) (fun m hm => ?_)).symm
  rw [strip_length] at hm
  unfold strip
  rw [List.getElem?_take, if_pos (by omega)]
  exact keep_last ds _ m hm
/-- A Big of value z. -/
def BigAt (W : World) (v : Value) (z : Int) : Prop :=
  ∃ (A : Option Addr) (c : Nat), v = .agg #[.bool (ng z), .slice A (dd (ab z)).length c] ∧ (dd (ab z)).length ≤ c ∧ DigAt W A (dd (ab z))
theorem BigAt.below {W W1 : World} {v : Value} {z : Int} (h : BigAt W v z) (hb : Below W.heap.size W W1) : BigAt W1 v z := by
  obtain ⟨A, c, h1, h2, h3⟩ := h
  exact ⟨A, c, h1, h2, h3.below hb⟩
open Go.RowKit Go.BigFrame

theorem laid_both (b : Nat) (W : World) (v0 v1 : Value) {c : Array Value} {t : TypeId} (h : W.heap[b]? = some (.cells c t (0, 0))) (hs : c.size = 2) :
    ((W.setCell ⟨b, 0, none⟩ v0).setCell ⟨b, 1, none⟩ v1).heap[b]? = some (.cells #[v0, v1] t (0, 0)) := by
  obtain ⟨l⟩ := c
  match l, hs with
  | [a, e], _ =>
    have := heap_set (heap_set h 0 v0) 1 v1
    simpa using this
set_option maxHeartbeats 1000000 in
theorem rof_any (s : Bool) (A : Option Addr) (c : Nat) (ds : List Int) (hc : ds.length ≤ c) (hg : Dg ds) (w : World) (h : DigAt w A ds) :
    Calls Tryz.prog 141 #[.bool s, .slice A ds.length c] w fun e w' => ∃ v, e = .returned v ∧ BigAt w' v (zof s (val ds)) ∧ Below w.heap.size w w' := by
  have HH := Hd.mk h
  have hl := h.1
  have hsl : (strip ds).length ≤ ds.length := by unfold strip; rw [List.length_take]; omega
  clear h
  have hs : strip ds = dd (val ds) := strip_dd ds hg
  have HS := Hd.mk hs
  by_cases hn : 0 < (strip ds).length
  · have hv : val ds ≠ 0 := fun h0 => by rw [hs, h0, dd_zero] at hn; exact absurd hn (by simp)
    cases s
    · have HN : Hd (ng (zof false (val ds)) = false) := ⟨by rw [ng_zof]; rfl⟩
      clear hs hv
      go_enter Tryz.func141, Tryz.ntmps141
      go_wp2_with fail
      refine (cut_any A c ds hc _ (HH.out.below (by focus (repeat (first | (with_reducible exact Below.refl _ _) | (with_reducible assumption) | ((with_reducible refine Below.setCell ?_ ?_ _); rotate_left; (focus (first | omega | (simp; done) | (simp; omega)))) | ((with_reducible refine Below.alloc ?_ ?_ _); rotate_left; (focus (first | omega | (simp; done) | (simp; omega)))) | (with_reducible refine Below.drew ?_) | (refine below_on ?_ (by assumption))))))).mono ?_
      rintro e w1 ⟨⟨A', rfl, hd⟩, rfl⟩
      have HD := Hd.mk hd
      clear hd
      go_wp2
      refine abs_post (fun W => W.heap[w.heap.size]? = some (.cells #[.bool (ng (zof false (val ds))), .slice A' (strip ds).length c] 123 (0, 0)) ∧ DigAt W A' (strip ds) ∧ Below w.heap.size w W) ?_ fun W ⟨y0, hD, hB⟩ => ?_
      · rw [HN.out]
        refine ⟨?_, (HH.out.below (by focus (repeat (first | (with_reducible exact Below.refl _ _) | (with_reducible assumption) | ((with_reducible refine Below.setCell ?_ ?_ _); rotate_left; (focus (first | omega | (simp; done) | (simp; omega)))) | ((with_reducible refine Below.alloc ?_ ?_ _); rotate_left; (focus (first | omega | (simp; done) | (simp; omega)))) | (with_reducible refine Below.drew ?_) | (refine below_on ?_ (by assumption)))))).strip HD.out, by focus (repeat (first | (with_reducible exact Below.refl _ _) | (with_reducible assumption) | ((with_reducible refine Below.setCell ?_ ?_ _); rotate_left; (focus (first | omega | (simp; done) | (simp; omega)))) | ((with_reducible refine Below.alloc ?_ ?_ _); rotate_left; (focus (first | omega | (simp; done) | (simp; omega)))) | (with_reducible refine Below.drew ?_) | (refine below_on ?_ (by assumption))))⟩
        first | exact heap_new _ _ | (rw [hn0]; exact heap_new _ _)
      · have c1 := cell_at y0
        refine bodyPost_ret (by simp [results, Tryz.results141, go_sem, c1]; rfl) rfl ⟨_, rfl, ⟨A', c, ?_, ?_, ?_⟩, hB⟩
        · rw [ab_zof, HS.out]
        · rw [ab_zof, ← HS.out]; omega
        · rw [ab_zof, ← HS.out]; exact hD
    · have HN : Hd (ng (zof true (val ds)) = true) := ⟨by rw [ng_zof]; simp [hv]⟩
      clear hs hv
      go_enter Tryz.func141, Tryz.ntmps141
      go_wp2_with fail
      refine (cut_any A c ds hc _ (HH.out.below (by focus (repeat (first | (with_reducible exact Below.refl _ _) | (with_reducible assumption) | ((with_reducible refine Below.setCell ?_ ?_ _); rotate_left; (focus (first | omega | (simp; done) | (simp; omega)))) | ((with_reducible refine Below.alloc ?_ ?_ _); rotate_left; (focus (first | omega | (simp; done) | (simp; omega)))) | (with_reducible refine Below.drew ?_) | (refine below_on ?_ (by assumption))))))).mono ?_
      rintro e w1 ⟨⟨A', rfl, hd⟩, rfl⟩
      have HD := Hd.mk hd
      clear hd
      go_wp2
      refine abs_post (fun W => W.heap[w.heap.size]? = some (.cells #[.bool (ng (zof true (val ds))), .slice A' (strip ds).length c] 123 (0, 0)) ∧ DigAt W A' (strip ds) ∧ Below w.heap.size w W) ?_ fun W ⟨y0, hD, hB⟩ => ?_
      · rw [HN.out]
        refine ⟨?_, (HH.out.below (by focus (repeat (first | (with_reducible exact Below.refl _ _) | (with_reducible assumption) | ((with_reducible refine Below.setCell ?_ ?_ _); rotate_left; (focus (first | omega | (simp; done) | (simp; omega)))) | ((with_reducible refine Below.alloc ?_ ?_ _); rotate_left; (focus (first | omega | (simp; done) | (simp; omega)))) | (with_reducible refine Below.drew ?_) | (refine below_on ?_ (by assumption)))))).strip HD.out, by focus (repeat (first | (with_reducible exact Below.refl _ _) | (with_reducible assumption) | ((with_reducible refine Below.setCell ?_ ?_ _); rotate_left; (focus (first | omega | (simp; done) | (simp; omega)))) | ((with_reducible refine Below.alloc ?_ ?_ _); rotate_left; (focus (first | omega | (simp; done) | (simp; omega)))) | (with_reducible refine Below.drew ?_) | (refine below_on ?_ (by assumption))))⟩
        first | exact heap_new _ _ | (rw [hn0]; exact heap_new _ _)
      · have c1 := cell_at y0
        refine bodyPost_ret (by simp [results, Tryz.results141, go_sem, c1]; rfl) rfl ⟨_, rfl, ⟨A', c, ?_, ?_, ?_⟩, hB⟩
        · rw [ab_zof, HS.out]
        · rw [ab_zof, ← HS.out]; omega
        · rw [ab_zof, ← HS.out]; exact hD
  · have hn0 : (strip ds).length = 0 := by omega
    have hv : val ds = 0 := by
      rw [← val_of_dd (val ds), ← hs, List.eq_nil_of_length_eq_zero hn0]; rfl
    cases s
    · have HN : Hd (ng (zof false (val ds)) = false) := ⟨by rw [ng_zof]; rfl⟩
      clear hs hv hn
      go_enter Tryz.func141, Tryz.ntmps141
      go_wp2_with fail
      refine (cut_any A c ds hc _ (HH.out.below (by focus (repeat (first | (with_reducible exact Below.refl _ _) | (with_reducible assumption) | ((with_reducible refine Below.setCell ?_ ?_ _); rotate_left; (focus (first | omega | (simp; done) | (simp; omega)))) | ((with_reducible refine Below.alloc ?_ ?_ _); rotate_left; (focus (first | omega | (simp; done) | (simp; omega)))) | (with_reducible refine Below.drew ?_) | (refine below_on ?_ (by assumption))))))).mono ?_
      rintro e w1 ⟨⟨A', rfl, hd⟩, rfl⟩
      have HD := Hd.mk hd
      clear hd
      go_wp2
      refine abs_post (fun W => W.heap[w.heap.size]? = some (.cells #[.bool (ng (zof false (val ds))), .slice A' (strip ds).length c] 123 (0, 0)) ∧ DigAt W A' (strip ds) ∧ Below w.heap.size w W) ?_ fun W ⟨y0, hD, hB⟩ => ?_
      · rw [HN.out]
        refine ⟨?_, (HH.out.below (by focus (repeat (first | (with_reducible exact Below.refl _ _) | (with_reducible assumption) | ((with_reducible refine Below.setCell ?_ ?_ _); rotate_left; (focus (first | omega | (simp; done) | (simp; omega)))) | ((with_reducible refine Below.alloc ?_ ?_ _); rotate_left; (focus (first | omega | (simp; done) | (simp; omega)))) | (with_reducible refine Below.drew ?_) | (refine below_on ?_ (by assumption)))))).strip HD.out, by focus (repeat (first | (with_reducible exact Below.refl _ _) | (with_reducible assumption) | ((with_reducible refine Below.setCell ?_ ?_ _); rotate_left; (focus (first | omega | (simp; done) | (simp; omega)))) | ((with_reducible refine Below.alloc ?_ ?_ _); rotate_left; (focus (first | omega | (simp; done) | (simp; omega)))) | (with_reducible refine Below.drew ?_) | (refine below_on ?_ (by assumption))))⟩
        first | exact heap_new _ _ | (rw [hn0]; exact heap_new _ _)
      · have c1 := cell_at y0
        refine bodyPost_ret (by simp [results, Tryz.results141, go_sem, c1]; rfl) rfl ⟨_, rfl, ⟨A', c, ?_, ?_, ?_⟩, hB⟩
        · rw [ab_zof, HS.out]
        · rw [ab_zof, ← HS.out]; omega
        · rw [ab_zof, ← HS.out]; exact hD
    · have HN : Hd (ng (zof true (val ds)) = false) := ⟨by rw [ng_zof, hv]; rfl⟩
      clear hs hv hn
      go_enter Tryz.func141, Tryz.ntmps141
      go_wp2_with fail
      refine (cut_any A c ds hc _ (HH.out.below (by focus (repeat (first | (with_reducible exact Below.refl _ _) | (with_reducible assumption) | ((with_reducible refine Below.setCell ?_ ?_ _); rotate_left; (focus (first | omega | (simp; done) | (simp; omega)))) | ((with_reducible refine Below.alloc ?_ ?_ _); rotate_left; (focus (first | omega | (simp; done) | (simp; omega)))) | (with_reducible refine Below.drew ?_) | (refine below_on ?_ (by assumption))))))).mono ?_
      rintro e w1 ⟨⟨A', rfl, hd⟩, rfl⟩
      have HD := Hd.mk hd
      clear hd
      go_wp2
      refine abs_post (fun W => W.heap[w.heap.size]? = some (.cells #[.bool (ng (zof true (val ds))), .slice A' (strip ds).length c] 123 (0, 0)) ∧ DigAt W A' (strip ds) ∧ Below w.heap.size w W) ?_ fun W ⟨y0, hD, hB⟩ => ?_
      · rw [HN.out]
        refine ⟨?_, (HH.out.below (by focus (repeat (first | (with_reducible exact Below.refl _ _) | (with_reducible assumption) | ((with_reducible refine Below.setCell ?_ ?_ _); rotate_left; (focus (first | omega | (simp; done) | (simp; omega)))) | ((with_reducible refine Below.alloc ?_ ?_ _); rotate_left; (focus (first | omega | (simp; done) | (simp; omega)))) | (with_reducible refine Below.drew ?_) | (refine below_on ?_ (by assumption)))))).strip HD.out, by focus (repeat (first | (with_reducible exact Below.refl _ _) | (with_reducible assumption) | ((with_reducible refine Below.setCell ?_ ?_ _); rotate_left; (focus (first | omega | (simp; done) | (simp; omega)))) | ((with_reducible refine Below.alloc ?_ ?_ _); rotate_left; (focus (first | omega | (simp; done) | (simp; omega)))) | (with_reducible refine Below.drew ?_) | (refine below_on ?_ (by assumption))))⟩
        first | exact heap_new _ _ | (rw [hn0]; exact heap_new _ _)
      · have c1 := cell_at y0
        refine bodyPost_ret (by simp [results, Tryz.results141, go_sem, c1]; rfl) rfl ⟨_, rfl, ⟨A', c, ?_, ?_, ?_⟩, hB⟩
        · rw [ab_zof, HS.out]
        · rw [ab_zof, ← HS.out]; omega
        · rw [ab_zof, ← HS.out]; exact hD
end Go.Proofs.YtfchmikbebdflaaGreatDoor

namespace Go.Proofs.YtfchmikbebdflaaGreatDoor
open Go.RowKit Go.BigFrame

/-- The digits of a row that is owned. -/
theorem dig_of_own {W : World} {base n : Nat} {v : Value} {ds : List Int} (h : W.ownsRow base 2 1 v n (ds.map (Value.int .i64))) (hn : n ≤ 1000000) : ∃ A c, v = .slice A ds.length c ∧ ds.length ≤ c ∧ DigAt W A ds := by
  have hl : ds.length = n := by have := h.1; simpa using this
  rcases h.2 with ⟨rfl, rfl⟩ | ⟨g, cap, cur, rfl, _, hb, hc, _, hs, ht⟩
  · exact ⟨none, 0, by rw [hl], by omega, by omega, fun h0 => by omega⟩
  · refine ⟨some ⟨g, 0, none⟩, cap, by rw [hl], by omega, by omega, fun _ => ⟨g, 0, rfl, fun k x hk => ?_⟩⟩
    have h1 : k < ds.length := (List.getElem?_eq_some_iff.1 hk).1
    have h2 : (cur.toList.take (n * 1))[k]? = (ds.map (Value.int .i64))[k]? := by rw [ht]
    rw [List.getElem?_take, if_pos (by omega), Array.getElem?_toList, List.getElem?_map, hk] at h2
    rw [cell_at hb, Nat.zero_add, h2]
    rfl
theorem cell_set_other (W : World) (b k : Nat) {p : Addr} (hp : b ≠ p.block) (v : Value) : (W.setCell p v).cell? ⟨b, k, none⟩ = W.cell? ⟨b, k, none⟩ := by
  have h := Below.heap_setCell W p v b hp
  unfold World.cell?
  simp only [h]
theorem DigAt.laid {W : World} {A : Option Addr} {ds : List Int} (h : DigAt W A ds) {b n m : Nat} {s : Bool} {B : Option Addr} {t : TypeId} {f : Nat × Nat} (hb : W.heap[b]? = some (.cells #[.bool s, .slice B n m] t f)) (v0 v1 : Value) :
    DigAt ((W.setCell ⟨b, 0, none⟩ v0).setCell ⟨b, 1, none⟩ v1) A ds := by
  refine ⟨h.1, fun h0 => ?_⟩
  obtain ⟨g, off, rfl, hc⟩ := h.2 h0
  refine ⟨g, off, rfl, fun k x hk => ?_⟩
  have hc1 := hc k x hk
  have hne : g ≠ b := by
    rintro rfl
    rw [cell_at hb] at hc1
    match off + k, hc1 with
    | 0, hc1 => simp at hc1
    | 1, hc1 => simp at hc1
    | j + 2, hc1 => simp at hc1
  rw [cell_set_other _ _ _ hne, cell_set_other _ _ _ hne]
  exact hc1
theorem BigAt.laid {W : World} {v : Value} {z : Int} (h : BigAt W v z) {b n m : Nat} {s : Bool} {B : Option Addr} {t : TypeId} {f : Nat × Nat} (hb : W.heap[b]? = some (.cells #[.bool s, .slice B n m] t f)) (v0 v1 : Value) :
    BigAt ((W.setCell ⟨b, 0, none⟩ v0).setCell ⟨b, 1, none⟩ v1) v z := by
  obtain ⟨A, c, h1, h2, h3⟩ := h
  exact ⟨A, c, h1, h2, h3.laid hb v0 v1⟩
theorem infoLong : (Tryz.prog.info? 2).map (fun i => (i.zero, i.size, i.bytes)) = some (some (.int .i64 0), 1, 8) := by kernel_rfl
/-- Digit j to the base 65536. -/
def d16 (n j : Nat) : Int := ((n / 65536 ^ j % 65536 : Nat) : Int)
def digs16 (n m : Nat) : List Int := (List.range m).map (d16 n)
theorem digs16_succ (n m : Nat) : digs16 n (m + 1) = digs16 n m ++ [d16 n m] := by
  unfold digs16; rw [List.range_succ, List.map_append]; rfl
theorem digs16_length (n m : Nat) : (digs16 n m).length = m := by unfold digs16; simp
theorem digs16_dg (n m : Nat) : Dg (digs16 n m) := by
  intro x hx
  unfold digs16 at hx
  obtain ⟨j, _, rfl⟩ := List.mem_map.1 hx
  unfold d16
  omega
theorem val_digs16 (n : Nat) : ∀ m, val (digs16 n m) = n % 65536 ^ m
  | 0 => by rw [Nat.pow_zero, Nat.mod_one]; rfl
  | m + 1 => by
    rw [digs16_succ, val_append, val_digs16 n m, digs16_length, Nat.pow_succ, Nat.mod_mul]
    simp only [val, d16, Int.toNat_natCast, Nat.mul_zero, Nat.add_zero]
theorem pow16 (q r : Nat) : 65536 ^ (4 * q + r) = 2 ^ (64 * q) * 2 ^ (16 * r) := by
  rw [show (65536 : Nat) = 2 ^ 16 from by decide, ← Nat.pow_mul, ← Nat.pow_add]; congr 1; omega
theorem d16_dg (n q r : Nat) (hr : r < 4) : d16 n (4 * q + r) = ((((dg n q).toNat / 2 ^ (16 * r)) % 65536 : Nat) : Int) := by
  have h1 : (dg n q).toNat = n / 2 ^ (64 * q) % 18446744073709551616 := by unfold dg; omega
  have h2 : (18446744073709551616 : Nat) = 2 ^ (16 * r) * (65536 * 2 ^ (16 * (3 - r))) := by
    rw [show (18446744073709551616 : Nat) = 2 ^ 64 from by decide, show (65536 : Nat) = 2 ^ 16 from by decide, ← Nat.pow_add, ← Nat.pow_add]; congr 1; omega
  unfold d16
  rw [h1, pow16, ← Nat.div_div_eq_div_mul, h2, Nat.mod_mul_right_div_self, Nat.mod_mul_right_mod]
/-- A digit to the base 65536 laid over those below. -/
theorem dg_lay16 (n q r i : Nat) (hr : r < 4) : dg (n % 65536 ^ (4 * q + r + 1)) i = if i = q then (((dg (n % 65536 ^ (4 * q + r)) i).toNat ||| (d16 n (4 * q + r)).toNat * 2 ^ (16 * r) : Nat) : Int) else dg (n % 65536 ^ (4 * q + r)) i := by
  have hbig : ∀ s, s ≤ 4 → ∀ i, i = q → n % 65536 ^ (4 * q + s) / 2 ^ (64 * i) % 18446744073709551616 = n / 2 ^ (64 * i) % 2 ^ (16 * s) := by
    rintro s hs i rfl
    rw [pow16, Nat.mod_mul_right_div_self, Nat.mod_eq_of_lt]
    refine Nat.lt_of_lt_of_le (Nat.mod_lt _ (Nat.two_pow_pos _)) ?_
    rw [show (18446744073709551616 : Nat) = 2 ^ 64 from by decide]
    exact Nat.pow_le_pow_right (by decide) (by omega)
  by_cases h : i = q
  · rw [if_pos h]
    have e1 : dg (n % 65536 ^ (4 * q + r + 1)) i = ((n / 2 ^ (64 * i) % 2 ^ (16 * (r + 1)) : Nat) : Int) := congrArg Int.ofNat (hbig (r + 1) (by omega) i h)
    have e2 : dg (n % 65536 ^ (4 * q + r)) i = ((n / 2 ^ (64 * i) % 2 ^ (16 * r) : Nat) : Int) := congrArg Int.ofNat (hbig r (by omega) i h)
    have e3 : d16 n (4 * q + r) = ((n / 2 ^ (64 * i) / 2 ^ (16 * r) % 65536 : Nat) : Int) := by
      unfold d16; rw [pow16, ← Nat.div_div_eq_div_mul, h]
    rw [e1, e2, e3, Int.toNat_natCast, Int.toNat_natCast]
    generalize n / 2 ^ (64 * i) = x
    have h1 : x % 2 ^ (16 * r) < 2 ^ (16 * r) := Nat.mod_lt _ (Nat.two_pow_pos _)
    have h2 : (2 : Nat) ^ (16 * (r + 1)) = 2 ^ (16 * r) * 65536 := by
      rw [show (65536 : Nat) = 2 ^ 16 from by decide, ← Nat.pow_add]; congr 1
    rw [h2, Nat.mod_mul, Nat.or_comm, Nat.mul_comm (x / 2 ^ (16 * r) % 65536), ← Nat.two_pow_add_eq_or_of_lt h1, Nat.add_comm]
  · rw [if_neg h]
    unfold dg
    congr 1
    by_cases hlt : i < q
    · have h3 : ∀ s, n % 65536 ^ (4 * q + s) / 2 ^ (64 * i) % 18446744073709551616 = n / 2 ^ (64 * i) % 18446744073709551616 := by
        intro s
        have h4 : 2 ^ (64 * q) * 2 ^ (16 * s) = 2 ^ (64 * i) * (18446744073709551616 * 2 ^ (64 * (q - i - 1) + 16 * s)) := by
          rw [show (18446744073709551616 : Nat) = 2 ^ 64 from by decide, ← Nat.pow_add, ← Nat.pow_add, ← Nat.pow_add]; congr 1; omega
        rw [pow16, h4, Nat.mod_mul_right_div_self, Nat.mod_mul_right_mod]
      rw [show 4 * q + r + 1 = 4 * q + (r + 1) from rfl, h3, h3]
    · have h3 : ∀ s, s ≤ 4 → n % 65536 ^ (4 * q + s) / 2 ^ (64 * i) = 0 := by
        intro s hs
        refine Nat.div_eq_of_lt (Nat.lt_of_lt_of_le (Nat.mod_lt _ (Nat.pow_pos (by decide))) ?_)
        rw [pow16, ← Nat.pow_add]
        exact Nat.pow_le_pow_right (by decide) (by omega)
      rw [show 4 * q + r + 1 = 4 * q + (r + 1) from rfl, h3 _ (by omega), h3 _ (by omega)]
theorem cut16 (n q r : Nat) (hr : r < 4) : wrap64 (Int.tmod (dg n q / 2 ^ (16 * r)) 65536) = d16 n (4 * q + r) := by
  rw [d16_dg n q r hr]
  obtain ⟨x, hx⟩ := Int.eq_ofNat_of_zero_le (dg_nonneg n q)
  rw [hx, Int.toNat_natCast]
  have e : (x : Int) / 2 ^ (16 * r) = ((x / 2 ^ (16 * r) : Nat) : Int) := by rw [Int.natCast_ediv, Int.natCast_pow]; rfl
  rw [e]
  generalize x / 2 ^ (16 * r) = y
  rw [Int.tmod_eq_emod_of_nonneg (by omega), IntWalk.wrap64_in _ (by omega)]
  omega
def longV (l : List Int) : List Value := l.map (Value.int .i64)
set_option maxHeartbeats 1000000 in
theorem from_any (p : Bool × Nat) (hp : p.2 < 2 ^ 256) (w : World) :
    Calls Tryz.prog 114 #[.agg #[.bool (p.1), .int .u64 (dg (p.2) 0), .int .u64 (dg (p.2) 1), .int .u64 (dg (p.2) 2), .int .u64 (dg (p.2) 3)]] w fun e w' => ∃ v, e = .returned v ∧ BigAt w' v (zof p.1 p.2) ∧ Below w.heap.size w w' := by
  have HP := Hd.mk hp
  clear hp
  go_enter Tryz.func114, Tryz.ntmps114
  go_wp2
  have hinfo := info_parts infoLong
  refine abs_wp (fun W => W.heap[w.heap.size]? = some (.cells #[.bool (p.1), .int .u64 (dg (p.2) 0), .int .u64 (dg (p.2) 1), .int .u64 (dg (p.2) 2), .int .u64 (dg (p.2) 3)] 89 (0, 0)) ∧ W.heap[w.heap.size + 1]? = some (.cells #[.bool false, .slice none 0 0] 123 (0, 0)) ∧ W.ownsRow (w.heap.size + 1 + 1) 2 1 (.slice none 0 0) 0 [] ∧ Below w.heap.size w W) ⟨heap_old (heap_new _ _) _, heap_at (by simp) _, ⟨rfl, .inl ⟨rfl, rfl⟩⟩, by focus (repeat (first | (with_reducible exact Below.refl _ _) | (with_reducible assumption) | ((with_reducible refine Below.setCell ?_ ?_ _); rotate_left; (focus (first | omega | (simp; done) | (simp; omega)))) | ((with_reducible refine Below.alloc ?_ ?_ _); rotate_left; (focus (first | omega | (simp; done) | (simp; omega)))) | (with_reducible refine Below.drew ?_) | (refine below_on ?_ (by assumption))))⟩ fun W ⟨y0, y1, hown, hB⟩ => ?_
  have hs1 := lt_of_block y1
  go_loopw [3, 4] (fun v ci wr => ∃ i : Nat, i ≤ 4 ∧ ci = .int .i64 i ∧ wr.heap[w.heap.size]? = some (.cells #[.bool (p.1), .int .u64 (dg (p.2) 0), .int .u64 (dg (p.2) 1), .int .u64 (dg (p.2) 2), .int .u64 (dg (p.2) 3)] 89 (0, 0)) ∧ wr.heap[w.heap.size + 1]? = some (.cells #[.bool false, .slice none 0 0] 123 (0, 0)) ∧
    wr.ownsRow (w.heap.size + 1 + 1) 2 1 v (4 * i) (longV (digs16 p.2 (4 * i))) ∧ Below w.heap.size w wr) (fun _ ci _ => 4 - (intOf ci).toNat)
  case atStart => exact ⟨0, by omega, rfl, y0, y1, hown, hB⟩
  case round =>
    clear y0 y1 hown hB
    obtain ⟨i, hi, rfl, y0, y1, hown, hB⟩ := hrel
    by_cases hlt : i < 4
    · have hdi : decide ((i : Int) < 4) = true := by simp; omega
      go_wp2
      go_loopw [3, 5] (fun v ck wr => ∃ k : Nat, k ≤ 4 ∧ ck = .int .i64 k ∧ wr.heap[w.heap.size]? = some (.cells #[.bool (p.1), .int .u64 (dg (p.2) 0), .int .u64 (dg (p.2) 1), .int .u64 (dg (p.2) 2), .int .u64 (dg (p.2) 3)] 89 (0, 0)) ∧ wr.heap[w.heap.size + 1]? = some (.cells #[.bool false, .slice none 0 0] 123 (0, 0)) ∧
        wr.ownsRow (w.heap.size + 1 + 1) 2 1 v (4 * i + k) (longV (digs16 p.2 (4 * i + k))) ∧ Below w.heap.size w wr) (fun _ ck _ => 4 - (intOf ck).toNat)
      case atStart => exact ⟨0, by omega, rfl, y0, y1, hown, hB⟩
      case round =>
        clear y0 y1 hown hB
        obtain ⟨k, hk, rfl, y0, y1, hown, hB⟩ := hrel
        have hs1 := lt_of_block y1
        have hs0 := lt_of_block y0
        by_cases hlk : k < 4
        · have hdk : decide ((k : Int) < 4) = true := by simp; omega
          have H16 := Hd.mk (d16_dg p.2 i k hlk)
          have c0 : wr.cell? ⟨w.heap.size, 1 + i, none⟩ = some (.int .u64 (dg p.2 i)) := by
            rw [cell_at y0]
            obtain rfl | rfl | rfl | rfl : i = 0 ∨ i = 1 ∨ i = 2 ∨ i = 3 := by omega
            all_goals rfl
          have hi1 : (0 : Int) ≤ i := by omega
          have hi2 : (i : Int) < 4 := by omega
          have hk1 : (0 : Int) ≤ k := by omega
          have hk2 : (k : Int) < 4 := by omega
          obtain ⟨i0, hi, hz0, hz1, hz2⟩ := hinfo
          have hu : Tryz.prog.underlying 121 = some (.slice 2) := by kernel_rfl
          go_wp2_with (at_builtin; refine wpList_append_own_at _ rfl (.tmp 14) (.tmp 25) 121 rfl (w.heap.size + 1 + 1) 2 i0 (.int .i64 0) 1 8 hu hi hz0 hz1 hz2 rfl (by decide) _ (4 * i + k) _ rfl (hown.alloc _) ⟨wr.heap.size, 0, none⟩ 1 1 [_] rfl rfl (cell_one_new _ _ _) ?c2 ?b1 ?b2 ?b3 ?go)
          case c2 => intro u hu; simp at hu; subst hu; rfl
          case b1 => unfold maxLen; omega
          case b2 => omega
          case b3 => simp; omega
          case go =>
            intro v' w1 hown' hgrow _ hat
            rw [cut16 _ _ _ hlk] at hown'
            have hr : ∀ k, u3.ownBlock = some k → w.heap.size + 1 + 1 ≤ k := fun k hk => own_ge hown hk
            have hb : Below w.heap.size w w1 := (Below.alloc hB (by omega) _).trans (below_grown hgrow (fun k hk => by have := hr k hk; omega) (by simp; omega))
            have z0 := (hgrow.block w.heap.size (by simp; omega) (fun e => by have := hr _ e.symm; omega)).trans (heap_old y0 _)
            have z1 := (hgrow.block (w.heap.size + 1) (by simp; omega) (fun e => by have := hr _ e.symm; omega)).trans (heap_old y1 _)
            have HO := Hd.mk hown'
            clear hown hown' hgrow hat hr y0 y1 hB c0 hi hz0 hz1 hz2 hu
            go_wp2
            go_roundw
            case rel =>
              refine ⟨k + 1, by omega, by go_num, z0, z1, ?_, hb⟩
              rw [show 4 * i + (k + 1) = 4 * i + k + 1 from rfl, digs16_succ]
              unfold longV
              rw [List.map_append]
              exact HO.out
            case measure => simp [intOf]; omega
        · obtain rfl : k = 4 := by omega
          have hdk : decide (((4 : Nat) : Int) < 4) = false := by simp
          go_wp2
          go_roundw
          case rel => exact ⟨i + 1, by omega, by go_num, y0, y1, hown, hB⟩
          case measure => simp [intOf]; omega
    · obtain rfl : i = 4 := by omega
      have c0 : wr.cell? ⟨w.heap.size, 0, none⟩ = some (.bool p.1) := cell_at y0 0
      have hs1 := lt_of_block y1
      obtain ⟨A, c, rfl, hc, hD⟩ := dig_of_own hown (by omega)
      have HB := Hd.mk hB
      clear hown hB
      go_wp2_with fail
      refine (rof_any p.1 A c _ hc (digs16_dg _ _) _ hD).mono ?_
      rintro e w2 ⟨v, rfl, hV, hb⟩
      have hN : val (digs16 p.2 (4 * 4)) = p.2 := by
        rw [val_digs16, Nat.mod_eq_of_lt]; exact HP.out
      rw [hN] at hV
      have hw := below_on HB.out hb
      have z1 := heap_below hb y1
      clear c0 hD y0 y1 hb hN
      obtain ⟨A', c', rfl, h1, h2⟩ := hV
      have hs2 := lt_of_block z1
      have q1 := cell_at z1
      have q2 := frozen_at z1
      have HD := Hd.mk (h2.laid z1)
      clear h2
      go_wp2
      have z2 := laid_both (w.heap.size + 1) w2 (.bool (ng (zof p.1 p.2))) (.slice A' (dd (ab (zof p.1 p.2))).length c') z1 rfl
      have c1 := cell_at z2
      refine bodyPost_ret (by simp [results, Tryz.results114, go_sem, c1]) rfl ⟨_, rfl, ⟨A', c', rfl, h1, HD.out _ _⟩, by focus (repeat (first | (with_reducible exact Below.refl _ _) | (with_reducible assumption) | ((with_reducible refine Below.setCell ?_ ?_ _); rotate_left; (focus (first | omega | (simp; done) | (simp; omega)))) | ((with_reducible refine Below.alloc ?_ ?_ _); rotate_left; (focus (first | omega | (simp; done) | (simp; omega)))) | (with_reducible refine Below.drew ?_) | (refine below_on ?_ (by assumption))))⟩
end Go.Proofs.YtfchmikbebdflaaGreatDoor

namespace Go.Proofs.YtfchmikbebdflaaGreatDoor
open Go.RowKit Go.BigFrame

theorem val_lt : ∀ (l : List Int), Dg l → val l < 65536 ^ l.length
  | [], _ => by simp [val]
  | x :: l, h => by
    have h1 := h x (by simp)
    have h2 := val_lt l (fun y hy => h y (by simp [hy]))
    simp only [val, List.length_cons, Nat.pow_succ]
    omega
theorem dd_len_le : ∀ (k n : Nat), n < 65536 ^ k → (dd n).length ≤ k
  | 0, n, h => by
    obtain rfl : n = 0 := by simpa using h
    rw [dd_zero]; exact Nat.le_refl _
  | k + 1, n, h => by
    by_cases h0 : n = 0
    · rw [h0, dd_zero]; exact Nat.zero_le _
    · rw [dd_pos h0, List.length_cons]
      have := dd_len_le k (n / 65536) (Nat.div_lt_of_lt_mul (by rw [Nat.mul_comm]; simpa [Nat.pow_succ] using h))
      omega
theorem dd_len (k n : Nat) : (dd n).length ≤ k ↔ n < 65536 ^ k := by
  refine ⟨fun h => ?_, dd_len_le k n⟩
  have h1 := val_lt (dd n) (dd_range n)
  rw [val_of_dd] at h1
  exact Nat.lt_of_lt_of_le h1 (Nat.pow_le_pow_right (by decide) h)
theorem dd_len16 (n : Nat) : (dd n).length ≤ 16 ↔ n < 2 ^ 256 := by
  rw [dd_len]
theorem lt_of_len {m n : Nat} (h : (dd m).length < (dd n).length) : m < n := by
  have h1 := (dd_len (dd m).length m).1 (Nat.le_refl _)
  rcases Nat.lt_or_ge n (65536 ^ (dd m).length) with h2 | h2
  · have := (dd_len _ _).2 h2
    omega
  · omega
theorem val_split (l : List Int) (i : Nat) (x : Int) (h : l[i]? = some x) : val l = val (l.take i) + 65536 ^ i * (x.toNat + 65536 * val (l.drop (i + 1))) := by
  obtain ⟨hi, hx⟩ := List.getElem?_eq_some_iff.1 h
  have h1 : l = l.take i ++ x :: l.drop (i + 1) := by
    rw [← hx, List.getElem_cons_drop, List.take_append_drop]
  have h2 : (l.take i).length = i := by rw [List.length_take]; omega
  rw [congrArg val h1, val_append, h2]
  rfl
theorem val_less (l k : List Int) (i : Nat) (x y : Int) (hl : Dg l) (hk : Dg k) (h : l[i]? = some x) (h' : k[i]? = some y) (hd : l.drop (i + 1) = k.drop (i + 1)) (hxy : x < y) : val l < val k := by
  rw [val_split l i x h, val_split k i y h', hd]
  have hx := hl x (List.mem_of_getElem? h)
  have hy := hk y (List.mem_of_getElem? h')
  have h1 := val_lt (l.take i) (fun z hz => hl z (List.mem_of_mem_take hz))
  have hi : i < l.length := (List.getElem?_eq_some_iff.1 h).1
  rw [List.length_take, Nat.min_eq_left (by omega)] at h1
  have h2 : x.toNat + 1 + 65536 * val (k.drop (i + 1)) ≤ y.toNat + 65536 * val (k.drop (i + 1)) := by omega
  have h3 := Nat.mul_le_mul_left (65536 ^ i) h2
  have h4 : 65536 ^ i * (x.toNat + 1 + 65536 * val (k.drop (i + 1))) = 65536 ^ i * (x.toNat + 65536 * val (k.drop (i + 1))) + 65536 ^ i := by
    rw [Nat.mul_add, Nat.mul_add, Nat.mul_add]; omega
  omega
theorem drop_step {l k : List Int} {i : Nat} {x : Int} (h : l[i]? = some x) (h' : k[i]? = some x) (hd : l.drop (i + 1) = k.drop (i + 1)) : l.drop i = k.drop i := by
  obtain ⟨hi, hx⟩ := List.getElem?_eq_some_iff.1 h
  obtain ⟨hj, hy⟩ := List.getElem?_eq_some_iff.1 h'
  rw [← List.getElem_cons_drop hi, ← List.getElem_cons_drop hj, hx, hy, hd]
theorem dd_inj {m n : Nat} (h : dd m = dd n) : m = n := by rw [← val_of_dd m, ← val_of_dd n, h]
open Go.RowKit Go.BigFrame

theorem cmp_lt {m n : Nat} (h : m < n) : cmpN m n = -1 := by unfold cmpN; rw [if_pos h]
theorem cmp_gt {m n : Nat} (h : n < m) : cmpN m n = 1 := by unfold cmpN; rw [if_neg (by omega), if_neg (by omega)]
set_option maxHeartbeats 1000000 in
theorem rmags_any (m n : Nat) (A B : Option Addr) (c d : Nat) (_hc : (dd m).length ≤ c) (_hd : (dd n).length ≤ d) (w : World) (h1 : DigAt w A (dd m)) (h2 : DigAt w B (dd n)) :
    Calls Tryz.prog 142 #[.slice A (dd m).length c, .slice B (dd n).length d] w fun e w' => e = .returned (.int .i64 (cmpN m n)) ∧ Below w.heap.size w w' := by
  have hla := h1.1
  have hlb := h2.1
  have H1 := Hd.mk h1
  have H2 := Hd.mk h2
  clear h1 h2
  by_cases hl : (dd m).length = (dd n).length
  · have HL := Hd.mk hl
    rw [← hl] at _hd ⊢
    clear hl
    go_enter Tryz.func142, Tryz.ntmps142
    go_wp2
    go_loopw [5] (fun v wr => ∃ i : Nat, i ≤ (dd m).length ∧ v = .int .i64 ((i : Int) - 1) ∧ Hd ((dd m).drop i = (dd n).drop i) ∧ Below w.heap.size w wr) (fun v _ => (intOf v + 1).toNat)
    case atStart => exact ⟨(dd m).length, Nat.le_refl _, rfl, ⟨by rw [List.drop_length, HL.out, List.drop_length]⟩, Below.refl _ _⟩
    case round =>
      obtain ⟨i, hi, rfl, HD, hB⟩ := hrel
      match i, hi, HD with
      | 0, hi, HD =>
        have HV : Hd (cmpN m n = 0) := ⟨by
          have h0 := HD.out
          rw [List.drop_zero, List.drop_zero] at h0
          rw [dd_inj h0]; unfold cmpN; rw [if_neg (by omega), if_pos rfl]⟩
        go_wp2
        go_ret
        exact ⟨by rw [HV.out]; rfl, hB⟩
      | j + 1, hi, HD =>
        rw [show ((j + 1 : Nat) : Int) - 1 = (j : Int) from by omega]
        obtain ⟨b1, o1, rfl, f1⟩ := (H1.out).2 (by omega)
        obtain ⟨b2, o2, rfl, f2⟩ := (H2.out).2 (by rw [← HL.out]; omega)
        obtain ⟨x, hx⟩ : ∃ x, (dd m)[j]? = some x := ⟨_, List.getElem?_eq_getElem (by omega)⟩
        obtain ⟨y, hy⟩ : ∃ y, (dd n)[j]? = some y := ⟨_, List.getElem?_eq_getElem (by rw [← HL.out]; omega)⟩
        have g1 := (hB.cell (World.block_lt_of_cell? w _ (f1 j x hx))).trans (f1 j x hx)
        have g2 := (hB.cell (World.block_lt_of_cell? w _ (f2 j y hy))).trans (f2 j y hy)
        have HX := Hd.mk hx
        have HY := Hd.mk hy
        have l1 := World.block_lt_of_cell? _ _ g1
        have l2 := World.block_lt_of_cell? _ _ g2
        clear f1 f2 hx hy
        have hge : decide ((j : Int) ≥ 0) = true := by simp
        by_cases hxy : x < y
        · have hd1 : decide (x < y) = true := by simpa using hxy
          have HV : Hd (cmpN m n = -1) := ⟨cmp_lt (by
            have := val_less (dd m) (dd n) j x y (dd_range m) (dd_range n) HX.out HY.out HD.out hxy
            rwa [val_of_dd, val_of_dd] at this)⟩
          clear hxy
          go_wp2
          refine region_mix 8 (by kernel_rfl) (by kernel_rfl) (fun _ _ _ _ h => h) fun X _ mk hmk hcl => ?_
          have c0 := fun x => ((hmk x).cell l1).trans g1
          have c1 := fun x => ((hmk x).cell l2).trans g2
          simp only [List.take_succ_cons, List.take_zero, List.drop_succ_cons, List.drop_zero]
          repeat (go_big_quiet_step (skip))
          refine wpQuiet_nil ?_
          rintro _ ⟨x, rfl⟩
          have hx := hmk x
          clear hcl hmk
          generalize mk x = W1 at hx
          go_wp2
          go_ret
          refine ⟨by rw [HV.out]; rfl, ?_⟩
          focus (repeat (first | (with_reducible exact Below.refl _ _) | (with_reducible assumption) | ((with_reducible refine Below.setCell ?_ ?_ _); rotate_left; (focus (first | omega | (simp; done) | (simp; omega)))) | ((with_reducible refine Below.alloc ?_ ?_ _); rotate_left; (focus (first | omega | (simp; done) | (simp; omega)))) | (with_reducible refine Below.drew ?_) | (refine below_on ?_ (by assumption))))
        · have hd1 : decide (x < y) = false := by simpa using hxy
          by_cases hyx : x > y
          · have hd2 : decide (x > y) = true := by simpa using hyx
            have HV : Hd (cmpN m n = 1) := ⟨cmp_gt (by
              have := val_less (dd n) (dd m) j y x (dd_range n) (dd_range m) HY.out HX.out HD.out.symm hyx
              rwa [val_of_dd, val_of_dd] at this)⟩
            clear hxy hyx
            go_wp2
            refine region_mix 8 (by kernel_rfl) (by kernel_rfl) (fun _ _ _ _ h => h) fun X _ mk hmk hcl => ?_
            have c0 := fun x => ((hmk x).cell l1).trans g1
            have c1 := fun x => ((hmk x).cell l2).trans g2
            simp only [List.take_succ_cons, List.take_zero, List.drop_succ_cons, List.drop_zero]
            repeat (go_big_quiet_step (skip))
            refine wpQuiet_nil ?_
            rintro _ ⟨x, rfl⟩
            have hB1 := below_on hB (hmk x)
            have k1 := c0 x
            have k2 := c1 x
            clear hcl hmk c0 c1
            generalize mk x = W1 at hB1 k1 k2
            have m1 := World.block_lt_of_cell? _ _ k1
            have m2 := World.block_lt_of_cell? _ _ k2
            go_wp2
            refine region_mix 8 (by kernel_rfl) (by kernel_rfl) (fun _ _ _ _ h => h) fun X _ mk hmk hcl => ?_
            have c0 := fun x => ((hmk x).cell m1).trans k1
            have c1 := fun x => ((hmk x).cell m2).trans k2
            simp only [List.take_succ_cons, List.take_zero, List.drop_succ_cons, List.drop_zero]
            repeat (go_big_quiet_step (skip))
            refine wpQuiet_nil ?_
            rintro _ ⟨x, rfl⟩
            have hx := hmk x
            clear hcl hmk
            generalize mk x = W2 at hx
            go_wp2
            go_ret
            refine ⟨by rw [HV.out]; rfl, ?_⟩
            focus (repeat (first | (with_reducible exact Below.refl _ _) | (with_reducible assumption) | ((with_reducible refine Below.setCell ?_ ?_ _); rotate_left; (focus (first | omega | (simp; done) | (simp; omega)))) | ((with_reducible refine Below.alloc ?_ ?_ _); rotate_left; (focus (first | omega | (simp; done) | (simp; omega)))) | (with_reducible refine Below.drew ?_) | (refine below_on ?_ (by assumption))))
          · have hd2 : decide (x > y) = false := by simpa using hyx
            obtain rfl : x = y := by omega
            have HD2 : Hd ((dd m).drop j = (dd n).drop j) := ⟨drop_step HX.out HY.out HD.out⟩
            clear hxy hyx
            go_wp2
            refine region_mix 8 (by kernel_rfl) (by kernel_rfl) (fun _ _ _ _ h => h) fun X _ mk hmk hcl => ?_
            have c0 := fun x => ((hmk x).cell l1).trans g1
            have c1 := fun x => ((hmk x).cell l2).trans g2
            simp only [List.take_succ_cons, List.take_zero, List.drop_succ_cons, List.drop_zero]
            repeat (go_big_quiet_step (skip))
            refine wpQuiet_nil ?_
            rintro _ ⟨x, rfl⟩
            have hB1 := below_on hB (hmk x)
            have k1 := c0 x
            have k2 := c1 x
            clear hcl hmk c0 c1
            generalize mk x = W1 at hB1 k1 k2
            have m1 := World.block_lt_of_cell? _ _ k1
            have m2 := World.block_lt_of_cell? _ _ k2
            go_wp2
            refine region_mix 8 (by kernel_rfl) (by kernel_rfl) (fun _ _ _ _ h => h) fun X _ mk hmk hcl => ?_
            have c0 := fun x => ((hmk x).cell m1).trans k1
            have c1 := fun x => ((hmk x).cell m2).trans k2
            simp only [List.take_succ_cons, List.take_zero, List.drop_succ_cons, List.drop_zero]
            repeat (go_big_quiet_step (skip))
            refine wpQuiet_nil ?_
            rintro _ ⟨x, rfl⟩
            have hx := hmk x
            clear hcl hmk
            generalize mk x = W2 at hx
            go_wp2
            go_roundw
            case rel =>
              refine ⟨j, by omega, rfl, HD2, ?_⟩
              focus (repeat (first | (with_reducible exact Below.refl _ _) | (with_reducible assumption) | ((with_reducible refine Below.setCell ?_ ?_ _); rotate_left; (focus (first | omega | (simp; done) | (simp; omega)))) | ((with_reducible refine Below.alloc ?_ ?_ _); rotate_left; (focus (first | omega | (simp; done) | (simp; omega)))) | (with_reducible refine Below.drew ?_) | (refine below_on ?_ (by assumption))))
            case measure => simp [intOf]
  · have hq : (((dd m).length : Int) != ((dd n).length : Int)) = true := by simp; omega
    by_cases hlt : (dd m).length < (dd n).length
    · have hd1 : decide ((dd m).length < (dd n).length) = true := by simpa using hlt
      have HV : Hd (cmpN m n = -1) := ⟨cmp_lt (lt_of_len hlt)⟩
      clear hl hlt
      go_enter Tryz.func142, Tryz.ntmps142
      go_wp2
      go_ret
      exact ⟨by rw [HV.out]; rfl, Below.refl _ _⟩
    · have hd1 : decide ((dd m).length < (dd n).length) = false := by simpa using hlt
      have HV : Hd (cmpN m n = 1) := ⟨cmp_gt (lt_of_len (by omega))⟩
      clear hl hlt
      go_enter Tryz.func142, Tryz.ntmps142
      go_wp2
      go_ret
      exact ⟨by rw [HV.out]; rfl, Below.refl _ _⟩

theorem sgn_plus {x y : Int} (hx : ng x = false) (hy : ng y = false) : cmpN (ab x) (ab y) = sgn (x - y) := by
  unfold ng at hx hy; unfold cmpN sgn ab
  simp only [decide_eq_false_iff_not] at hx hy
  split
  · rw [if_neg (by omega), if_pos (by omega)]
  · split
    · rw [if_pos (by omega)]
    · rw [if_neg (by omega), if_neg (by omega)]
theorem sgn_minus {x y : Int} (hx : ng x = true) (hy : ng y = true) : cmpN (ab y) (ab x) = sgn (x - y) := by
  unfold ng at hx hy; unfold cmpN sgn ab
  simp only [decide_eq_true_eq] at hx hy
  split
  · rw [if_neg (by omega), if_pos (by omega)]
  · split
    · rw [if_pos (by omega)]
    · rw [if_neg (by omega), if_neg (by omega)]
theorem sgn_apart {x y : Int} (hx : ng x = true) (hy : ng y = false) : sgn (x - y) = -1 ∧ sgn (y - x) = 1 := by
  unfold ng at hx hy; unfold sgn
  simp only [decide_eq_true_eq, decide_eq_false_iff_not] at hx hy
  refine ⟨?_, ?_⟩
  · rw [if_neg (by omega), if_pos (by omega)]
  · rw [if_neg (by omega), if_neg (by omega)]
set_option maxHeartbeats 1000000 in
theorem rcmp_any (x y : Int) (u v : Value) (w : World) (hu : BigAt w u x) (hv : BigAt w v y) :
    Calls Tryz.prog 116 #[u, v] w fun e w' => e = .returned (.int .i64 (sgn (x - y))) ∧ Below w.heap.size w w' := by
  obtain ⟨A, c, rfl, hc, hA⟩ := hu
  obtain ⟨B, d, rfl, hd, hB⟩ := hv
  cases hx : ng x
  · cases hy : ng y
    · have HV := Hd.mk (sgn_plus hx hy)
      clear hx hy
      go_enter Tryz.func116, Tryz.ntmps116
      go_wp2_with fail
      refine (rmags_any (ab x) (ab y) A B c d hc hd _ (hA.below (by focus (repeat (first | (with_reducible exact Below.refl _ _) | (with_reducible assumption) | ((with_reducible refine Below.setCell ?_ ?_ _); rotate_left; (focus (first | omega | (simp; done) | (simp; omega)))) | ((with_reducible refine Below.alloc ?_ ?_ _); rotate_left; (focus (first | omega | (simp; done) | (simp; omega)))) | (with_reducible refine Below.drew ?_) | (refine below_on ?_ (by assumption)))))) (hB.below (by focus (repeat (first | (with_reducible exact Below.refl _ _) | (with_reducible assumption) | ((with_reducible refine Below.setCell ?_ ?_ _); rotate_left; (focus (first | omega | (simp; done) | (simp; omega)))) | ((with_reducible refine Below.alloc ?_ ?_ _); rotate_left; (focus (first | omega | (simp; done) | (simp; omega)))) | (with_reducible refine Below.drew ?_) | (refine below_on ?_ (by assumption))))))).mono ?_
      rintro e w1 ⟨rfl, hb⟩
      go_wp2
      go_ret
      refine ⟨by rw [HV.out]; rfl, ?_⟩
      focus (repeat (first | (with_reducible exact Below.refl _ _) | (with_reducible assumption) | ((with_reducible refine Below.setCell ?_ ?_ _); rotate_left; (focus (first | omega | (simp; done) | (simp; omega)))) | ((with_reducible refine Below.alloc ?_ ?_ _); rotate_left; (focus (first | omega | (simp; done) | (simp; omega)))) | (with_reducible refine Below.drew ?_) | (refine below_on ?_ (by assumption))))
    · have HV := Hd.mk (sgn_apart hy hx).2
      clear hx hy
      go_enter Tryz.func116, Tryz.ntmps116
      go_wp2
      go_ret
      refine ⟨by rw [HV.out]; rfl, ?_⟩
      focus (repeat (first | (with_reducible exact Below.refl _ _) | (with_reducible assumption) | ((with_reducible refine Below.setCell ?_ ?_ _); rotate_left; (focus (first | omega | (simp; done) | (simp; omega)))) | ((with_reducible refine Below.alloc ?_ ?_ _); rotate_left; (focus (first | omega | (simp; done) | (simp; omega)))) | (with_reducible refine Below.drew ?_) | (refine below_on ?_ (by assumption))))
  · cases hy : ng y
    · have HV := Hd.mk (sgn_apart hx hy).1
      clear hx hy
      go_enter Tryz.func116, Tryz.ntmps116
      go_wp2
      go_ret
      refine ⟨by rw [HV.out]; rfl, ?_⟩
      focus (repeat (first | (with_reducible exact Below.refl _ _) | (with_reducible assumption) | ((with_reducible refine Below.setCell ?_ ?_ _); rotate_left; (focus (first | omega | (simp; done) | (simp; omega)))) | ((with_reducible refine Below.alloc ?_ ?_ _); rotate_left; (focus (first | omega | (simp; done) | (simp; omega)))) | (with_reducible refine Below.drew ?_) | (refine below_on ?_ (by assumption))))
    · have HV := Hd.mk (sgn_minus hx hy)
      clear hx hy
      go_enter Tryz.func116, Tryz.ntmps116
      go_wp2_with fail
      refine (rmags_any (ab y) (ab x) B A d c hd hc _ (hB.below (by focus (repeat (first | (with_reducible exact Below.refl _ _) | (with_reducible assumption) | ((with_reducible refine Below.setCell ?_ ?_ _); rotate_left; (focus (first | omega | (simp; done) | (simp; omega)))) | ((with_reducible refine Below.alloc ?_ ?_ _); rotate_left; (focus (first | omega | (simp; done) | (simp; omega)))) | (with_reducible refine Below.drew ?_) | (refine below_on ?_ (by assumption)))))) (hA.below (by focus (repeat (first | (with_reducible exact Below.refl _ _) | (with_reducible assumption) | ((with_reducible refine Below.setCell ?_ ?_ _); rotate_left; (focus (first | omega | (simp; done) | (simp; omega)))) | ((with_reducible refine Below.alloc ?_ ?_ _); rotate_left; (focus (first | omega | (simp; done) | (simp; omega)))) | (with_reducible refine Below.drew ?_) | (refine below_on ?_ (by assumption))))))).mono ?_
      rintro e w1 ⟨rfl, hb⟩
      go_wp2
      go_ret
      refine ⟨by rw [HV.out]; rfl, ?_⟩
      focus (repeat (first | (with_reducible exact Below.refl _ _) | (with_reducible assumption) | ((with_reducible refine Below.setCell ?_ ?_ _); rotate_left; (focus (first | omega | (simp; done) | (simp; omega)))) | ((with_reducible refine Below.alloc ?_ ?_ _); rotate_left; (focus (first | omega | (simp; done) | (simp; omega)))) | (with_reducible refine Below.drew ?_) | (refine below_on ?_ (by assumption))))
theorem big_zero (W : World) : BigAt W (.agg #[.bool false, .slice none 0 0]) 0 :=
  ⟨none, 0, by rw [show ab 0 = 0 from rfl, dd_zero]; rfl, by rw [show ab 0 = 0 from rfl, dd_zero]; exact Nat.le_refl _, by rw [show ab 0 = 0 from rfl, dd_zero]; exact ⟨by simp, fun h => by simp at h⟩⟩
set_option maxHeartbeats 400000 in
theorem rsign_any (x : Int) (u : Value) (w : World) (hu : BigAt w u x) :
    Calls Tryz.prog 115 #[u] w fun e w' => e = .returned (.int .i64 (sgn x)) ∧ Below w.heap.size w w' := by
  obtain ⟨A, c, rfl, hc, hA⟩ := hu
  go_enter Tryz.func115, Tryz.ntmps115
  go_wp2_with fail
  refine (rcmp_any x 0 _ _ _ ⟨A, c, rfl, hc, hA.below (by focus (repeat (first | (with_reducible exact Below.refl _ _) | (with_reducible assumption) | ((with_reducible refine Below.setCell ?_ ?_ _); rotate_left; (focus (first | omega | (simp; done) | (simp; omega)))) | ((with_reducible refine Below.alloc ?_ ?_ _); rotate_left; (focus (first | omega | (simp; done) | (simp; omega)))) | (with_reducible refine Below.drew ?_) | (refine below_on ?_ (by assumption)))))⟩ (big_zero _)).mono ?_
  rintro e w1 ⟨rfl, hb⟩
  rw [Int.sub_zero]
  go_wp2
  go_ret
  refine ⟨rfl, ?_⟩
  focus (repeat (first | (with_reducible exact Below.refl _ _) | (with_reducible assumption) | ((with_reducible refine Below.setCell ?_ ?_ _); rotate_left; (focus (first | omega | (simp; done) | (simp; omega)))) | ((with_reducible refine Below.alloc ?_ ?_ _); rotate_left; (focus (first | omega | (simp; done) | (simp; omega)))) | (with_reducible refine Below.drew ?_) | (refine below_on ?_ (by assumption))))
set_option maxHeartbeats 400000 in
theorem rright_ok (z : Int) (hz : ab z < 2 ^ 256) (w : World) :
    Calls Tryz.prog 113 #[.agg #[.bool (ng (z)), .int .u64 (dg (ab (z)) 0), .int .u64 (dg (ab (z)) 1), .int .u64 (dg (ab (z)) 2), .int .u64 (dg (ab (z)) 3)]] w fun e w' => e = .returned (.bool true) ∧ Below w.heap.size w w' := by
  have h1 := mag_zero hz
  have h2 := ng_zero_iff z
  clear hz
  cases hs : ng z
  · clear h1 h2 hs
    go_enter Tryz.func113, Tryz.ntmps113
    go_wp2
    go_ret
    refine ⟨rfl, ?_⟩
    focus (repeat (first | (with_reducible exact Below.refl _ _) | (with_reducible assumption) | ((with_reducible refine Below.setCell ?_ ?_ _); rotate_left; (focus (first | omega | (simp; done) | (simp; omega)))) | ((with_reducible refine Below.alloc ?_ ?_ _); rotate_left; (focus (first | omega | (simp; done) | (simp; omega)))) | (with_reducible refine Below.drew ?_) | (refine below_on ?_ (by assumption))))
  · have h3 : (dg (ab z) 0 == 0 && (dg (ab z) 1 == 0 && (dg (ab z) 2 == 0 && dg (ab z) 3 == 0))) = false := by rw [h1]; simpa using h2 hs
    clear h1 h2 hs
    go_enter Tryz.func113, Tryz.ntmps113
    go_wp2
    go_ret
    refine ⟨rfl, ?_⟩
    focus (repeat (first | (with_reducible exact Below.refl _ _) | (with_reducible assumption) | ((with_reducible refine Below.setCell ?_ ?_ _); rotate_left; (focus (first | omega | (simp; done) | (simp; omega)))) | ((with_reducible refine Below.alloc ?_ ?_ _); rotate_left; (focus (first | omega | (simp; done) | (simp; omega)))) | (with_reducible refine Below.drew ?_) | (refine below_on ?_ (by assumption))))
set_option maxHeartbeats 400000 in
theorem rright_bad (w : World) :
    Calls Tryz.prog 113 #[.agg #[.bool (true), .int .u64 (dg (0) 0), .int .u64 (dg (0) 1), .int .u64 (dg (0) 2), .int .u64 (dg (0) 3)]] w fun e w' => e = .returned (.bool false) ∧ Below w.heap.size w w' := by
  simp only [dg_zero]
  go_enter Tryz.func113, Tryz.ntmps113
  go_wp2
  go_ret
  refine ⟨rfl, ?_⟩
  focus (repeat (first | (with_reducible exact Below.refl _ _) | (with_reducible assumption) | ((with_reducible refine Below.setCell ?_ ?_ _); rotate_left; (focus (first | omega | (simp; done) | (simp; omega)))) | ((with_reducible refine Below.alloc ?_ ?_ _); rotate_left; (focus (first | omega | (simp; done) | (simp; omega)))) | (with_reducible refine Below.drew ?_) | (refine below_on ?_ (by assumption))))
end Go.Proofs.YtfchmikbebdflaaGreatDoor

namespace Go.Proofs.YtfchmikbebdflaaGreatDoor
open Go.RowKit Go.BigFrame

theorem strB_nums {l : List Int} (h : ∀ c ∈ l, 0 ≤ c ∧ c < 256) : strB (strOfNums l) = l := by
  unfold strB strOfNums
  simp only [List.map_map]
  refine (List.map_congr_left fun c hc => ?_).trans (List.map_id l)
  obtain ⟨h1, h2⟩ := h c hc
  simp only [Function.comp, id]
  rw [UInt8.toNat_ofNat']
  omega
def digB (n : Nat) : List Int := (dec10 n).reverse.map fun d : Nat => 48 + (d : Int)
theorem rev_text (z : Int) : (revB z).reverse = (if ng z then [45] else []) ++ digB (ab z) := by
  unfold revB digB
  rw [List.reverse_append, List.map_reverse]
  cases ng z <;> simp
theorem dec10_dig (n : Nat) : ∀ d ∈ dec10 n, d < 10 := by
  intro d hd
  obtain ⟨k, hk⟩ : ∃ k, n < 10 ^ k := ⟨n, Nat.lt_pow_self (by decide)⟩
  exact dec10_lt k n hk d hd
theorem digB_dig (n : Nat) : ∀ c ∈ digB n, 48 ≤ c ∧ c ≤ 57 := by
  intro c hc
  unfold digB at hc
  obtain ⟨d, hd, rfl⟩ := List.mem_map.1 hc
  have := dec10_dig n d (List.mem_reverse.1 hd)
  omega
theorem decF_append (l : List Int) (c : Int) : ∀ m, decF m (l ++ [c]) = (decF m l).bind fun k => if k * 10 + (c - 48).toNat < 2 ^ 256 then some (k * 10 + (c - 48).toNat) else none := by
  induction l with
  | nil => intro m; simp [decF]
  | cons x l ih =>
    intro m
    simp only [List.cons_append, decF]
    by_cases h : m * 10 + (x - 48).toNat < 2 ^ 256
    · rw [if_pos h, if_pos h]; exact ih _
    · rw [if_neg h, if_neg h]; rfl
theorem digB_zero : digB 0 = [48] := by
  unfold digB
  rw [dec10_small (by decide)]
  rfl
theorem decF_digB : ∀ (k n : Nat), n < 10 ^ k → n < 2 ^ 256 → decF 0 (digB n) = some n
  | 0, n, h, _ => by
    obtain rfl : n = 0 := by simpa using h
    rw [digB_zero]
    rfl
  | k + 1, n, h, hn => by
    by_cases h1 : n < 10
    · unfold digB
      rw [dec10_small h1]
      simp only [List.reverse_cons, List.reverse_nil, List.nil_append, List.map_cons, List.map_nil, decF]
      have e : 0 * 10 + (48 + (n : Int) - 48).toNat = n := by omega
      rw [e, if_pos hn]
    · have h2 := decF_digB k (n / 10) (Nat.div_lt_of_lt_mul (by rw [Nat.mul_comm]; simpa [Nat.pow_succ] using h)) (Nat.lt_of_le_of_lt (Nat.div_le_self _ _) hn)
      have h3 : digB n = digB (n / 10) ++ [48 + ((n % 10 : Nat) : Int)] := by
        unfold digB
        rw [dec10_big h1]
        simp
      rw [h3, decF_append, h2]
      have e : n / 10 * 10 + (48 + ((n % 10 : Nat) : Int) - 48).toNat = n := by omega
      simp only [Option.bind_some]
      rw [e, if_pos hn]
theorem digB_ne (n : Nat) : digB n ≠ [] := by
  unfold digB
  by_cases h : n < 10
  · rw [dec10_small h]; simp
  · rw [dec10_big h]; simp
/-- The first digit is none but of nought. -/
theorem digB_head : ∀ (k n : Nat), n < 10 ^ k → n ≠ 0 → (digB n).head? ≠ some 48
  | 0, n, h, h0 => by
    exact absurd (by simpa using h) h0
  | k + 1, n, h, h0 => by
    by_cases h1 : n < 10
    · unfold digB
      rw [dec10_small h1]
      simp
      omega
    · have h3 : digB n = digB (n / 10) ++ [48 + ((n % 10 : Nat) : Int)] := by
        unfold digB
        rw [dec10_big h1]
        simp
      have h2 := digB_head k (n / 10) (Nat.div_lt_of_lt_mul (by rw [Nat.mul_comm]; simpa [Nat.pow_succ] using h)) (by omega)
      have hne := digB_ne (n / 10)
      rw [h3]
      cases hd : digB (n / 10) with
      | nil => exact absurd hd hne
      | cons x l =>
        rw [hd] at h2
        simpa using h2
theorem good_digB (s : Bool) (n : Nat) (hs : s = true → n ≠ 0) : goodD s (digB n) = true := by
  unfold goodD
  have h1 : (digB n).isEmpty = false := by
    cases h : digB n with
    | nil => exact absurd h (digB_ne n)
    | cons => rfl
  have h2 : (digB n).all isDig = true := by
    rw [List.all_eq_true]
    intro c hc
    have := digB_dig n c hc
    unfold isDig
    simp
    omega
  rw [h1, h2]
  by_cases h0 : n = 0
  · subst h0
    rw [digB_zero]
    cases s
    · rfl
    · exact absurd rfl (hs rfl)
  · obtain ⟨k, hk⟩ : ∃ k, n < 10 ^ k := ⟨n, Nat.lt_pow_self (by decide)⟩
    have h3 := digB_head k n hk h0
    simp [h3]
theorem parse_textZ (z : Int) (hz : ab z < 2 ^ 256) : (textZ z).size ≤ 1000000 ∧ parseV (strB (textZ z)) = z ∧ parseE (strB (textZ z)) = 0 := by
  have hb : ∀ c ∈ (revB z).reverse, 0 ≤ c ∧ c < 256 := by
    intro c hc
    rw [rev_text] at hc
    rcases List.mem_append.1 hc with h | h
    · cases hs : ng z <;> simp [hs] at h
      omega
    · have := digB_dig _ c h; omega
  have hS : strB (textZ z) = (if ng z then [45] else []) ++ digB (ab z) := by
    unfold textZ
    rw [strB_nums hb, rev_text]
  have hlen : (digB (ab z)).length ≤ 78 := by
    unfold digB
    simpa using dec10_len256 hz
  have hN : isNeg (strB (textZ z)) = ng z := by
    rw [hS]
    unfold isNeg
    cases hs : ng z
    · cases hd : digB (ab z) with
      | nil => exact absurd hd (digB_ne _)
      | cons x l =>
        have := digB_dig (ab z) x (by rw [hd]; simp)
        simp
        omega
    · rfl
  have hR : rest (strB (textZ z)) = digB (ab z) := by
    unfold rest
    rw [hN, hS]
    cases hs : ng z <;> simp
  have hG := good_digB (ng z) (ab z) (ng_zero_iff z)
  obtain ⟨k, hk⟩ : ∃ k, ab z < 10 ^ k := ⟨ab z, Nat.lt_pow_self (by decide)⟩
  have hD := decF_digB k (ab z) hk hz
  refine ⟨?_, ?_, ?_⟩
  · rw [← strB_length, hS, List.length_append]
    cases hs : ng z <;> simp <;> omega
  · unfold parseV
    rw [hN, hR, if_pos hG, hD]
    exact zof_ng_ab z
  · unfold parseE
    rw [hN, hR, if_pos hG, hD]
    rfl
end Go.Proofs.YtfchmikbebdflaaGreatDoor
