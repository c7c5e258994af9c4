/-
  Walks: Parse. Conditions stand in each theorem.
-/
import Derived.Laws.IdiomStrings
import Derived.Test.YtfchmikbebdflaaGreatDoorLm24
namespace Go.Proofs.YtfchmikbebdflaaGreatDoor
open Go.RowKit Go.BigFrame

/-- Is a byte a digit? -/
def isDig (c : Int) : Bool := decide (48 ≤ c) && decide (c ≤ 57)
/-- Bytes that are read. -/
def BytesAt (W : World) (b off : Nat) (l : List Int) : Prop := l.length ≤ 1000000 ∧ ∀ k c, l[k]? = some c → W.cell? ⟨b, off + k, none⟩ = some (.int .u8 c)
def IndexPost (l : List Int) (W : World) (e : Ending) (w' : World) : Prop := ∃ r : Int, e = .returned (.int .i64 r) ∧ w' = W ∧ (r ≥ 0 ↔ l.all isDig = false)
open Go.RowKit Go.BigFrame

/-- The bytes of a text. -/
def strB (s : ByteArray) : List Int := s.data.toList.map fun b : UInt8 => (b.toNat : Int)
/-- A magnitude and digits behind it; nothing once it is too great. -/
def decF (m : Nat) : List Int → Option Nat
  | [] => some m
  | c :: cs => if m * 10 + (c - 48).toNat < 2 ^ 256 then decF (m * 10 + (c - 48).toNat) cs else none
def isNeg (l : List Int) : Bool := l.head? == some 45
def rest (l : List Int) : List Int := if isNeg l then l.tail else l
/-- Are these the digits of a number that may be written so? -/
def goodD (neg : Bool) (d : List Int) : Bool := !d.isEmpty && (d.head? != some 48 || d.length == 1 && !neg) && d.all isDig
def parseV (l : List Int) : Int := if goodD (isNeg l) (rest l) then ((decF 0 (rest l)).map (fun m => zof (isNeg l) m)).getD 0 else 0
def parseE (l : List Int) : Int := if goodD (isNeg l) (rest l) then (if (decF 0 (rest l)).isSome then 0 else 110) else 111
theorem strB_length (s : ByteArray) : (strB s).length = s.size := by unfold strB; simp
theorem conv_str (s : ByteArray) (W : World) : (convert 9 130 (.string s)).run Tryz.prog W = .ok (.slice (some ⟨W.heap.size, 0, none⟩) s.size (grownCap W s.size 0 5))
      (W.drew.alloc (.cells (bytesRow s (grownCap W s.size 0 5)) 5 ((bytesRow s (grownCap W s.size 0 5)).size, (bytesRow s (grownCap W s.size 0 5)).size + 1))) :=
  run_bytes_of_string W 9 130 5 s (by kernel_rfl) (by kernel_rfl) (by kernel_rfl)
theorem BytesAt.below {W W1 : World} {b off : Nat} {l : List Int} (h : BytesAt W b off l) (hb : Below W.heap.size W W1) : BytesAt W1 b off l :=
  ⟨h.1, fun k c hk => (hb.cell (World.block_lt_of_cell? W _ (h.2 k c hk))).trans (h.2 k c hk)⟩
theorem BytesAt.tail {W : World} {b : Nat} {c : Int} {l : List Int} (h : BytesAt W b 0 (c :: l)) : BytesAt W b 1 l :=
  ⟨by have := h.1; simp at this; omega, fun k x hk => by
    have := h.2 (k + 1) x (by simpa using hk)
    rwa [Nat.zero_add, Nat.add_comm k 1] at this⟩
theorem BytesAt.lt {W : World} {b off : Nat} {l : List Int} (h : BytesAt W b off l) (h0 : 0 < l.length) : b < W.heap.size :=
  World.block_lt_of_cell? W _ (h.2 0 _ (List.getElem?_eq_getElem h0))
theorem BytesAt.other {W W1 : World} {b off g : Nat} {l : List Int} (h : BytesAt W b off l) (hg : b ≠ g) (hk : ∀ k o, k ≠ g → W.heap[k]? = some o → W1.heap[k]? = some o) : BytesAt W1 b off l := by
  refine ⟨h.1, fun k c hc => ?_⟩
  have h1 := h.2 k c hc
  have h2 : b < W.heap.size := World.block_lt_of_cell? W _ h1
  refine (World.cell?_of_block (w := W) ?_).trans h1
  show W1.heap[b]? = W.heap[b]?
  rw [Array.getElem?_eq_getElem h2]
  exact hk b _ hg (Array.getElem?_eq_getElem h2)
theorem decF_step {m k : Nat} {d : List Int} {c : Int} (hk : d[k]? = some c) (h : m * 10 + (c - 48).toNat < 2 ^ 256) : decF (m * 10 + (c - 48).toNat) (d.drop (k + 1)) = decF m (d.drop k) := by
  obtain ⟨h1, rfl⟩ := List.getElem?_eq_some_iff.1 hk
  rw [List.drop_eq_getElem_cons h1, decF, if_pos h]
theorem decF_over {m k : Nat} {d : List Int} {c : Int} (hk : d[k]? = some c) (h : ¬ m * 10 + (c - 48).toNat < 2 ^ 256) : decF m (d.drop k) = none := by
  obtain ⟨h1, rfl⟩ := List.getElem?_eq_some_iff.1 hk
  rw [List.drop_eq_getElem_cons h1, decF, if_neg h]
end Go.Proofs.YtfchmikbebdflaaGreatDoor
