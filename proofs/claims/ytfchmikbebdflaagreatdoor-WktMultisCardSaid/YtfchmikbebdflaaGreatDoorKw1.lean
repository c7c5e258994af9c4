/-
  Walks of wkt: a number, a corner, what stands ahead of a bracket, a word. Conditions stand in each theorem.
-/
import Derived.Lib.Join
import Derived.Lib.Split
import Derived.Lib.SplitLaws
import Derived.Test.YtfchmikbebdflaaGreatDoorNd1
import Derived.Test.YtfchmikbebdflaaGreatDoorWe2
import Derived.Test.YtfchmikbebdflaaGreatDoorTy8
namespace Go.Proofs.YtfchmikbebdflaaGreatDoor

abbrev Bs := List UInt8
theorem join_two (c : UInt8) (p q : Bs) (r : List Bs) : Lib.join (p :: q :: r) [c] = p ++ c :: Lib.join (q :: r) [c] := by
  rw [Lib.join_cons, Lib.join_cons]
  simp [Lib.joinTail]
/-- A text, parted at each byte c. -/
def splitC (c : UInt8) : Bs → List Bs
  | [] => [[]]
  | a :: l => if a = c then [] :: splitC c l else match splitC c l with
    | [] => [[a]]
    | p :: ps => (a :: p) :: ps
theorem splitC_ne (c : UInt8) (l : Bs) : splitC c l ≠ [] := by
  cases l with
  | nil => simp [splitC]
  | cons a l =>
    simp only [splitC]
    split
    · simp
    · split <;> simp
theorem splitC_no (c : UInt8) : ∀ l : Bs, c ∉ l → splitC c l = [l]
  | [], _ => rfl
  | a :: l, h => by
    have h1 : a ≠ c := fun e => h (by simp [e])
    have h2 : c ∉ l := fun e => h (by simp [e])
    simp [splitC, h1, splitC_no c l h2]
theorem splitC_at (c : UInt8) : ∀ l r : Bs, c ∉ l → splitC c (l ++ c :: r) = l :: splitC c r
  | [], r, _ => by simp [splitC]
  | a :: l, r, h => by
    have h1 : a ≠ c := fun e => h (by simp [e])
    have h2 : c ∉ l := fun e => h (by simp [e])
    simp [splitC, h1, splitC_at c l r h2]
theorem first_of {c : UInt8} : ∀ {l : Bs}, c ∈ l → ∃ a b, l = a ++ c :: b ∧ c ∉ a
  | x :: l, h => by
    by_cases hx : x = c
    · exact ⟨[], l, by simp [hx], by simp⟩
    · obtain ⟨a, b, rfl, hn⟩ := first_of (l := l) (by simpa [Ne.symm hx] using h)
      exact ⟨x :: a, b, by simp, by simp [Ne.symm hx, hn]⟩
theorem join_split (c : UInt8) (l : Bs) : Lib.join (splitC c l) [c] = l := by
  induction h : l.length using Nat.strongRecOn generalizing l with
  | _ n ih =>
    by_cases hm : c ∈ l
    · obtain ⟨a, b, rfl, hn⟩ := first_of hm
      have e := ih b.length (by rw [← h]; simp; omega) b rfl
      rw [splitC_at c a b hn]
      cases hs : splitC c b with
      | nil => exact absurd hs (splitC_ne c b)
      | cons p ps => rw [join_two, ← hs, e]
    · rw [splitC_no c l hm, Lib.join_one]
theorem split_join (c : UInt8) : ∀ ps : List Bs, ps ≠ [] → (∀ p ∈ ps, c ∉ p) → splitC c (Lib.join ps [c]) = ps
  | [p], _, h => by rw [Lib.join_one, splitC_no c p (h p (by simp))]
  | p :: q :: r, _, h => by
    rw [join_two, splitC_at c p _ (h p (by simp)), split_join c (q :: r) (by simp) fun x hx => h x (by simp [hx])]
theorem splitC_free (c : UInt8) (l : Bs) : ∀ p ∈ splitC c l, c ∉ p := by
  induction h : l.length using Nat.strongRecOn generalizing l with
  | _ n ih =>
    by_cases hm : c ∈ l
    · obtain ⟨a, b, rfl, hn⟩ := first_of hm
      rw [splitC_at c a b hn]
      intro p hp
      rcases List.mem_cons.1 hp with rfl | hp
      · exact hn
      · exact ih b.length (by rw [← h]; simp; omega) b rfl p hp
    · rw [splitC_no c l hm]
      intro p hp
      rw [List.mem_singleton.1 hp]
      exact hm
theorem splitK_list (c : UInt8) (l : Bs) : ∀ k, Lib.count l [c] = k → Lib.splitK [c] 0 k l = splitC c l := by
  induction h : l.length using Nat.strongRecOn generalizing l with
  | _ n ih =>
    intro k hk
    by_cases hm : c ∈ l
    · obtain ⟨a, b, rfl, hn⟩ := first_of hm
      have hi : Lib.index (a ++ c :: b) [c] = (a.length : Nat) := index_at c a b hn
      have hcn := Lib.count_hit (s := a ++ c :: b) (sub := [c]) (by simp) hi
      have hd : (a ++ c :: b).drop (a.length + [c].length) = b := by simp
      rw [hd] at hcn
      subst hk
      rw [hcn, Nat.add_comm 1, Lib.splitK, hi, if_neg (by simp)]
      have e1 : ((a.length : Nat) : Int).toNat = a.length := by omega
      rw [e1, hd, Nat.add_zero, splitC_at c a b hn]
      rw [ih b.length (by rw [← h]; simp; omega) b rfl _ rfl]
      simp
    · rw [splitC_no c l hm]
      cases k with
      | zero => rfl
      | succ k => rw [Lib.splitK, index_none c l hm]; rfl
/-- What strings.Split tells, as lists of bytes. -/
theorem splitB_list (c : UInt8) (s : ByteArray) : (Lib.splitB ⟨#[c]⟩ 0 (Lib.countB s ⟨#[c]⟩) s).map (·.data.toList) = splitC c s.data.toList := by
  rw [Lib.splitB_data]
  exact splitK_list c _ _ rfl
/-- What stands ahead of the first byte c, and behind it. -/
def cutC (c : UInt8) : Bs → Option (Bs × Bs)
  | [] => none
  | a :: l => if a = c then some ([], l) else (cutC c l).map fun p => (a :: p.1, p.2)
theorem cutC_no {c : UInt8} : ∀ {l : Bs}, c ∉ l → cutC c l = none
  | [], _ => rfl
  | a :: l, h => by
    have h1 : a ≠ c := fun e => h (by simp [e])
    have h2 : c ∉ l := fun e => h (by simp [e])
    simp [cutC, h1, cutC_no h2]
theorem cutC_at {c : UInt8} : ∀ {l r : Bs}, c ∉ l → cutC c (l ++ c :: r) = some (l, r)
  | [], r, _ => by simp [cutC]
  | a :: l, r, h => by
    have h1 : a ≠ c := fun e => h (by simp [e])
    have h2 : c ∉ l := fun e => h (by simp [e])
    simp [cutC, h1, cutC_at h2]
theorem cutC_some {c : UInt8} {l a b : Bs} (h : cutC c l = some (a, b)) : l = a ++ c :: b ∧ c ∉ a := by
  by_cases hm : c ∈ l
  · obtain ⟨x, y, rfl, hn⟩ := first_of hm
    rw [cutC_at hn] at h
    obtain ⟨rfl, rfl⟩ : x = a ∧ y = b := by simpa using h
    exact ⟨rfl, hn⟩
  · rw [cutC_no hm] at h
    cases h
theorem cutC_none {c : UInt8} {l : Bs} (h : cutC c l = none) : c ∉ l := fun hm => by
  obtain ⟨x, y, rfl, hn⟩ := first_of hm
  rw [cutC_at hn] at h
  cases h
/-- What is behind a beginning. -/
def behind : Bs → Bs → Option Bs
  | [], l => some l
  | _ :: _, [] => none
  | a :: p, b :: l => if a = b then behind p l else none
theorem behind_self (p l : Bs) : behind p (p ++ l) = some l := by
  induction p with
  | nil => rfl
  | cons a p ih => simp [behind, ih]
theorem behind_some : ∀ {p l r : Bs}, behind p l = some r → l = p ++ r
  | [], l, r, h => by simpa [behind] using h
  | _ :: _, [], r, h => by simp [behind] at h
  | a :: p, b :: l, r, h => by
    simp only [behind] at h
    split at h
    · rename_i e
      rw [e, behind_some h]
      rfl
    · cases h
end Go.Proofs.YtfchmikbebdflaaGreatDoor

namespace Go.Proofs.YtfchmikbebdflaaGreatDoor

/-- A node's text. -/
def nodeL (p : Nd) : Bs := (nodeS p.1 p.2).data.toList
theorem nodeL_no {c : UInt8} (p : Nd) (h1 : c ≠ 32) (h2 : c.toNat ≠ 45 ∧ ¬ (48 ≤ c.toNat ∧ c.toNat ≤ 57)) : c ∉ nodeL p := by
  unfold nodeL
  rw [node_list]
  intro h
  rw [List.mem_append, List.mem_cons] at h
  rcases h with h | h | h
  · rcases itoa_byte _ c h with h3 | h3 <;> omega
  · exact h1 h
  · rcases itoa_byte _ c h with h3 | h3 <;> omega
theorem nodeL_inj {p q : Nd} (h1 : nodeB p.1 p.2 = true) (h2 : nodeB q.1 q.2 = true) (h : nodeL p = nodeL q) : p = q := by
  obtain ⟨e1, e2⟩ := node_inj h1 h2 (bytes_ext h)
  exact Prod.ext e1 e2
open Classical in
/-- The node whose text it is. -/
noncomputable def nodeP (t : Bs) : Option Nd := if h : ∃ p : Nd, nodeB p.1 p.2 = true ∧ t = nodeL p then some h.choose else none
theorem nodeP_some {t : Bs} {p : Nd} (h : nodeP t = some p) : nodeB p.1 p.2 = true ∧ t = nodeL p := by
  unfold nodeP at h
  split at h
  · rename_i hx
    obtain rfl := Option.some.inj h
    exact hx.choose_spec
  · cases h
theorem nodeP_text {p : Nd} (h : nodeB p.1 p.2 = true) : nodeP (nodeL p) = some p := by
  unfold nodeP
  have hx : ∃ q : Nd, nodeB q.1 q.2 = true ∧ nodeL p = nodeL q := ⟨p, h, rfl⟩
  rw [dif_pos hx]
  exact congrArg some (nodeL_inj hx.choose_spec.1 h hx.choose_spec.2.symm)
theorem nodeP_none {t : Bs} (h : ∀ p : Nd, nodeB p.1 p.2 = true → t ≠ nodeL p) : nodeP t = none := by
  unfold nodeP
  rw [dif_neg]
  rintro ⟨p, h1, h2⟩
  exact h p h1 h2
/-- The nodes of texts, if all are such. -/
noncomputable def nodesP : List Bs → Option (List Nd)
  | [] => some []
  | t :: r => match nodeP t with
    | none => none
    | some p => (nodesP r).map (p :: ·)
theorem nodesP_some : ∀ {ts : List Bs} {l : List Nd}, nodesP ts = some l → ts = l.map nodeL ∧ ∀ p ∈ l, nodeB p.1 p.2 = true
  | [], l, h => by
    obtain rfl : [] = l := by simpa [nodesP] using h
    exact ⟨rfl, by simp⟩
  | t :: r, l, h => by
    simp only [nodesP] at h
    split at h
    · cases h
    · rename_i p hp
      cases hr : nodesP r with
      | none => rw [hr] at h; cases h
      | some m =>
        rw [hr] at h
        obtain rfl : p :: m = l := by simpa using h
        obtain ⟨e1, e2⟩ := nodesP_some hr
        obtain ⟨g1, g2⟩ := nodeP_some hp
        refine ⟨by rw [List.map_cons, ← e1, ← g2], fun q hq => ?_⟩
        rcases List.mem_cons.1 hq with rfl | hq
        · exact g1
        · exact e2 q hq
theorem nodesP_text : ∀ {l : List Nd}, (∀ p ∈ l, nodeB p.1 p.2 = true) → nodesP (l.map nodeL) = some l
  | [], _ => rfl
  | p :: l, h => by
    rw [List.map_cons, nodesP, nodeP_text (h p (by simp))]
    simp only
    rw [nodesP_text fun q hq => h q (by simp [hq])]
    rfl
/-- What a list of corners, the first one once more, says. -/
def shut (l : List Nd) : Option (List Nd) := if 3 < l.length ∧ l.head? = l.getLast? then some l.dropLast else none
theorem shut_some {l m : List Nd} (h : shut l = some m) : l = m ++ m.take 1 ∧ 3 ≤ m.length := by
  unfold shut at h
  split at h
  · rename_i hc
    obtain rfl := Option.some.inj h
    obtain ⟨h1, h2⟩ := hc
    refine ⟨?_, by simp; omega⟩
    cases l with
    | nil => simp at h1
    | cons a l =>
      obtain ⟨b, l, rfl⟩ : ∃ b k, l = b :: k := by
        cases l with
        | nil => simp at h1
        | cons b k => exact ⟨b, k, rfl⟩
      have e1 : (a :: b :: l).dropLast.take 1 = [a] := by simp
      have e2 : (a :: b :: l).getLast (by simp) = a := by
        have := h2.symm
        rw [List.getLast?_eq_some_getLast (by simp)] at this
        simpa using this
      rw [e1]
      conv => lhs; rw [← List.dropLast_concat_getLast (by simp : a :: b :: l ≠ []), e2]
  · cases h
theorem shut_text {m : List Nd} (h : 3 ≤ m.length) : shut (m ++ m.take 1) = some m := by
  cases m with
  | nil => simp at h
  | cons a m =>
    unfold shut
    have e1 : (a :: m).take 1 = [a] := by simp
    rw [e1, if_pos]
    · rw [List.dropLast_concat]
    · refine ⟨by simp at h ⊢; omega, ?_⟩
      rw [List.getLast?_append]
      simp
/-- The corners of a ring's text. -/
noncomputable def ringP (body : Bs) : Option (List Nd) := (nodesP (splitC 44 body)).bind shut
def bodyL (l : List Nd) : Bs := Lib.join ((l ++ l.take 1).map nodeL) [44]
/-- A ring's text. -/
def ringL (l : List Nd) : Bs := 40 :: (bodyL l ++ [41])
/-- A ring that may be. -/
def RingOk (l : List Nd) : Prop := 3 ≤ l.length ∧ ∀ p ∈ l, nodeB p.1 p.2 = true
theorem ringP_some {b : Bs} {l : List Nd} (h : ringP b = some l) : b = bodyL l ∧ RingOk l := by
  unfold ringP at h
  obtain ⟨m, h1, h2⟩ := Option.bind_eq_some_iff.1 h
  obtain ⟨e1, e2⟩ := nodesP_some h1
  obtain ⟨g1, g2⟩ := shut_some h2
  subst g1
  refine ⟨?_, g2, fun p hp => e2 p (by simp [hp])⟩
  unfold bodyL
  rw [← e1, join_split]
theorem ringP_text {l : List Nd} (h : RingOk l) : ringP (bodyL l) = some l := by
  unfold ringP bodyL
  have hne : (l ++ l.take 1).map nodeL ≠ [] := by
    intro e
    have := congrArg List.length e
    have h1 := h.1
    simp at this
    rw [this] at h1
    simp at h1
  rw [split_join 44 _ hne, nodesP_text, Option.bind_some, shut_text h.1]
  · intro p hp
    rw [List.mem_append] at hp
    rcases hp with hp | hp
    · exact h.2 p hp
    · exact h.2 p (List.mem_of_mem_take hp)
  · intro t ht
    obtain ⟨p, _, rfl⟩ := List.mem_map.1 ht
    exact nodeL_no p (by decide) (by decide)
theorem join_no {c : UInt8} (hc : c ≠ 44) : ∀ {ps : List Bs}, (∀ p ∈ ps, c ∉ p) → c ∉ Lib.join ps [44]
  | [], _ => by simp [Lib.join_nil]
  | [p], h => by rw [Lib.join_one]; exact h p (by simp)
  | p :: q :: r, h => by
    rw [join_two, List.mem_append, List.mem_cons]
    rintro (h1 | h1 | h1)
    · exact h p (by simp) h1
    · exact hc h1
    · exact join_no hc (ps := q :: r) (fun x hx => h x (by simp [hx])) h1
theorem bodyL_no (l : List Nd) : (41 : UInt8) ∉ bodyL l := join_no (by decide) fun p hp => by
  obtain ⟨q, _, rfl⟩ := List.mem_map.1 hp
  exact nodeL_no q (by decide) (by decide)
/-- The rings of a text behind its word. -/
noncomputable def polyP : Nat → Bs → Option (List (List Nd))
  | 0, _ => none
  | _ + 1, [] => none
  | n + 1, a :: t => if a = 40 then
      match cutC 41 t with
      | none => none
      | some (body, left) => match ringP body with
        | none => none
        | some l => if left = [41] then some [l] else match behind [44] left with
          | none => none
          | some next => (polyP n next).map (l :: ·)
    else none
def tailL (Ls : List (List Nd)) : Bs := Lib.join (Ls.map ringL) [44] ++ [41]
theorem tailL_one (l : List Nd) : tailL [l] = 40 :: (bodyL l ++ 41 :: [41]) := by
  simp [tailL, Lib.join_one, ringL]
theorem tailL_more (l m : List Nd) (Ls : List (List Nd)) : tailL (l :: m :: Ls) = 40 :: (bodyL l ++ 41 :: (44 :: tailL (m :: Ls))) := by
  simp [tailL, join_two, ringL]
theorem polyP_some : ∀ {n : Nat} {t : Bs} {Ls : List (List Nd)}, polyP n t = some Ls → t = tailL Ls ∧ Ls ≠ [] ∧ ∀ l ∈ Ls, RingOk l
  | 0, _, _, h => by cases h
  | _ + 1, [], _, h => by cases h
  | n + 1, a :: t, Ls, h => by
    simp only [polyP] at h
    split at h
    · rename_i ha
      subst ha
      split at h
      · cases h
      · rename_i body left hc
        obtain ⟨rfl, hn⟩ := cutC_some hc
        split at h
        · cases h
        · rename_i l hr
          obtain ⟨rfl, hok⟩ := ringP_some hr
          split at h
          · rename_i hl
            subst hl
            obtain rfl : [l] = Ls := by simpa using h
            refine ⟨(tailL_one l).symm, by simp, fun m hm => ?_⟩
            rw [List.mem_singleton.1 hm]
            exact hok
          · split at h
            · cases h
            · rename_i next hb
              have e := behind_some hb
              subst e
              cases hp : polyP n next with
              | none => rw [hp] at h; cases h
              | some Ms =>
                rw [hp] at h
                obtain rfl : l :: Ms = Ls := by simpa using h
                obtain ⟨e1, e2, e3⟩ := polyP_some hp
                subst e1
                cases Ms with
                | nil => exact absurd rfl e2
                | cons m Ms =>
                  refine ⟨(tailL_more l m Ms).symm, by simp, fun k hk => ?_⟩
                  rcases List.mem_cons.1 hk with rfl | hk
                  · exact hok
                  · exact e3 k hk
    · cases h
theorem polyP_text : ∀ (Ls : List (List Nd)) (n : Nat), Ls ≠ [] → (∀ l ∈ Ls, RingOk l) → Ls.length ≤ n → polyP n (tailL Ls) = some Ls
  | [], _, h, _, _ => absurd rfl h
  | _ :: _, 0, _, _, h => by simp at h
  | [l], n + 1, _, h, _ => by
    rw [tailL_one, polyP, if_pos rfl, cutC_at (bodyL_no l)]
    simp only
    rw [ringP_text (h l (by simp))]
    simp
  | l :: m :: Ls, n + 1, _, h, hn => by
    rw [tailL_more, polyP, if_pos rfl, cutC_at (bodyL_no l)]
    simp only
    rw [ringP_text (h l (by simp))]
    simp only
    rw [if_neg (by simp), show behind [44] (44 :: tailL (m :: Ls)) = some (tailL (m :: Ls)) from behind_self [44] _]
    simp only
    rw [polyP_text (m :: Ls) n (by simp) (fun k hk => h k (by simp [hk])) (by simpa using hn)]
    rfl
theorem tailL_len : ∀ Ls : List (List Nd), Ls.length ≤ (tailL Ls).length
  | [] => by simp
  | [l] => by rw [tailL_one]; simp
  | l :: m :: Ls => by
    have h := tailL_len (m :: Ls)
    rw [tailL_more]
    simp at h ⊢
    omega
end Go.Proofs.YtfchmikbebdflaaGreatDoor

namespace Go.Proofs.YtfchmikbebdflaaGreatDoor

theorem polyP_iff {n : Nat} {t : Bs} (h : t.length ≤ n) (Ls : List (List Nd)) : polyP n t = some Ls ↔ (t = tailL Ls ∧ Ls ≠ [] ∧ ∀ l ∈ Ls, RingOk l) := by
  refine ⟨polyP_some, fun ⟨e, h1, h2⟩ => ?_⟩
  subst e
  exact polyP_text Ls n h1 h2 (Nat.le_trans (tailL_len Ls) h)
/-- The rings of a text behind its word. -/
noncomputable def polyQ (t : Bs) : Option (List (List Nd)) := polyP t.length t
theorem polyP_eq {n : Nat} {t : Bs} (h : t.length ≤ n) : polyP n t = polyQ t := by
  apply Option.ext
  intro Ls
  rw [polyP_iff h]
  exact (polyP_iff (Nat.le_refl _) Ls).symm
theorem polyQ_iff (t : Bs) (Ls : List (List Nd)) : polyQ t = some Ls ↔ (t = tailL Ls ∧ Ls ≠ [] ∧ ∀ l ∈ Ls, RingOk l) := polyP_iff (Nat.le_refl _) Ls
theorem polyQ_not {a : UInt8} {t : Bs} (h : a ≠ 40) : polyQ (a :: t) = none := by
  unfold polyQ
  rw [List.length_cons, polyP, if_neg h]
theorem polyQ_nil : polyQ [] = none := rfl
theorem polyQ_shut {t : Bs} (h : cutC 41 t = none) : polyQ (40 :: t) = none := by
  unfold polyQ
  rw [List.length_cons, polyP, if_pos rfl, h]
theorem polyQ_ring {t body left : Bs} (h : cutC 41 t = some (body, left)) (hr : ringP body = none) : polyQ (40 :: t) = none := by
  unfold polyQ
  rw [List.length_cons, polyP, if_pos rfl, h]
  simp only
  rw [hr]
theorem polyQ_last {t body : Bs} {l : List Nd} (h : cutC 41 t = some (body, [41])) (hr : ringP body = some l) : polyQ (40 :: t) = some [l] := by
  unfold polyQ
  rw [List.length_cons, polyP, if_pos rfl, h]
  simp only
  rw [hr]
  simp
theorem polyQ_end {t body left : Bs} {l : List Nd} (h : cutC 41 t = some (body, left)) (hr : ringP body = some l) (h1 : left ≠ [41]) (h2 : behind [44] left = none) : polyQ (40 :: t) = none := by
  unfold polyQ
  rw [List.length_cons, polyP, if_pos rfl, h]
  simp only
  rw [hr]
  simp only
  rw [if_neg h1, h2]
theorem polyQ_next {t body next : Bs} {l : List Nd} (h : cutC 41 t = some (body, 44 :: next)) (hr : ringP body = some l) : polyQ (40 :: t) = (polyQ next).map (l :: ·) := by
  have e := (cutC_some h).1
  have hl : next.length ≤ t.length := by
    rw [e]
    simp
    omega
  rw [← polyP_eq hl]
  unfold polyQ
  rw [List.length_cons, polyP, if_pos rfl, h]
  simp only
  rw [hr]
  simp only
  rw [if_neg (by simp), show behind [44] (44 :: next) = some next from behind_self [44] _]

/-- A shape. -/
structure Shp where
  is : Bool
  sg : Sgm
  rs : List (List Nd)
def sgB (g : Sgm) : Bool := segB g.1.1 g.1.2 g.2.1 g.2.2
def sgL (g : Sgm) : Bs := (segS g.1.1 g.1.2 g.2.1 g.2.2).data.toList
def zeroS : Shp := ⟨false, ((0, 0), (0, 0)), []⟩
def total (Ls : List (List Nd)) : Nat := (Ls.map List.length).sum
open Classical in
noncomputable def checkV (s : Shp) : Int :=
  if s.is = true then (if s.rs ≠ [] then 2 else if sgB s.sg = true then 0 else 2)
  else if s.sg ≠ ((0, 0), (0, 0)) ∨ s.rs = [] then 2 else if ∀ l ∈ s.rs, RingOk l then (if 512 < total s.rs then 3 else 0) else 2
theorem checkV_ok {Ls : List (List Nd)} (hne : Ls ≠ []) (h : ∀ l ∈ Ls, RingOk l) : checkV ⟨false, ((0, 0), (0, 0)), Ls⟩ = if 512 < total Ls then 3 else 0 := by
  unfold checkV
  rw [if_neg (by simp), if_neg (by simp [hne]), if_pos h]
theorem checkV_bad {Ls : List (List Nd)} (hne : Ls ≠ []) (h : ¬ ∀ l ∈ Ls, RingOk l) : checkV ⟨false, ((0, 0), (0, 0)), Ls⟩ = 2 := by
  unfold checkV
  rw [if_neg (by simp), if_neg (by simp [hne]), if_neg h]
def segW : Bs := [83, 69, 71, 77, 69, 78, 84, 40]
def polW : Bs := [80, 79, 76, 89, 71, 79, 78, 40]
/-- A shape's text. -/
def textL (s : Shp) : Bs := if s.is = true then segW ++ (sgL s.sg ++ [41]) else polW ++ tailL s.rs
open Classical in
noncomputable def segP (t : Bs) : Option Sgm := if h : ∃ g : Sgm, sgB g = true ∧ t = sgL g then some h.choose else none
theorem segP_some {t : Bs} {g : Sgm} (h : segP t = some g) : sgB g = true ∧ t = sgL g := by
  unfold segP at h
  split at h
  · rename_i hx
    obtain rfl := Option.some.inj h
    exact hx.choose_spec
  · cases h
theorem segP_none {t : Bs} (h : ∀ g : Sgm, sgB g = true → t ≠ sgL g) : segP t = none := by
  unfold segP
  rw [dif_neg]
  rintro ⟨g, h1, h2⟩
  exact h g h1 h2
theorem segB_nodes {g : Sgm} (h : sgB g = true) : nodeB g.1.1 g.1.2 = true ∧ nodeB g.2.1 g.2.2 = true := by
  unfold sgB segB at h
  simp only [Bool.and_eq_true] at h
  exact ⟨h.1, h.2.1⟩
theorem sgL_parts (g : Sgm) : sgL g = nodeL g.1 ++ 44 :: nodeL g.2 := seg_list _ _ _ _
theorem sgL_inj {g k : Sgm} (h1 : sgB g = true) (h2 : sgB k = true) (h : sgL g = sgL k) : g = k := by
  rw [sgL_parts, sgL_parts] at h
  obtain ⟨e1, e2⟩ := join_inj 44 _ _ _ _ h (nodeL_no _ (by decide) (by decide)) (nodeL_no _ (by decide) (by decide))
  exact Prod.ext (nodeL_inj (segB_nodes h1).1 (segB_nodes h2).1 e1) (nodeL_inj (segB_nodes h1).2 (segB_nodes h2).2 e2)
theorem segP_text {g : Sgm} (h : sgB g = true) : segP (sgL g) = some g := by
  unfold segP
  have hx : ∃ k : Sgm, sgB k = true ∧ sgL g = sgL k := ⟨g, h, rfl⟩
  rw [dif_pos hx]
  exact congrArg some (sgL_inj hx.choose_spec.1 h hx.choose_spec.2.symm)
theorem sgL_no (g : Sgm) : (41 : UInt8) ∉ sgL g := by
  rw [sgL_parts, List.mem_append, List.mem_cons]
  rintro (h | h | h)
  · exact nodeL_no _ (by decide) (by decide) h
  · exact absurd h (by decide)
  · exact nodeL_no _ (by decide) (by decide) h
/-- What a text says behind the word of a segment. -/
noncomputable def segQ (r : Bs) : Option Sgm := match cutC 41 r with
  | none => none
  | some (body, left) => if left = [] then segP body else none
/-- What a text says. -/
noncomputable def parseS (t : Bs) : Shp × Int :=
  if 1048576 < t.length then (zeroS, 3) else
  match behind segW t with
  | some r => (match segQ r with
    | some g => (⟨true, g, []⟩, 0)
    | none => (zeroS, 190))
  | none => match behind polW t with
    | some r => (match polyQ r with
      | some Ls => if 512 < total Ls then (zeroS, 3) else (⟨false, ((0, 0), (0, 0)), Ls⟩, 0)
      | none => (zeroS, 190))
    | none => (zeroS, 190)
theorem segQ_some {r : Bs} {g : Sgm} (h : segQ r = some g) : sgB g = true ∧ r = sgL g ++ [41] := by
  unfold segQ at h
  split at h
  · cases h
  · rename_i body left hc
    split at h
    · rename_i hl
      subst hl
      obtain ⟨e1, e2⟩ := segP_some h
      exact ⟨e1, by rw [← e2]; exact (cutC_some hc).1⟩
    · cases h
theorem segQ_text {g : Sgm} (h : sgB g = true) : segQ (sgL g ++ [41]) = some g := by
  unfold segQ
  rw [cutC_at (sgL_no g)]
  simp [segP_text h]
theorem word_not {r : Bs} : behind segW (polW ++ r) = none := by simp [behind, segW, polW]
theorem wparse_back {t : Bs} {s : Shp} (h : parseS t = (s, 0)) : checkV s = 0 ∧ textL s = t := by
  unfold parseS at h
  split at h
  · simp at h
  · split at h
    · rename_i r hb
      have e := behind_some hb
      split at h
      · rename_i g hg
        obtain rfl : (⟨true, g, []⟩ : Shp) = s := by simpa using h
        obtain ⟨h1, h2⟩ := segQ_some hg
        refine ⟨by simp [checkV, h1], ?_⟩
        rw [e, h2]
        simp [textL]
      · simp at h
    · split at h
      · rename_i r hb
        have e := behind_some hb
        split at h
        · rename_i Ls hp
          split at h
          · simp at h
          · rename_i hn
            obtain rfl : (⟨false, ((0, 0), (0, 0)), Ls⟩ : Shp) = s := by simpa using h
            obtain ⟨h1, h2, h3⟩ := (polyQ_iff _ _).1 hp
            refine ⟨?_, ?_⟩
            · unfold checkV
              rw [if_neg (by simp), if_neg (by simp [h2]), if_pos h3, if_neg hn]
            · rw [e, h1]
              simp [textL]
        · simp at h
      · simp at h
theorem wparse_text {s : Shp} (h : checkV s = 0) (hl : (textL s).length ≤ 1048576) : parseS (textL s) = (s, 0) := by
  obtain ⟨is, sg, rs⟩ := s
  unfold parseS
  rw [if_neg (by omega)]
  unfold checkV at h
  cases is with
  | true =>
    rw [if_pos rfl] at h
    split at h
    · cases h
    · rename_i hr
      split at h
      · rename_i hg
        obtain rfl : rs = [] := by simpa using hr
        have e : textL ⟨true, sg, []⟩ = segW ++ (sgL sg ++ [41]) := by simp [textL]
        rw [e, behind_self]
        simp only
        rw [segQ_text hg]
      · cases h
  | false =>
    rw [if_neg (by simp)] at h
    split at h
    · cases h
    · rename_i hz
      split at h
      · rename_i hok
        split at h
        · cases h
        · rename_i hn
          have h1 : sg = ((0, 0), (0, 0)) := Classical.byContradiction fun e => hz (.inl e)
          have h2 : rs ≠ [] := fun e => hz (.inr e)
          subst h1
          have e : textL ⟨false, ((0, 0), (0, 0)), rs⟩ = polW ++ tailL rs := by simp [textL]
          rw [e, word_not, behind_self]
          simp only
          rw [(polyQ_iff _ _).2 ⟨rfl, h2, hok⟩]
          simp only
          rw [if_neg hn]
      · cases h
theorem wparse_many {rs : List (List Nd)} (h2 : rs ≠ []) (hok : ∀ l ∈ rs, RingOk l) (hn : 512 < total rs) (hl : (textL ⟨false, ((0, 0), (0, 0)), rs⟩).length ≤ 1048576) : parseS (textL ⟨false, ((0, 0), (0, 0)), rs⟩) = (zeroS, 3) := by
  unfold parseS
  rw [if_neg (by omega)]
  have e : textL ⟨false, ((0, 0), (0, 0)), rs⟩ = polW ++ tailL rs := by simp [textL]
  rw [e, word_not, behind_self]
  simp only
  rw [(polyQ_iff _ _).2 ⟨rfl, h2, hok⟩]
  simp only
  rw [if_pos hn]
end Go.Proofs.YtfchmikbebdflaaGreatDoor

namespace Go.Proofs.YtfchmikbebdflaaGreatDoor
open Go.RowKit Go.BigFrame

/-- The text of bytes. -/
abbrev bs (l : Bs) : ByteArray := ⟨l.toArray⟩
theorem bs_self (s : ByteArray) : s = bs s.data.toList := by
  obtain ⟨⟨l⟩⟩ := s
  rfl
theorem bs_of {s : ByteArray} {l : Bs} (h : s.data.toList = l) : s = bs l := by
  subst h
  exact bs_self s
theorem wkt_must_ok (x : Int) (w : World) :
    Calls Tryz.prog 28 #[.bool true, .int .i64 x] w fun e w' => e = .returned (.tuple #[]) ∧ w' = w := by
  go_enter Tryz.func28, Tryz.ntmps28
  go_wp2
  go_end0
  exact ⟨rfl, rfl⟩
theorem wkt_must_no (x : Int) (w : World) :
    Calls Tryz.prog 28 #[.bool false, .int .i64 x] w fun e w' => e = .panicked [{ v := .iface 31 (.int .i64 x), recovered := false }] ∧ w' = w := by
  go_enter Tryz.func28, Tryz.ntmps28
  go_wp2
  exact ⟨rfl, rfl, rfl⟩
set_option maxRecDepth 20000 in
set_option maxHeartbeats 2000000 in
theorem wnum_ok (s : ByteArray) (n : Int) (hsz : s.size ≤ 9223372036854775806) (h0 : -9223372036854775808 ≤ n) (h1 : n ≤ 9223372036854775807) (hp : Lib.parseIntB 64 s.data.toList = .ok n) (he : itS n = s) (w : World) (hV : Vars w) :
    Calls Tryz.prog 83 #[.string s] w fun e w' => e = .returned (.int .i64 n) ∧ Below w.heap.size w w' := by
  have HP : Hd (∀ w, Calls Tryz.prog 105 #[.string s, .int .i64 10, .int .i64 64] w fun e w' => e = .returned (.tuple #[.int .i64 n, .nilIface]) ∧ Below w.heap.size w w') := ⟨fun w => (sh_strconv_ParseInt_10_at64_ok s hsz n hp w).mono fun e w' ⟨h, k⟩ => ⟨h, by
    rcases k with rfl | ⟨t, rfl⟩
    · exact Below.refl _ _
    · exact below_bw w t⟩⟩
  have HF := Hd.mk (fun w hv => fmt_itS n h0 h1 w hv)
  rw [he] at HF
  have HV := Hd.mk hV
  clear hp he h0 h1 hV hsz
  go_enter Tryz.func83, Tryz.ntmps83
  go_wp2_with fail
  refine (HP.out _).mono ?_
  rintro e w1 ⟨rfl, hB⟩
  go_wp2_with fail
  refine (HF.out _ (HV.out.below hB)).mono ?_
  rintro e w2 ⟨rfl, hb⟩
  have hB2 := below_on hB hb
  clear hb hB
  go_wp2_with (go_at_call 28; refine (wkt_must_ok _ _).mono ?_; rintro e w4 ⟨rfl, rfl⟩)
  go_ret
  exact ⟨rfl, hB2⟩
set_option maxRecDepth 20000 in
set_option maxHeartbeats 2000000 in
theorem wnum_no (s : ByteArray) (hsz : s.size ≤ 1100000) (hno : ∀ n : Int, -9223372036854775808 ≤ n ∧ n ≤ 9223372036854775807 → s ≠ itS n) (w : World) (hV : Vars w) :
    Calls Tryz.prog 83 #[.string s] w fun e w' => e = .panicked [{ v := .iface 31 (.int .i64 190), recovered := false }] ∧ Below w.heap.size w w' := by
  have HV := Hd.mk hV
  by_cases hp : ∃ n, Lib.parseIntB 64 s.data.toList = .ok n
  · obtain ⟨n, hp⟩ := hp
    have hr := parse_range hp
    have hne : ((itS n).toList == s.toList) = false := by
      rw [beq_eq_false_iff_ne, ByteArray.toList_eq, ByteArray.toList_eq]
      exact fun h => hno n hr (bytes_ext h).symm
    have HP : Hd (∀ w, Calls Tryz.prog 105 #[.string s, .int .i64 10, .int .i64 64] w fun e w' => e = .returned (.tuple #[.int .i64 n, .nilIface]) ∧ Below w.heap.size w w') := ⟨fun w => (sh_strconv_ParseInt_10_at64_ok s (by omega) n hp w).mono fun e w' ⟨h, k⟩ => ⟨h, by
      rcases k with rfl | ⟨t, rfl⟩
      · exact Below.refl _ _
      · exact below_bw w t⟩⟩
    have HF := Hd.mk (fun w hv => fmt_itS n hr.1 hr.2 w hv)
    generalize itS n = t at *
    clear hp hr hno hV
    go_enter Tryz.func83, Tryz.ntmps83
    go_wp2_with fail
    refine (HP.out _).mono ?_
    rintro e w1 ⟨rfl, hB⟩
    go_wp2_with fail
    refine (HF.out _ (HV.out.below hB)).mono ?_
    rintro e w2 ⟨rfl, hb⟩
    have hB2 := below_on hB hb
    clear hb hB
    go_wp2_with (go_at_call 28; refine (wkt_must_no _ _).mono ?_; rintro e w4 ⟨rfl, rfl⟩)
    exact ⟨rfl, rfl, hB2⟩
  · have HP := Hd.mk (fun w hv => parse_err s hsz (fun n h => hp ⟨n, h⟩) w hv)
    clear hp hno hV
    go_enter Tryz.func83, Tryz.ntmps83
    go_wp2_with fail
    refine (HP.out _ HV.out).mono ?_
    rintro e w1 ⟨v, t, p, rfl, hB⟩
    go_wp2_with (go_at_call 28; refine (wkt_must_no _ _).mono ?_; rintro e w4 ⟨rfl, rfl⟩)
    exact ⟨rfl, rfl, hB⟩
/-- number of wkt, of any text. -/
theorem wnum_any (t : ByteArray) (ht : t.size ≤ 1100000) : (∃ n : Int, I64 n ∧ t = itS n ∧ Hd (∀ w, Vars w → Calls Tryz.prog 83 #[.string t] w fun e w' => e = .returned (.int .i64 n) ∧ Below w.heap.size w w')) ∨
      ((∀ n : Int, I64 n → t ≠ itS n) ∧ Hd (∀ w : World, Vars w → Calls Tryz.prog 83 #[.string t] w fun e w' => e = .panicked [{ v := .iface 31 (.int .i64 190), recovered := false }] ∧ Below w.heap.size w w')) := by
  by_cases h : ∃ n : Int, I64 n ∧ t = itS n
  · obtain ⟨n, hn, he⟩ := h
    exact .inl ⟨n, hn, he, ⟨fun w hv => wnum_ok t n (by omega) hn.1 hn.2 (by rw [he]; exact parse_itoa n hn.1 hn.2) he.symm w hv⟩⟩
  · exact .inr ⟨fun n hn he => h ⟨n, hn, he⟩, ⟨fun w hv => wnum_no t ht (fun n hn he => h ⟨n, hn, he⟩) w hv⟩⟩
theorem lcut_some {c : UInt8} {l a r : Bs} (h : cutC c l = some (a, r)) : Lib.cut l [c] = (a, r, true) := by
  obtain ⟨rfl, hn⟩ := cutC_some h
  exact cut_at c a r hn
theorem lcut_none {c : UInt8} {l : Bs} (h : cutC c l = none) : Lib.cut l [c] = (l, [], false) := cut_none c l (cutC_none h)
theorem wcut_ok {c : UInt8} {l a r : Bs} (h : cutC c l = some (a, r)) (hl : l.length ≤ 1100000) : Hd (∀ w, Vars w → Calls Tryz.prog 79 #[.string (bs l), .string ⟨#[c]⟩] w fun e w' => e = .returned (.tuple #[.string (bs a), .string (bs r), .bool true]) ∧ Below w.heap.size w w') := ⟨fun w hv => by
  have k := scut_any (bs l) ⟨#[c]⟩ w (by simp [ByteArray.size]; omega) hv
  rw [show Lib.cut (bs l).data.toList (⟨#[c]⟩ : ByteArray).data.toList = (a, r, true) from lcut_some h] at k
  exact k⟩
theorem wcut_no {c : UInt8} {l : Bs} (h : cutC c l = none) (hl : l.length ≤ 1100000) : Hd (∀ w, Vars w → Calls Tryz.prog 79 #[.string (bs l), .string ⟨#[c]⟩] w fun e w' => e = .returned (.tuple #[.string (bs l), .string (bs []), .bool false]) ∧ Below w.heap.size w w') := ⟨fun w hv => by
  have k := scut_any (bs l) ⟨#[c]⟩ w (by simp [ByteArray.size]; omega) hv
  rw [show Lib.cut (bs l).data.toList (⟨#[c]⟩ : ByteArray).data.toList = (l, [], false) from lcut_none h] at k
  exact k⟩
set_option maxRecDepth 20000 in
set_option maxHeartbeats 2000000 in
theorem corner_n1 (t : Bs) (ht : t.length ≤ 1100000) (hc : cutC 32 t = none)  (w : World) (hV : Vars w) :
    Calls Tryz.prog 59 #[.string (bs t)] w fun e w' => e = .panicked [{ v := .iface 31 (.int .i64 190), recovered := false }] ∧ Below w.heap.size w w' := by
  have HC := wcut_no hc ht
  have HV := Hd.mk hV
  clear ht hc hV
  go_enter Tryz.func59, Tryz.ntmps59
  go_wp2_with fail
  refine (HC.out _ (HV.out.below (by focus (repeat (first | (with_reducible exact Below.refl _ _) | (with_reducible assumption) | ((with_reducible refine Below.setCell ?_ ?_ _); rotate_left; (focus (first | omega | (simp; done) | (simp; omega)))) | ((with_reducible refine Below.alloc ?_ ?_ _); rotate_left; (focus (first | omega | (simp; done) | (simp; omega)))) | (with_reducible refine Below.drew ?_) | (refine below_on ?_ (by assumption))))))).mono ?_
  rintro e w1 ⟨rfl, hb⟩
  have z0 := heap_below hb (heap_new w (.cells #[.int .i64 0, .int .i64 0] 24))
  have hB : Below w.heap.size w w1 := below_on (by focus (repeat (first | (with_reducible exact Below.refl _ _) | (with_reducible assumption) | ((with_reducible refine Below.setCell ?_ ?_ _); rotate_left; (focus (first | omega | (simp; done) | (simp; omega)))) | ((with_reducible refine Below.alloc ?_ ?_ _); rotate_left; (focus (first | omega | (simp; done) | (simp; omega)))) | (with_reducible refine Below.drew ?_) | (refine below_on ?_ (by assumption))))) hb
  clear hb HC
  go_wp2_with (go_at_call 28; refine (wkt_must_no _ _).mono ?_; rintro e w4 ⟨rfl, rfl⟩)
  exact ⟨rfl, rfl, hB⟩
set_option maxRecDepth 20000 in
set_option maxHeartbeats 2000000 in
theorem corner_n2 (t a r : Bs) (ht : t.length ≤ 1100000) (hc : cutC 32 t = some (a, r)) (HX : Hd (∀ w, Vars w → Calls Tryz.prog 83 #[.string (bs a)] w fun e w' => e = .panicked [{ v := .iface 31 (.int .i64 190), recovered := false }] ∧ Below w.heap.size w w')) (w : World) (hV : Vars w) :
    Calls Tryz.prog 59 #[.string (bs t)] w fun e w' => e = .panicked [{ v := .iface 31 (.int .i64 190), recovered := false }] ∧ Below w.heap.size w w' := by
  have HC := wcut_ok hc ht
  have HV := Hd.mk hV
  clear ht hc hV
  go_enter Tryz.func59, Tryz.ntmps59
  go_wp2_with fail
  refine (HC.out _ (HV.out.below (by focus (repeat (first | (with_reducible exact Below.refl _ _) | (with_reducible assumption) | ((with_reducible refine Below.setCell ?_ ?_ _); rotate_left; (focus (first | omega | (simp; done) | (simp; omega)))) | ((with_reducible refine Below.alloc ?_ ?_ _); rotate_left; (focus (first | omega | (simp; done) | (simp; omega)))) | (with_reducible refine Below.drew ?_) | (refine below_on ?_ (by assumption))))))).mono ?_
  rintro e w1 ⟨rfl, hb⟩
  have z0 := heap_below hb (heap_new w (.cells #[.int .i64 0, .int .i64 0] 24))
  have hB : Below w.heap.size w w1 := below_on (by focus (repeat (first | (with_reducible exact Below.refl _ _) | (with_reducible assumption) | ((with_reducible refine Below.setCell ?_ ?_ _); rotate_left; (focus (first | omega | (simp; done) | (simp; omega)))) | ((with_reducible refine Below.alloc ?_ ?_ _); rotate_left; (focus (first | omega | (simp; done) | (simp; omega)))) | (with_reducible refine Below.drew ?_) | (refine below_on ?_ (by assumption))))) hb
  clear hb HC
  go_wp2_with (go_at_call 28; refine (wkt_must_ok _ _).mono ?_; rintro e w4 ⟨rfl, rfl⟩)
  refine (HX.out _ (HV.out.below hB)).mono ?_
  rintro e w2 ⟨rfl, hb⟩
  exact ⟨rfl, rfl, below_on hB hb⟩
set_option maxRecDepth 20000 in
set_option maxHeartbeats 2000000 in
theorem corner_n3 (t a r : Bs) (ht : t.length ≤ 1100000) (hc : cutC 32 t = some (a, r)) (x : Int) (HX : Hd (∀ w, Vars w → Calls Tryz.prog 83 #[.string (bs a)] w fun e w' => e = .returned (.int .i64 x) ∧ Below w.heap.size w w')) (HY : Hd (∀ w, Vars w → Calls Tryz.prog 83 #[.string (bs r)] w fun e w' => e = .panicked [{ v := .iface 31 (.int .i64 190), recovered := false }] ∧ Below w.heap.size w w')) (w : World) (hV : Vars w) :
    Calls Tryz.prog 59 #[.string (bs t)] w fun e w' => e = .panicked [{ v := .iface 31 (.int .i64 190), recovered := false }] ∧ Below w.heap.size w w' := by
  have HC := wcut_ok hc ht
  have HV := Hd.mk hV
  clear ht hc hV
  go_enter Tryz.func59, Tryz.ntmps59
  go_wp2_with fail
  refine (HC.out _ (HV.out.below (by focus (repeat (first | (with_reducible exact Below.refl _ _) | (with_reducible assumption) | ((with_reducible refine Below.setCell ?_ ?_ _); rotate_left; (focus (first | omega | (simp; done) | (simp; omega)))) | ((with_reducible refine Below.alloc ?_ ?_ _); rotate_left; (focus (first | omega | (simp; done) | (simp; omega)))) | (with_reducible refine Below.drew ?_) | (refine below_on ?_ (by assumption))))))).mono ?_
  rintro e w1 ⟨rfl, hb⟩
  have z0 := heap_below hb (heap_new w (.cells #[.int .i64 0, .int .i64 0] 24))
  have hB : Below w.heap.size w w1 := below_on (by focus (repeat (first | (with_reducible exact Below.refl _ _) | (with_reducible assumption) | ((with_reducible refine Below.setCell ?_ ?_ _); rotate_left; (focus (first | omega | (simp; done) | (simp; omega)))) | ((with_reducible refine Below.alloc ?_ ?_ _); rotate_left; (focus (first | omega | (simp; done) | (simp; omega)))) | (with_reducible refine Below.drew ?_) | (refine below_on ?_ (by assumption))))) hb
  clear hb HC
  go_wp2_with (go_at_call 28; refine (wkt_must_ok _ _).mono ?_; rintro e w4 ⟨rfl, rfl⟩)
  refine (HX.out _ (HV.out.below hB)).mono ?_
  rintro e w2 ⟨rfl, hb⟩
  have hB2 := below_on hB hb
  clear hb hB HX
  go_wp2_with fail
  refine (HY.out _ (HV.out.below hB2)).mono ?_
  rintro e w3 ⟨rfl, hb⟩
  exact ⟨rfl, rfl, below_on hB2 hb⟩
set_option maxRecDepth 20000 in
set_option maxHeartbeats 2000000 in
theorem corner_n4 (t a r : Bs) (ht : t.length ≤ 1100000) (hc : cutC 32 t = some (a, r)) (x y : Int) (HX : Hd (∀ w, Vars w → Calls Tryz.prog 83 #[.string (bs a)] w fun e w' => e = .returned (.int .i64 x) ∧ Below w.heap.size w w')) (HY : Hd (∀ w, Vars w → Calls Tryz.prog 83 #[.string (bs r)] w fun e w' => e = .returned (.int .i64 y) ∧ Below w.heap.size w w')) (hq : nodeB x y = false) (w : World) (hV : Vars w) :
    Calls Tryz.prog 59 #[.string (bs t)] w fun e w' => e = .panicked [{ v := .iface 31 (.int .i64 190), recovered := false }] ∧ Below w.heap.size w w' := by
  have HC := wcut_ok hc ht
  have HV := Hd.mk hV
  clear ht hc hV
  go_enter Tryz.func59, Tryz.ntmps59
  go_wp2_with fail
  refine (HC.out _ (HV.out.below (by focus (repeat (first | (with_reducible exact Below.refl _ _) | (with_reducible assumption) | ((with_reducible refine Below.setCell ?_ ?_ _); rotate_left; (focus (first | omega | (simp; done) | (simp; omega)))) | ((with_reducible refine Below.alloc ?_ ?_ _); rotate_left; (focus (first | omega | (simp; done) | (simp; omega)))) | (with_reducible refine Below.drew ?_) | (refine below_on ?_ (by assumption))))))).mono ?_
  rintro e w1 ⟨rfl, hb⟩
  have z0 := heap_below hb (heap_new w (.cells #[.int .i64 0, .int .i64 0] 24))
  have hB : Below w.heap.size w w1 := below_on (by focus (repeat (first | (with_reducible exact Below.refl _ _) | (with_reducible assumption) | ((with_reducible refine Below.setCell ?_ ?_ _); rotate_left; (focus (first | omega | (simp; done) | (simp; omega)))) | ((with_reducible refine Below.alloc ?_ ?_ _); rotate_left; (focus (first | omega | (simp; done) | (simp; omega)))) | (with_reducible refine Below.drew ?_) | (refine below_on ?_ (by assumption))))) hb
  clear hb HC
  go_wp2_with (go_at_call 28; refine (wkt_must_ok _ _).mono ?_; rintro e w4 ⟨rfl, rfl⟩)
  refine (HX.out _ (HV.out.below hB)).mono ?_
  rintro e w2 ⟨rfl, hb⟩
  have z1 := heap_below hb z0
  have hB2 := below_on hB hb
  clear hb z0 hB HX
  go_wp2_with fail
  refine (HY.out _ (HV.out.below hB2)).mono ?_
  rintro e w3 ⟨rfl, hb⟩
  have z2 := heap_below hb z1
  have hB3 := below_on hB2 hb
  clear hb z1 hB2 HY
  go_wp2_with fail
  refine (pcheck_v x y _ hq _).mono ?_
  rintro e w5 ⟨rfl, hb⟩
  have z4 := heap_below hb (heap_new w3 (.cells #[.int .i64 x, .int .i64 y] 24))
  have z3 := heap_below hb (heap_old z2 _)
  have hB5 : Below w.heap.size w w5 := below_on (hB3.alloc hB3.size _) hb
  clear hb z2 hB3
  have c4 := cell_at z4
  go_wp2_with (go_at_call 28; refine (wkt_must_no _ _).mono ?_; rintro e w4 ⟨rfl, rfl⟩)
  exact ⟨rfl, rfl, hB5⟩
set_option maxRecDepth 20000 in
set_option maxHeartbeats 2000000 in
theorem corner_ok (t a r : Bs) (ht : t.length ≤ 1100000) (hc : cutC 32 t = some (a, r)) (x y : Int) (HX : Hd (∀ w, Vars w → Calls Tryz.prog 83 #[.string (bs a)] w fun e w' => e = .returned (.int .i64 x) ∧ Below w.heap.size w w')) (HY : Hd (∀ w, Vars w → Calls Tryz.prog 83 #[.string (bs r)] w fun e w' => e = .returned (.int .i64 y) ∧ Below w.heap.size w w')) (hq : nodeB x y = true) (w : World) (hV : Vars w) :
    Calls Tryz.prog 59 #[.string (bs t)] w fun e w' => e = .returned (.agg #[.int .i64 x, .int .i64 y]) ∧ Below w.heap.size w w' := by
  have HC := wcut_ok hc ht
  have HV := Hd.mk hV
  clear ht hc hV
  go_enter Tryz.func59, Tryz.ntmps59
  go_wp2_with fail
  refine (HC.out _ (HV.out.below (by focus (repeat (first | (with_reducible exact Below.refl _ _) | (with_reducible assumption) | ((with_reducible refine Below.setCell ?_ ?_ _); rotate_left; (focus (first | omega | (simp; done) | (simp; omega)))) | ((with_reducible refine Below.alloc ?_ ?_ _); rotate_left; (focus (first | omega | (simp; done) | (simp; omega)))) | (with_reducible refine Below.drew ?_) | (refine below_on ?_ (by assumption))))))).mono ?_
  rintro e w1 ⟨rfl, hb⟩
  have z0 := heap_below hb (heap_new w (.cells #[.int .i64 0, .int .i64 0] 24))
  have hB : Below w.heap.size w w1 := below_on (by focus (repeat (first | (with_reducible exact Below.refl _ _) | (with_reducible assumption) | ((with_reducible refine Below.setCell ?_ ?_ _); rotate_left; (focus (first | omega | (simp; done) | (simp; omega)))) | ((with_reducible refine Below.alloc ?_ ?_ _); rotate_left; (focus (first | omega | (simp; done) | (simp; omega)))) | (with_reducible refine Below.drew ?_) | (refine below_on ?_ (by assumption))))) hb
  clear hb HC
  go_wp2_with (go_at_call 28; refine (wkt_must_ok _ _).mono ?_; rintro e w4 ⟨rfl, rfl⟩)
  refine (HX.out _ (HV.out.below hB)).mono ?_
  rintro e w2 ⟨rfl, hb⟩
  have z1 := heap_below hb z0
  have hB2 := below_on hB hb
  clear hb z0 hB HX
  go_wp2_with fail
  refine (HY.out _ (HV.out.below hB2)).mono ?_
  rintro e w3 ⟨rfl, hb⟩
  have z2 := heap_below hb z1
  have hB3 := below_on hB2 hb
  clear hb z1 hB2 HY
  go_wp2_with fail
  refine (pcheck_v x y _ hq _).mono ?_
  rintro e w5 ⟨rfl, hb⟩
  have z4 := heap_below hb (heap_new w3 (.cells #[.int .i64 x, .int .i64 y] 24))
  have z3 := heap_below hb (heap_old z2 _)
  have hB5 : Below w.heap.size w w5 := below_on (hB3.alloc hB3.size _) hb
  clear hb z2 hB3
  have c4 := cell_at z4
  go_wp2_with (first | (go_at_call 28; refine (wkt_must_ok _ _).mono ?_; rintro e w4 ⟨rfl, rfl⟩) | (refine wpList_store_block rfl 24 (.tmp 2) (.tmp 24) rfl w.heap.size #[.int .i64 x, .int .i64 y] rfl rfl z3 rfl (by kernel_rfl) rfl ?_; rintro W2 ⟨k1, k2, k3⟩; have hF := hB5.trans (k3 _ (Nat.le_refl _)); clear z3 hB5 k2 k3))
  have c1 := cell_at k1
  exact bodyPost_ret (by simp [results, Tryz.results59, go_sem, Act.put, c1] <;> rfl) rfl ⟨rfl, hF⟩
/-- corner, of any text. -/
theorem corner_any (t : Bs) (ht : t.length ≤ 1100000) :
    (∃ p : Nd, nodeP t = some p ∧ Hd (∀ w, Vars w → Calls Tryz.prog 59 #[.string (bs t)] w fun e w' => e = .returned (ndV p) ∧ Below w.heap.size w w')) ∨
    (nodeP t = none ∧ Hd (∀ w : World, Vars w → Calls Tryz.prog 59 #[.string (bs t)] w fun e w' => e = .panicked [{ v := .iface 31 (.int .i64 190), recovered := false }] ∧ Below w.heap.size w w')) := by
  cases hc : cutC 32 t with
  | none =>
    refine .inr ⟨nodeP_none fun p _ he => cutC_none hc ?_, ⟨fun w hv => corner_n1 t ht hc w hv⟩⟩
    rw [he]
    unfold nodeL
    rw [node_list]
    simp
  | some q =>
    obtain ⟨a, r⟩ := q
    obtain ⟨e, hn⟩ := cutC_some hc
    have hla : a.length ≤ 1100000 := by rw [e] at ht; simp at ht; omega
    have hlr : r.length ≤ 1100000 := by rw [e] at ht; simp at ht; omega
    have parts : ∀ p : Nd, nodeB p.1 p.2 = true → t = nodeL p → bs a = itS p.1 ∧ bs r = itS p.2 := fun p _ he => by
      unfold nodeL at he
      rw [node_list, e] at he
      obtain ⟨e1, e2⟩ := join_inj 32 _ _ _ _ he hn (itoa_no _ 32 (by decide))
      exact ⟨(itS_of (by simpa using e1)), (itS_of (by simpa using e2))⟩
    rcases wnum_any (bs a) (by simp [ByteArray.size]; omega) with ⟨x, hx, ex, HX⟩ | ⟨hx, HX⟩
    · rcases wnum_any (bs r) (by simp [ByteArray.size]; omega) with ⟨y, hy, ey, HY⟩ | ⟨hy, HY⟩
      · have et : t = nodeL (x, y) := by
          unfold nodeL
          rw [node_list, e, ← itS_list, ← itS_list, ← ex, ← ey]
        cases hq : nodeB x y with
        | true => exact .inl ⟨(x, y), by rw [et]; exact nodeP_text hq, ⟨fun w hv => corner_ok t a r ht hc x y HX HY hq w hv⟩⟩
        | false =>
          refine .inr ⟨nodeP_none fun p hp he => ?_, ⟨fun w hv => corner_n4 t a r ht hc x y HX HY hq w hv⟩⟩
          obtain ⟨g1, g2⟩ := parts p hp he
          have r1 := node_range hp
          have h1 := itS_inj hx (by unfold I64 at *; omega) (ex.symm.trans g1)
          have h2 := itS_inj hy (by unfold I64 at *; omega) (ey.symm.trans g2)
          rw [← h1, ← h2, hq] at hp
          cases hp
      · refine .inr ⟨nodeP_none fun p hp he => ?_, ⟨fun w hv => corner_n3 t a r ht hc x HX HY w hv⟩⟩
        have r1 := node_range hp
        exact hy p.2 (by unfold I64; omega) (parts p hp he).2
    · refine .inr ⟨nodeP_none fun p hp he => ?_, ⟨fun w hv => corner_n2 t a r ht hc HX w hv⟩⟩
      have r1 := node_range hp
      exact hx p.1 (by unfold I64; omega) (parts p hp he).1
theorem wr_one {w w1 : World} {b : Nat} {v v' : Value} {T : TypeId} (h : w.heap[b]? = some (.cells #[v] T (0, 0))) (hb : Below w.heap.size w w1) : Wr b #[v'] T w (w1.setCell ⟨b, 0, none⟩ v') :=
  ⟨by simpa using heap_set (heap_below hb h) 0 v', fun k o hk ho => heap_set_other (heap_below hb ho) hk _, fun n hn => (hb.mono (by have := lt_of_block h; omega)).trans ((Below.refl n w1).setCell (p := ⟨b, 0, none⟩) hn _)⟩
set_option maxRecDepth 20000 in
set_option maxHeartbeats 2000000 in
theorem until_ok (b : Nat) (t a r : Bs) (ht : t.length ≤ 1100000) (hc : cutC 41 t = some (a, r)) (w : World) (hV : Vars w) (hb : w.heap[b]? = some (.cells #[.string (bs t)] 66 (0, 0))) :
    Calls Tryz.prog 57 #[.pointer (some ⟨b, 0, none⟩)] w fun e w' => e = .returned (.string (bs a)) ∧ Wr b #[.string (bs r)] 66 w w' := by
  have HC := wcut_ok hc ht
  have HV := Hd.mk hV
  have HB := Hd.mk hb
  have c0 := cell_at hb
  clear ht hc hV hb
  go_enter Tryz.func57, Tryz.ntmps57
  go_wp2_with fail
  refine (HC.out _ HV.out).mono ?_
  rintro e w1 ⟨rfl, hB⟩
  have z0 := heap_below hB HB.out
  have HB1 := Hd.mk hB
  clear c0 hB HC
  have c0 := cell_at z0
  have f0 := frozen_at z0
  go_wp2_with (go_at_call 28; refine (wkt_must_ok _ _).mono ?_; rintro e w4 ⟨rfl, rfl⟩)
  go_ret
  exact ⟨rfl, wr_one HB.out HB1.out⟩
set_option maxRecDepth 20000 in
set_option maxHeartbeats 2000000 in
theorem until_no (b : Nat) (t : Bs) (ht : t.length ≤ 1100000) (hc : cutC 41 t = none) (w : World) (hV : Vars w) (hb : w.heap[b]? = some (.cells #[.string (bs t)] 66 (0, 0))) :
    Calls Tryz.prog 57 #[.pointer (some ⟨b, 0, none⟩)] w fun e w' => e = .panicked [{ v := .iface 31 (.int .i64 190), recovered := false }] ∧ Below w.heap.size w w' := by
  have HC := wcut_no hc ht
  have HV := Hd.mk hV
  have c0 := cell_at hb
  clear ht hc hV hb
  go_enter Tryz.func57, Tryz.ntmps57
  go_wp2_with fail
  refine (HC.out _ HV.out).mono ?_
  rintro e w1 ⟨rfl, hB⟩
  clear c0 HC
  go_wp2_with (go_at_call 28; refine (wkt_must_no _ _).mono ?_; rintro e w4 ⟨rfl, rfl⟩)
  exact ⟨rfl, rfl, hB⟩
/-- The first word with which a text begins, and what is behind it. -/
def eatP : List Bs → Bs → Option (Bs × Bs)
  | [], _ => none
  | p :: ws, t => match behind p t with
    | some r => some (p, r)
    | none => eatP ws t
theorem prefix_behind : ∀ (p t : Bs), p.isPrefixOf t = (behind p t).isSome ∧ (∀ r, behind p t = some r → t.drop p.length = r)
  | [], t => by simp [behind]
  | _ :: _, [] => by simp [behind]
  | a :: p, b :: t => by
    have h := prefix_behind p t
    by_cases hab : a = b
    · subst hab
      simp only [behind, if_pos, List.isPrefixOf, beq_self_eq_true, Bool.true_and, List.length_cons, List.drop_succ_cons]
      exact h
    · simp [behind, hab, List.isPrefixOf]
theorem wpre_any (t p : Bs) (w : World) : Calls Tryz.prog 60 #[.string (bs t), .string (bs p)] w fun e w' => (match behind p t with
    | some r => e = .returned (.tuple #[.string (bs r), .bool true])
    | none => e = .returned (.tuple #[.string (bs t), .bool false])) ∧ w' = w := by
  refine (sh_strings_CutPrefix (bs t) (bs p) w).mono ?_
  rintro e w' ⟨rfl, rfl⟩
  refine ⟨?_, rfl⟩
  obtain ⟨h1, h2⟩ := prefix_behind p t
  cases hb : behind p t with
  | none =>
    rw [hb] at h1
    simp [Lib.hasPrefix, Lib.trimPrefix, h1]
  | some r =>
    rw [hb] at h1
    simp [Lib.hasPrefix, Lib.trimPrefix, h1, h2 r hb]
set_option maxRecDepth 20000 in
set_option maxHeartbeats 2000000 in
theorem eat_any (b d c : Nat) (ws : List Bs) (t : Bs) (w : World) (hws : ws.length ≤ 100) (hb : w.heap[b]? = some (.cells #[.string (bs t)] 66 (0, 0)))
    (hd : ∀ j p, ws[j]? = some p → w.cell? ⟨d, j, none⟩ = some (.string (bs p))) :
    Calls Tryz.prog 31 #[.pointer (some ⟨b, 0, none⟩), .slice (some ⟨d, 0, none⟩) ws.length c] w fun e w' =>
      (∃ p r, eatP ws t = some (p, r) ∧ e = .returned (.string (bs p)) ∧ Wr b #[.string (bs r)] 66 w w') ∨ (eatP ws t = none ∧ e = .panicked [{ v := .iface 31 (.int .i64 190), recovered := false }] ∧ w' = w) := by
  have HB := Hd.mk hb
  have HD := Hd.mk hd
  have c0 := cell_at hb
  have f0 := frozen_at hb
  clear hb hd
  go_enter Tryz.func31, Tryz.ntmps31
  go_wp2
  go_loopw [11] (fun iv wr => ∃ k : Nat, iv = .int .i64 k ∧ k ≤ ws.length ∧ Hd (eatP (ws.drop k) t = eatP ws t) ∧ wr = w) (fun iv _ => 100 - (intOf iv).toNat)
  case atStart => exact ⟨0, rfl, Nat.zero_le _, ⟨rfl⟩, rfl⟩
  case round =>
    obtain ⟨k, rfl, hk, HE, rfl⟩ := hrel
    by_cases hlt : k < ws.length
    · have hd1 : decide ((k : Int) < (ws.length : Int)) = true := by simp; omega
      have hd2 : decide (k < ws.length) = true := by simp; omega
      obtain ⟨p, hp⟩ : ∃ p, ws[k]? = some p := ⟨_, List.getElem?_eq_getElem hlt⟩
      have hcp := HD.out k p hp
      have hdr : ws.drop k = p :: ws.drop (k + 1) := by
        rw [List.drop_eq_getElem_cons hlt]
        congr 1
        exact (List.getElem?_eq_some_iff.1 hp).2
      have HE2 : Hd (eatP (p :: ws.drop (k + 1)) t = eatP ws t) := ⟨by rw [← hdr]; exact HE.out⟩
      clear hp hdr HE
      go_wp2_with fail
      cases hbt : behind p t with
      | some r =>
        have HR : Hd (eatP ws t = some (p, r)) := ⟨by rw [← HE2.out]; simp [eatP, hbt]⟩
        have HC := Hd.mk (wpre_any t p wr)
        rw [hbt] at HC
        clear hbt HE2
        refine HC.out.mono ?_
        rintro e w1 ⟨rfl, rfl⟩
        go_wp2
        go_ret
        exact .inl ⟨p, r, HR.out, rfl, wr_one HB.out (Below.refl _ _)⟩
      | none =>
        have HR : Hd (eatP (ws.drop (k + 1)) t = eatP ws t) := ⟨by rw [← HE2.out]; simp [eatP, hbt]⟩
        have HC := Hd.mk (wpre_any t p wr)
        rw [hbt] at HC
        clear hbt HE2
        refine HC.out.mono ?_
        rintro e w1 ⟨rfl, rfl⟩
        go_wp2
        go_roundw
        case rel => exact ⟨k + 1, by go_num, by omega, HR, trivial⟩
        case measure => simp [intOf]; omega
    · have hd1 : decide ((k : Int) < (ws.length : Int)) = false := by simp; omega
      obtain rfl : k = ws.length := by omega
      have hn : Hd (eatP ws t = none) := ⟨by rw [← HE.out]; simp [eatP]⟩
      clear HE
      go_wp2
      exact ⟨rfl, .inr ⟨hn.out, rfl, rfl⟩⟩
end Go.Proofs.YtfchmikbebdflaaGreatDoor
