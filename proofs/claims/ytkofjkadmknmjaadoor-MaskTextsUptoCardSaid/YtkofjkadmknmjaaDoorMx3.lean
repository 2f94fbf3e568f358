/-
  Lemmas (walks and plain laws), in one text.
-/
import Derived.Test.YtkofjkadmknmjaaDoorMx2
import Derived.Test.YtkofjkadmknmjaaDoorRows
import Derived.WalkKit
import Derived.WalkSpells
import Derived.WalkLawsBesides
import Derived.Lib.Hide
import Derived.Deep.QuietTactic
import Derived.BigQuiet
import Derived.Maps.AppendAt
import Derived.WalkSmall
import Derived.ProofKit
import Derived.OpenShut
import Derived.JoinedCond
import Derived.Deep.Slices
import Derived.Deep.Fields
import Derived.Carry
import Derived.HandedShaped
import Derived.Shelf.Small.Wraps
import Derived.Shelf.Utf8.RuneCount
import Derived.Shelf.Strconv.Itoa0
import Derived.Shelf.Strconv.Itoa1
import Derived.Shelf.LaysM
import Derived.Shelf.Strconv.Itoa2
import Derived.Shelf.Strconv.Itoa3
import Derived.Shelf.Strings.Search1
import Derived.Shelf.Strings.Search2
import Derived.Shelf.Strings.Search3
import Derived.Shelf.Strings.Count
import Derived.Shelf.Strings.Shaped
import Derived.Shelf.Strings.Prefix
import Derived.Shelf.Strings.Split
import Derived.Shelf.Strings.SplitShaped
import Derived.Shelf.Unicode.DecodeSlow
import Derived.Test.YtkofjkadmknmjaaDoorProg
import Derived.Deep.AppendSrc
import Derived.Lib.AppendStr
import Derived.Laws.BytesArg
import Derived.Lib.AppendIntMem
import Derived.Lib.ItoaLen
import Derived.Lib.TrailingZeros
import Derived.Lib.SplitLaws
import Derived.Lib.ItoaNum
import Derived.Shelf.Strings.PiecesUse
import Derived.Shelf.Spec.TrailingZeros
import Derived.RangeFuncNested
import Derived.RangeFuncBound
import Derived.RangeFuncCalls
import Derived.RangeFuncLeaves
import Derived.Shelf.Abstract
import Derived.Shelf.RegionOpen
import Derived.OwnWalkIn
import Derived.TacticsInMore
import Derived.LoopNIn
import Derived.LoopIn
import Derived.Test.YtkofjkadmknmjaaDoorTie
import Derived.Lib.LaidTab
import Derived.LaidMore
import Derived.Lay
import Derived.Stop.LaidErr
import Derived.SevenTiedAt
import Derived.Test.YtkofjkadmknmjaaDoorCards
import Derived.StillTail
import Derived.OrdersIn
import Derived.ControlIn
import Derived.Lib.BitFns
import Derived.Deep.CutBlock
import Derived.Deep.DeepCutAuto
import Derived.Laws.IdiomStrings
import Derived.Outline
import Derived.IntWalk
import Derived.Lib.Tables
import Derived.Lib.Strings
import Derived.Deep.DeepHandedRow
namespace Go.Proofs.YtkofjkadmknmjaaDoor

/-- The numbers of a set, rising. -/
def idx (s : Nat) : List Nat := (List.range 32).filter s.testBit
def bitsF : Nat → Nat → List Nat
  | 0, _ => []
  | f + 1, s => if s % 2 = 1 then 0 :: (bitsF f (s / 2)).map (· + 1) else (bitsF f (s / 2)).map (· + 1)
theorem bitsF_range : ∀ (f s : Nat), bitsF f s = (List.range f).filter s.testBit
  | 0, s => by simp [bitsF]
  | f + 1, s => by
    rw [bitsF, bitsF_range f, List.range_succ_eq_map, List.filter_cons, List.filter_map]
    have e : (s.testBit ∘ Nat.succ) = (s / 2).testBit := by funext i; simp [Nat.testBit_succ]
    rw [e, Nat.testBit_zero]
    by_cases h : s % 2 = 1
    · rw [if_pos h, if_pos (by simpa using h)]
    · rw [if_neg h, if_neg (by simpa using h)]
theorem idx_F (s : Nat) : idx s = bitsF 32 s := (bitsF_range 32 s).symm
theorem bitsF_zero : ∀ f, bitsF f 0 = []
  | 0 => rfl
  | f + 1 => by rw [bitsF, if_neg (by decide), bitsF_zero f]; rfl
theorem idx_zero : idx 0 = [] := by rw [idx_F, bitsF_zero]
theorem and_low (s : Nat) (_h : s ≠ 0) : (s % 2 = 1 → s &&& (s - 1) = s - 1) ∧ (s % 2 = 0 → s &&& (s - 1) = 2 * (s / 2 &&& (s / 2 - 1))) := by
  have hd : (s &&& (s - 1)) / 2 = s / 2 &&& (s - 1) / 2 := Nat.and_div_two
  have hm : (s &&& (s - 1)) % 2 = 0 := by
    rcases Nat.mod_two_eq_zero_or_one (s &&& (s - 1)) with h1 | h1
    · exact h1
    · have := Nat.and_mod_two_eq_one.1 h1
      omega
  constructor
  · intro h1
    have e : (s - 1) / 2 = s / 2 := by omega
    rw [e, Nat.and_self] at hd
    omega
  · intro h1
    have e : (s - 1) / 2 = s / 2 - 1 := by omega
    rw [e] at hd
    omega
theorem bitsF_low : ∀ (f s : Nat), s ≠ 0 → s < 2 ^ f → bitsF f s = Go.Lib.ctzFrom f s :: bitsF f (s &&& (s - 1)) ∧ (s &&& (s - 1)) < s
  | 0, s, h0, h => by simp at h; omega
  | f + 1, s, h0, h => by
    obtain ⟨h1, h2⟩ := and_low s h0
    unfold Go.Lib.ctzFrom
    by_cases hs : s % 2 = 1
    · rw [h1 hs, if_pos hs, bitsF, if_pos hs, bitsF, if_neg (by omega), show (s - 1) / 2 = s / 2 by omega]
      exact ⟨rfl, by omega⟩
    · have ht : s / 2 ≠ 0 := by omega
      obtain ⟨i1, i2⟩ := bitsF_low f (s / 2) ht (by rw [Nat.pow_succ] at h; omega)
      rw [h2 (by omega), if_neg hs, bitsF, if_neg hs, i1, bitsF, if_neg (by omega), Nat.mul_div_cancel_left _ (by omega), List.map_cons, Nat.add_comm]
      exact ⟨rfl, by omega⟩
theorem idx_low {s : Nat} (h0 : s ≠ 0) (h : s < 4294967296) : idx s = Go.Lib.ctz 32 s :: idx (s &&& (s - 1)) ∧ (s &&& (s - 1)) < s := by
  have := bitsF_low 32 s h0 h
  rw [idx_F, idx_F, Go.Lib.ctz, if_neg h0]
  exact this
theorem idx_mem {s n : Nat} : n ∈ idx s ↔ n < 32 ∧ s.testBit n = true := by unfold idx; rw [List.mem_filter, List.mem_range]
theorem idx_len (s : Nat) : (idx s).length ≤ 32 := by
  unfold idx
  exact Nat.le_trans (List.length_filter_le _ _) (by simp)
theorem idx_sorted (s : Nat) : (idx s).Pairwise (· < ·) := by
  unfold idx
  exact List.Pairwise.filter _ List.pairwise_lt_range
/-- Rising lists with the same numbers are the same. -/
theorem rising_ext : ∀ {a b : List Nat}, a.Pairwise (· < ·) → b.Pairwise (· < ·) → (∀ n, n ∈ a ↔ n ∈ b) → a = b
  | [], [], _, _, _ => rfl
  | [], y :: b, _, _, h => by have := (h y).2 (List.mem_cons_self ..); cases this
  | x :: a, [], _, _, h => by have := (h x).1 (List.mem_cons_self ..); cases this
  | x :: a, y :: b, ha, hb, h => by
    rw [List.pairwise_cons] at ha hb
    have hxy : x = y := by
      have h1 := (h x).1 (List.mem_cons_self ..)
      have h2 := (h y).2 (List.mem_cons_self ..)
      rcases List.mem_cons.1 h1 with e | e
      · exact e
      · rcases List.mem_cons.1 h2 with e' | e'
        · exact e'.symm
        · have := ha.1 _ e'
          have := hb.1 _ e
          omega
    subst hxy
    rw [rising_ext ha.2 hb.2 (fun n => ?_)]
    constructor
    · intro hn
      rcases List.mem_cons.1 ((h n).1 (List.mem_cons_of_mem _ hn)) with e | e
      · subst e; exact absurd (ha.1 _ hn) (Nat.lt_irrefl _)
      · exact e
    · intro hn
      rcases List.mem_cons.1 ((h n).2 (List.mem_cons_of_mem _ hn)) with e | e
      · subst e; exact absurd (hb.1 _ hn) (Nat.lt_irrefl _)
      · exact e
/-- The set of some numbers. -/
def ofL (l : List Nat) : Nat := l.foldl (fun s n => s ||| 2 ^ n) 0
theorem ofL_from (l : List Nat) (s n : Nat) : (l.foldl (fun s n => s ||| 2 ^ n) s).testBit n = (s.testBit n || decide (n ∈ l)) := by
  induction l generalizing s with
  | nil => simp
  | cons x l ih =>
    rw [List.foldl_cons, ih, Nat.testBit_or, Nat.testBit_two_pow]
    by_cases h : n = x
    · subst h; simp
    · have h' : ¬ x = n := fun e => h e.symm
      simp [h, h']
theorem ofL_bit (l : List Nat) (n : Nat) : (ofL l).testBit n = decide (n ∈ l) := by unfold ofL; rw [ofL_from]; simp
theorem idx_ofL {l : List Nat} (h : l.Pairwise (· < ·)) (hl : ∀ n ∈ l, n < 32) : idx (ofL l) = l := by
  refine rising_ext (idx_sorted _) h (fun n => ?_)
  rw [idx_mem, ofL_bit]
  simp only [decide_eq_true_eq]
  exact ⟨fun h => h.2, fun h => ⟨hl n h, h⟩⟩
theorem ofL_idx {s : Nat} (h : s < 4294967296) : ofL (idx s) = s := by
  refine Nat.eq_of_testBit_eq fun n => ?_
  rw [ofL_bit]
  by_cases hn : n < 32
  · cases hb : s.testBit n with
    | true => exact decide_eq_true (idx_mem.2 ⟨hn, hb⟩)
    | false => exact decide_eq_false (fun h => by rw [(idx_mem.1 h).2] at hb; cases hb)
  · rw [decide_eq_false (fun h => hn (idx_mem.1 h).1)]
    exact (Nat.testBit_lt_two_pow (Nat.lt_of_lt_of_le h (Nat.pow_le_pow_right (n := 2) (by omega) (Nat.le_of_not_lt hn)))).symm
theorem ofL_lt {l : List Nat} (h : ∀ n ∈ l, n < 32) : ofL l < 4294967296 := by
  show ofL l < 2 ^ 32
  refine Nat.lt_pow_two_of_testBit _ (fun i hi => ?_)
  rw [ofL_bit]
  exact decide_eq_false fun hm => by have := h i hm; omega
end Go.Proofs.YtkofjkadmknmjaaDoor
namespace Go.Proofs.YtkofjkadmknmjaaDoor

/-! The decimal numeral of the library. -/
theorem decDigits_tens (n : Nat) : Go.Lib.decDigits n = tens n := by
  induction n using Nat.strongRecOn with
  | _ n ih =>
    unfold Go.Lib.decDigits
    by_cases h : n < 10
    · rw [dif_pos h, tens_lt h]
    · rw [dif_neg h, tens_ge h, ih (n / 10) (by omega)]
theorem itoa_nat (n : Nat) : Go.Lib.itoa (n : Int) = tens n := by
  unfold Go.Lib.itoa
  rw [if_neg (by omega), decDigits_tens, Int.toNat_natCast]
/-! Texts cut at a byte. -/
def consHead (p : List UInt8) : List (List UInt8) → List (List UInt8)
  | [] => [p]
  | q :: r => (p ++ q) :: r
def cuts (c : UInt8) : List UInt8 → List (List UInt8)
  | [] => [[]]
  | x :: s => if x = c then [] :: cuts c s else consHead [x] (cuts c s)
def joinC (c : UInt8) : List (List UInt8) → List UInt8
  | [] => []
  | [p] => p
  | p :: q :: r => p ++ c :: joinC c (q :: r)
theorem cuts_ne (c : UInt8) (s : List UInt8) : cuts c s ≠ [] := by
  cases s with
  | nil => simp [cuts]
  | cons x s =>
    unfold cuts
    split
    · simp
    · cases cuts c s <;> simp [consHead]
theorem consHead_two (p q : List UInt8) (l : List (List UInt8)) (h : l ≠ []) : consHead p (consHead q l) = consHead (p ++ q) l := by
  cases l with
  | nil => exact absurd rfl h
  | cons a r => simp [consHead]
theorem consHead_nil (l : List (List UInt8)) (h : l ≠ []) : consHead [] l = l := by
  cases l with
  | nil => exact absurd rfl h
  | cons a r => simp [consHead]
theorem joinC_cons (c : UInt8) (p : List UInt8) {l : List (List UInt8)} (h : l ≠ []) : joinC c (p :: l) = p ++ c :: joinC c l := by
  cases l with
  | nil => exact absurd rfl h
  | cons a r => rfl
theorem joinC_head (c x : UInt8) {l : List (List UInt8)} (h : l ≠ []) : joinC c (consHead [x] l) = x :: joinC c l := by
  cases l with
  | nil => exact absurd rfl h
  | cons a r =>
    cases r with
    | nil => rfl
    | cons b r => rfl
theorem joinC_cuts (c : UInt8) : ∀ s, joinC c (cuts c s) = s
  | [] => rfl
  | x :: s => by
    unfold cuts
    split
    · rename_i h
      rw [joinC_cons c [] (cuts_ne c s), joinC_cuts c s, h]; rfl
    · rw [joinC_head c x (cuts_ne c s), joinC_cuts c s]
theorem cuts_none {c : UInt8} : ∀ {p : List UInt8}, (∀ x ∈ p, x ≠ c) → cuts c p = [p]
  | [], _ => rfl
  | x :: p, h => by
    rw [cuts, if_neg (h x (List.mem_cons_self ..)), cuts_none (fun y hy => h y (List.mem_cons_of_mem _ hy))]; rfl
theorem cuts_app {c : UInt8} (s : List UInt8) : ∀ {p : List UInt8}, (∀ x ∈ p, x ≠ c) → cuts c (p ++ c :: s) = p :: cuts c s
  | [], _ => by rw [List.nil_append, cuts, if_pos rfl]
  | x :: p, h => by
    rw [List.cons_append, cuts, if_neg (h x (List.mem_cons_self ..)), cuts_app s (fun y hy => h y (List.mem_cons_of_mem _ hy))]; rfl
theorem cuts_joinC {c : UInt8} : ∀ {l : List (List UInt8)}, l ≠ [] → (∀ p ∈ l, ∀ x ∈ p, x ≠ c) → cuts c (joinC c l) = l
  | [], h, _ => absurd rfl h
  | [p], _, h => cuts_none (h p (List.mem_cons_self ..))
  | p :: q :: r, _, h => by
    show cuts c (p ++ c :: joinC c (q :: r)) = _
    rw [cuts_app _ (h p (List.mem_cons_self ..)), cuts_joinC (by simp) (fun y hy => h y (List.mem_cons_of_mem _ hy))]
theorem joinC_snoc (c : UInt8) (p : List UInt8) : ∀ {l : List (List UInt8)}, l ≠ [] → joinC c (l ++ [p]) = joinC c l ++ c :: p
  | [], h => absurd rfl h
  | [q], _ => rfl
  | q :: r :: l, _ => by
    show q ++ c :: joinC c (r :: l ++ [p]) = (q ++ c :: joinC c (r :: l)) ++ c :: p
    rw [joinC_snoc c p (by simp)]; simp
theorem joinC_flat (c : UInt8) : ∀ l : List (List UInt8), (l.flatMap fun p => c :: p).drop 1 = joinC c l
  | [] => rfl
  | [p] => by simp [joinC]
  | p :: q :: r => by
    have := joinC_flat c (q :: r)
    rw [joinC_cons c p (by simp), ← this]
    simp
/-- What is cut so far of a text, up to a place. -/
def CutAt (c : UInt8) (t : List UInt8) (ps : List (List UInt8)) (f i : Nat) : Prop := f ≤ i ∧ i ≤ t.length ∧ cuts c t = ps ++ consHead ((t.drop f).take (i - f)) (cuts c (t.drop i))
theorem CutAt.start (c : UInt8) (t : List UInt8) : CutAt c t [] 0 0 := ⟨Nat.le_refl _, Nat.zero_le _, by simp [consHead_nil _ (cuts_ne c t)]⟩
theorem CutAt.sep {c : UInt8} {t : List UInt8} {ps : List (List UInt8)} {f i : Nat} (h : CutAt c t ps f i) (hi : i < t.length) (hc : t[i] = c) : CutAt c t (ps ++ [(t.drop f).take (i - f)]) (i + 1) (i + 1) := by
  refine ⟨Nat.le_refl _, hi, ?_⟩
  rw [h.2.2, List.drop_eq_getElem_cons hi, cuts, if_pos hc, Nat.sub_self, List.take_zero, consHead_nil _ (cuts_ne _ _), List.append_assoc]
  simp [consHead]
theorem CutAt.next {c : UInt8} {t : List UInt8} {ps : List (List UInt8)} {f i : Nat} (h : CutAt c t ps f i) (hi : i < t.length) (hc : t[i] ≠ c) : CutAt c t ps f (i + 1) := by
  have h1 := h.1
  refine ⟨by omega, hi, ?_⟩
  rw [h.2.2, List.drop_eq_getElem_cons hi, cuts, if_neg hc, consHead_two _ _ _ (cuts_ne _ _)]
  congr 2
  rw [show i + 1 - f = (i - f) + 1 by omega, List.take_succ_eq_append_getElem (by rw [List.length_drop]; omega), List.getElem_drop]
  congr 3
  omega
theorem CutAt.done {c : UInt8} {t : List UInt8} {ps : List (List UInt8)} {f : Nat} (h : CutAt c t ps f t.length) : cuts c t = ps ++ [t.drop f] := by
  rw [h.2.2, List.drop_length, List.take_of_length_le (by rw [List.length_drop]; exact Nat.le_refl _)]
  simp [cuts, consHead]
theorem cuts_len (c : UInt8) : ∀ s, (cuts c s).length ≤ s.length + 1
  | [] => by simp [cuts]
  | x :: s => by
    have := cuts_len c s
    unfold cuts
    split
    · simp; exact this
    · cases h : cuts c s with
      | nil => simp [consHead]
      | cons a r => rw [h] at this; simp [consHead] at *; omega
theorem cuts_part (c : UInt8) : ∀ s, ∀ p ∈ cuts c s, p.length ≤ s.length
  | [] => by simp [cuts]
  | x :: s => by
    have ih := cuts_part c s
    intro p hp
    unfold cuts at hp
    split at hp
    · rcases List.mem_cons.1 hp with h | h
      · subst h; simp
      · have := ih p h; simp; omega
    · cases h : cuts c s with
      | nil => exact absurd h (cuts_ne c s)
      | cons a r =>
        rw [h] at hp ih
        rcases List.mem_cons.1 hp with h | h
        · subst h; have := ih a (List.mem_cons_self ..); simp; omega
        · have := ih p (List.mem_cons_of_mem _ h); simp; omega
/-- strings.Split at one byte. -/
theorem split_cuts (c : UInt8) : ∀ s, Go.Lib.split s [c] = cuts c s
  | [] => by rw [Go.Lib.split, Go.Lib.count_miss (by simp [Go.Lib.index])]; rfl
  | b :: l => by
    have ih := split_cuts c l
    unfold Go.Lib.split at ih ⊢
    by_cases h : b = c
    · subst h
      have hix : Go.Lib.index (b :: l) [b] = 0 := by rw [Go.Lib.index]; simp [List.isPrefixOf]
      rw [Go.Lib.count_cons_eq, Nat.add_comm, Go.Lib.splitK, hix, if_neg (by decide), cuts, if_pos rfl, ← ih]
      simp
    · have hp : ([c] : List UInt8).isPrefixOf (b :: l) = false := by simp [List.isPrefixOf, Ne.symm h]
      have hix : Go.Lib.index (b :: l) [c] = if Go.Lib.index l [c] == -1 then -1 else Go.Lib.index l [c] + 1 := by rw [Go.Lib.index, hp]; simp
      rw [Go.Lib.count_cons_ne b c l h, cuts, if_neg h, ← ih]
      by_cases hm : Go.Lib.index l [c] = -1
      · rw [Go.Lib.count_miss hm]; rfl
      · have hge := Go.Lib.index_ge l [c]
        obtain ⟨j, hj⟩ : ∃ j : Nat, Go.Lib.index l [c] = j := ⟨(Go.Lib.index l [c]).toNat, by omega⟩
        have hne : ¬ ((j : Int) == -1) = true := fun e => by have := beq_iff_eq.1 e; omega
        have hne1 : ¬ ((j : Int) + 1 == -1) = true := fun e => by have := beq_iff_eq.1 e; omega
        rw [hj, if_neg hne] at hix
        rw [Go.Lib.count_hit (by simp) hj, Nat.add_comm, Go.Lib.splitK, Go.Lib.splitK, hix, hj, if_neg hne, if_neg hne1]
        have e1 : ((j : Int) + 1).toNat = j + 1 := by omega
        have e2 : ((j : Int)).toNat = j := by omega
        rw [e1, e2]
        simp [consHead]
/-! Texts of sets. -/
def showB (s : Nat) : List UInt8 := if s = 0 then [45] else joinC 44 ((idx s).map tens)
def readP : List (List UInt8) → Nat → Int → Option Nat
  | [], s, _ => some s
  | p :: r, s, last => match intR p 31 with
    | none => none
    | some n => if (n : Int) ≤ last then none else readP r (s ||| 2 ^ n) n
def readB (t : List UInt8) : Option Nat := if t = [45] then some 0 else readP (cuts 44 t) 0 (-1)
def orAll (ns : List Nat) (s : Nat) : Nat := ns.foldl (fun s n => s ||| 2 ^ n) s
theorem readP_some : ∀ {l : List (List UInt8)} {s : Nat} {last : Int} {r : Nat}, readP l s last = some r →
    ∃ ns : List Nat, l = ns.map tens ∧ (∀ n ∈ ns, n < 32 ∧ last < (n : Int)) ∧ ns.Pairwise (· < ·) ∧ r = orAll ns s
  | [], s, last, r, h => by
    simp only [readP, Option.some.injEq] at h
    exact ⟨[], rfl, by simp, List.Pairwise.nil, h.symm⟩
  | p :: l, s, last, r, h => by
    rw [readP] at h
    cases hp : intR p 31 with
    | none => rw [hp] at h; cases h
    | some n =>
      rw [hp] at h
      simp only at h
      split at h
      · cases h
      · rename_i hlast
        obtain ⟨ns, h1, h2, h3, h4⟩ := readP_some h
        obtain ⟨i1, i2, i3⟩ := tens_intR hp
        refine ⟨n :: ns, by rw [h1, i1]; rfl, ?_, ?_, h4⟩
        · intro m hm
          rcases List.mem_cons.1 hm with e | e
          · subst e; omega
          · have := h2 m e; omega
        · exact List.Pairwise.cons (fun m hm => by have := h2 m hm; omega) h3
theorem intR_tens31 {n : Nat} (h : n < 32) : intR (tens n) 31 = some n := intR_tens (by omega) (by omega)
theorem readP_tens : ∀ {ns : List Nat} {s : Nat} {last : Int}, (∀ n ∈ ns, n < 32 ∧ last < (n : Int)) → ns.Pairwise (· < ·) → readP (ns.map tens) s last = some (orAll ns s)
  | [], _, _, _, _ => rfl
  | n :: ns, s, last, h, hs => by
    rw [List.pairwise_cons] at hs
    have h0 := h n (List.mem_cons_self ..)
    rw [List.map_cons, readP, intR_tens31 h0.1]
    simp only
    rw [if_neg (by omega), readP_tens (fun m hm => ⟨(h m (List.mem_cons_of_mem _ hm)).1, by have := hs.1 m hm; omega⟩) hs.2]; rfl
theorem idx_ne {s : Nat} (h0 : s ≠ 0) (h : s < 4294967296) : idx s ≠ [] := by rw [(idx_low h0 h).1]; simp
theorem idx_lt {s n : Nat} (h : n ∈ idx s) : n < 32 := (idx_mem.1 h).1
theorem tens_no_comma (ns : List Nat) : ∀ p ∈ ns.map tens, ∀ x ∈ p, x ≠ 44 := by
  intro p hp x hx
  obtain ⟨n, _, rfl⟩ := List.mem_map.1 hp
  have := tens_digits n x hx
  intro e
  subst e
  simp at this
theorem joinC_dash {ns : List Nat} (h : ns ≠ []) : joinC 44 (ns.map tens) ≠ [45] := by
  cases ns with
  | nil => exact absurd rfl h
  | cons n ns =>
    have hne := tens_ne n
    have hd := tens_digits n
    cases ht : tens n with
    | nil => exact absurd ht hne
    | cons x r =>
      have hx := hd x (by rw [ht]; exact List.mem_cons_self ..)
      have : ∃ q, joinC 44 ((n :: ns).map tens) = x :: q := by
        rw [List.map_cons, ht]
        cases ns with
        | nil => exact ⟨r, rfl⟩
        | cons m ns => exact ⟨r ++ 44 :: joinC 44 (tens m :: ns.map tens), rfl⟩
      obtain ⟨q, hq⟩ := this
      rw [hq]
      intro e
      injection e with e _
      subst e
      simp at hx
/-- A set is read of its text. -/
theorem readB_show {s : Nat} (h : s < 4294967296) : readB (showB s) = some s := by
  unfold readB showB
  by_cases h0 : s = 0
  · rw [if_pos h0, if_pos rfl, h0]
  · have hn := idx_ne h0 h
    rw [if_neg h0, if_neg (joinC_dash hn), cuts_joinC (by simpa using hn) (tens_no_comma _), readP_tens (fun n hn => ⟨idx_lt hn, by omega⟩) (idx_sorted s)]
    exact congrArg some (ofL_idx h)
/-- What is read has just its text. -/
theorem show_readB {t : List UInt8} {s : Nat} (h : readB t = some s) : showB s = t ∧ s < 4294967296 := by
  unfold readB at h
  split at h
  · rename_i ht
    injection h with h
    subst h ht
    exact ⟨rfl, by omega⟩
  · rename_i ht
    obtain ⟨ns, h1, h2, h3, h4⟩ := readP_some h
    have hlt : ∀ n ∈ ns, n < 32 := fun n hn => (h2 n hn).1
    have hs : s = ofL ns := h4
    have hne : ns ≠ [] := by
      intro e
      subst e
      exact cuts_ne 44 t h1
    have hix : idx s = ns := by rw [hs]; exact idx_ofL h3 hlt
    have h0 : s ≠ 0 := by
      intro e
      rw [e, idx_zero] at hix
      exact hne hix.symm
    refine ⟨?_, by rw [hs]; exact ofL_lt hlt⟩
    unfold showB
    rw [if_neg h0, hix, ← h1, joinC_cuts]
/-! Numbers are read of their texts. -/
end Go.Proofs.YtkofjkadmknmjaaDoor
namespace Go.Proofs.YtkofjkadmknmjaaDoor
open Go.RowKit

/-- internal/bytealg.MaxLen holds some number. -/
def MaxV (w : World) : Prop := ∃ m, w.cell? ⟨1, 0, none⟩ = some (.int .i64 m)
theorem MaxV.of {w : World} (h : w.ShapedOpen Tryd.prog) : MaxV w := Tryd.laysM143.s1_3 w h
theorem MaxV.below {w w' : World} (h : MaxV w) (hb : Below w.heap.size w w') : MaxV w' := by
  obtain ⟨m, hm⟩ := h
  exact ⟨m, (hb.cell (p := ⟨_, 0, none⟩) (World.block_lt_of_cell? w _ hm)).trans hm⟩
/-- The call hands back a new slice that reads as l. -/
def RetIn {α : Type} (k : Nat) (cs : α → List Value) (w : World) (l : List α) (e : Ending) (w' : World) : Prop :=
  ∃ A c, e = .returned (.slice A l.length c) ∧ In k cs w' A c l ∧ Below w.heap.size w w'
theorem splitB_cuts (t : List UInt8) (c : UInt8) : Lib.splitB (str [c]) 0 (Lib.countB (str t) (str [c])) (str t) = (cuts c t).map str := by
  have h := Lib.splitB_data (str [c]) 0 (Lib.countB (str t) (str [c])) (str t)
  have h2 : Lib.splitK (str [c]).data.toList 0 (Lib.countB (str t) (str [c])) (str t).data.toList = cuts c t := split_cuts c t
  rw [h2] at h
  rw [← h, List.map_map]
  conv => lhs; rw [← List.map_id (Lib.splitB (str [c]) 0 (Lib.countB (str t) (str [c])) (str t))]
  exact List.map_congr_left fun x _ => str_of x
theorem c_Split (t : List UInt8) (c : UInt8) (w : World) (hM : MaxV w) (ht : t.length < 4294967281) : Calls Tryd.prog 77 #[.string (str t), .string (str [c])] w (RetIn 1 sc w (cuts c t)) := by
  obtain ⟨m, hm⟩ := hM
  have hlen : Lib.countB (str t) (str [c]) + 1 = (cuts c t).length := by
    have := Lib.splitB_all (str [c]) (by simp) 0 _ (str t) rfl
    rw [splitB_cuts, List.length_map] at this
    exact this.symm
  have hcl := cuts_len c t
  refine (Tryd.strings_Split (str t) (str [c]) m w (by rw [str_size]; exact ht) hm (by simp)).mono ?_
  rintro e w' ⟨he, hw⟩
  rw [splitB_cuts] at hw
  rw [hlen] at he
  refine ⟨_, _, he, ⟨Nat.le_refl _, by omega, by omega, .inr ⟨_, 0, rfl, by rw [hw, World.size_alloc]; exact Nat.lt_succ_self _, ?_⟩⟩, by rw [hw]; exact (Below.refl _ _).alloc (Nat.le_refl _) _⟩
  intro i hi j u hu
  have hj : j < 1 := (List.getElem?_eq_some_iff.1 hu).1
  have h0 : j = 0 := by omega
  subst h0
  simp only [sc, List.getElem?_cons_zero, Option.some.injEq] at hu
  rw [hw, ← hu, show 0 + i * 1 + 0 = i by omega]
  exact Lib.pieces_cell_at w _ _ i _ (by rw [List.getElem?_map, List.getElem?_eq_getElem hi]; rfl)
theorem c_CutSuffix (t p : List UInt8) (w : World) (ht : t.length ≤ 9223372036854775807) : Calls Tryd.prog 86 #[.string (str t), .string (str p)] w (RetV w (.tuple #[.string (str (Lib.trimSuffix t p)), .bool (Lib.hasSuffix t p)])) :=
  (Tryd.strings_CutSuffix (str t) (str p) w (by rw [str_size]; exact ht)).mono fun _ _ ⟨he, hw⟩ => ⟨he, by rw [hw]; exact Below.refl _ _⟩
end Go.Proofs.YtkofjkadmknmjaaDoor
