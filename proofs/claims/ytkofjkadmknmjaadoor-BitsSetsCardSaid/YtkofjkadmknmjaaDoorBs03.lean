/-
  Lemmas (walks and plain laws), in one text.
-/
import Derived.Test.YtkofjkadmknmjaaDoorBs02
import Derived.Test.YtkofjkadmknmjaaDoorRows
import Derived.WalkKit
import Derived.WalkSpells
import Derived.WalkLawsBesides
import Derived.Lib.Hide
import Derived.Deep.QuietTactic
import Derived.BigQuiet
import Derived.Maps.AppendAt
import Derived.WalkSmall
import Derived.ProofKit
import Derived.OpenShut
import Derived.JoinedCond
import Derived.Deep.Slices
import Derived.Deep.Fields
import Derived.Carry
import Derived.HandedShaped
import Derived.Shelf.Small.Wraps
import Derived.Shelf.Utf8.RuneCount
import Derived.Shelf.Strconv.Itoa0
import Derived.Shelf.Strconv.Itoa1
import Derived.Shelf.LaysM
import Derived.Shelf.Strconv.Itoa2
import Derived.Shelf.Strconv.Itoa3
import Derived.Shelf.Strings.Search1
import Derived.Shelf.Strings.Search2
import Derived.Shelf.Strings.Search3
import Derived.Shelf.Strings.Count
import Derived.Shelf.Strings.Shaped
import Derived.Shelf.Strings.Prefix
import Derived.Shelf.Strings.Split
import Derived.Shelf.Strings.SplitShaped
import Derived.Shelf.Unicode.DecodeSlow
import Derived.Test.YtkofjkadmknmjaaDoorProg
import Derived.Deep.AppendSrc
import Derived.Lib.AppendStr
import Derived.Laws.BytesArg
import Derived.Lib.AppendIntMem
import Derived.Lib.ItoaLen
import Derived.Lib.TrailingZeros
import Derived.Lib.SplitLaws
import Derived.Lib.ItoaNum
import Derived.Shelf.Strings.PiecesUse
import Derived.Shelf.Spec.TrailingZeros
import Derived.RangeFuncNested
import Derived.RangeFuncBound
import Derived.RangeFuncCalls
import Derived.RangeFuncLeaves
import Derived.Shelf.Abstract
import Derived.Shelf.RegionOpen
import Derived.OwnWalkIn
import Derived.TacticsInMore
import Derived.LoopNIn
import Derived.LoopIn
import Derived.Test.YtkofjkadmknmjaaDoorTie
import Derived.Lib.LaidTab
import Derived.LaidMore
import Derived.Lay
import Derived.Stop.LaidErr
import Derived.SevenTiedAt
import Derived.Test.YtkofjkadmknmjaaDoorCards
import Derived.StillTail
import Derived.OrdersIn
import Derived.ControlIn
import Derived.Lib.BitFns
import Derived.Deep.CutBlock
import Derived.Deep.DeepCutAuto
import Derived.Laws.IdiomStrings
import Derived.Outline
import Derived.IntWalk
import Derived.Lib.Tables
namespace Go.Proofs.YtkofjkadmknmjaaDoor

/-! The decimal numeral of the library. -/
theorem decDigits_tens (n : Nat) : Go.Lib.decDigits n = tens n := by
  induction n using Nat.strongRecOn with
  | _ n ih =>
    unfold Go.Lib.decDigits
    by_cases h : n < 10
    · rw [dif_pos h, tens_lt h]
    · rw [dif_neg h, tens_ge h, ih (n / 10) (by omega)]
theorem itoa_nat (n : Nat) : Go.Lib.itoa (n : Int) = tens n := by
  unfold Go.Lib.itoa
  rw [if_neg (by omega), decDigits_tens, Int.toNat_natCast]
/-! Texts cut at a byte. -/
def consHead (p : List UInt8) : List (List UInt8) → List (List UInt8)
  | [] => [p]
  | q :: r => (p ++ q) :: r
def cuts (c : UInt8) : List UInt8 → List (List UInt8)
  | [] => [[]]
  | x :: s => if x = c then [] :: cuts c s else consHead [x] (cuts c s)
def joinC (c : UInt8) : List (List UInt8) → List UInt8
  | [] => []
  | [p] => p
  | p :: q :: r => p ++ c :: joinC c (q :: r)
theorem cuts_ne (c : UInt8) (s : List UInt8) : cuts c s ≠ [] := by
  cases s with
  | nil => simp [cuts]
  | cons x s =>
    unfold cuts
    split
    · simp
    · cases cuts c s <;> simp [consHead]
theorem consHead_two (p q : List UInt8) (l : List (List UInt8)) (h : l ≠ []) : consHead p (consHead q l) = consHead (p ++ q) l := by
  cases l with
  | nil => exact absurd rfl h
  | cons a r => simp [consHead]
theorem consHead_nil (l : List (List UInt8)) (h : l ≠ []) : consHead [] l = l := by
  cases l with
  | nil => exact absurd rfl h
  | cons a r => simp [consHead]
theorem joinC_cons (c : UInt8) (p : List UInt8) {l : List (List UInt8)} (h : l ≠ []) : joinC c (p :: l) = p ++ c :: joinC c l := by
  cases l with
  | nil => exact absurd rfl h
  | cons a r => rfl
theorem cuts_none {c : UInt8} : ∀ {p : List UInt8}, (∀ x ∈ p, x ≠ c) → cuts c p = [p]
  | [], _ => rfl
  | x :: p, h => by
    rw [cuts, if_neg (h x (List.mem_cons_self ..)), cuts_none (fun y hy => h y (List.mem_cons_of_mem _ hy))]; rfl
theorem cuts_app {c : UInt8} (s : List UInt8) : ∀ {p : List UInt8}, (∀ x ∈ p, x ≠ c) → cuts c (p ++ c :: s) = p :: cuts c s
  | [], _ => by rw [List.nil_append, cuts, if_pos rfl]
  | x :: p, h => by
    rw [List.cons_append, cuts, if_neg (h x (List.mem_cons_self ..)), cuts_app s (fun y hy => h y (List.mem_cons_of_mem _ hy))]; rfl
theorem cuts_joinC {c : UInt8} : ∀ {l : List (List UInt8)}, l ≠ [] → (∀ p ∈ l, ∀ x ∈ p, x ≠ c) → cuts c (joinC c l) = l
  | [], h, _ => absurd rfl h
  | [p], _, h => cuts_none (h p (List.mem_cons_self ..))
  | p :: q :: r, _, h => by
    show cuts c (p ++ c :: joinC c (q :: r)) = _
    rw [cuts_app _ (h p (List.mem_cons_self ..)), cuts_joinC (by simp) (fun y hy => h y (List.mem_cons_of_mem _ hy))]
theorem joinC_flat (c : UInt8) : ∀ l : List (List UInt8), (l.flatMap fun p => c :: p).drop 1 = joinC c l
  | [] => rfl
  | [p] => by simp [joinC]
  | p :: q :: r => by
    have := joinC_flat c (q :: r)
    rw [joinC_cons c p (by simp), ← this]
    simp
/-- What is cut so far of a text, up to a place. -/
def CutAt (c : UInt8) (t : List UInt8) (ps : List (List UInt8)) (f i : Nat) : Prop := f ≤ i ∧ i ≤ t.length ∧ cuts c t = ps ++ consHead ((t.drop f).take (i - f)) (cuts c (t.drop i))
theorem CutAt.start (c : UInt8) (t : List UInt8) : CutAt c t [] 0 0 := ⟨Nat.le_refl _, Nat.zero_le _, by simp [consHead_nil _ (cuts_ne c t)]⟩
theorem CutAt.sep {c : UInt8} {t : List UInt8} {ps : List (List UInt8)} {f i : Nat} (h : CutAt c t ps f i) (hi : i < t.length) (hc : t[i] = c) : CutAt c t (ps ++ [(t.drop f).take (i - f)]) (i + 1) (i + 1) := by
  refine ⟨Nat.le_refl _, hi, ?_⟩
  rw [h.2.2, List.drop_eq_getElem_cons hi, cuts, if_pos hc, Nat.sub_self, List.take_zero, consHead_nil _ (cuts_ne _ _), List.append_assoc]
  simp [consHead]
theorem CutAt.next {c : UInt8} {t : List UInt8} {ps : List (List UInt8)} {f i : Nat} (h : CutAt c t ps f i) (hi : i < t.length) (hc : t[i] ≠ c) : CutAt c t ps f (i + 1) := by
  have h1 := h.1
  refine ⟨by omega, hi, ?_⟩
  rw [h.2.2, List.drop_eq_getElem_cons hi, cuts, if_neg hc, consHead_two _ _ _ (cuts_ne _ _)]
  congr 2
  rw [show i + 1 - f = (i - f) + 1 by omega, List.take_succ_eq_append_getElem (by rw [List.length_drop]; omega), List.getElem_drop]
  congr 3
  omega
theorem CutAt.done {c : UInt8} {t : List UInt8} {ps : List (List UInt8)} {f : Nat} (h : CutAt c t ps f t.length) : cuts c t = ps ++ [t.drop f] := by
  rw [h.2.2, List.drop_length, List.take_of_length_le (by rw [List.length_drop]; exact Nat.le_refl _)]
  simp [cuts, consHead]
theorem cuts_len (c : UInt8) : ∀ s, (cuts c s).length ≤ s.length + 1
  | [] => by simp [cuts]
  | x :: s => by
    have := cuts_len c s
    unfold cuts
    split
    · simp; exact this
    · cases h : cuts c s with
      | nil => simp [consHead]
      | cons a r => rw [h] at this; simp [consHead] at *; omega
theorem cuts_part (c : UInt8) : ∀ s, ∀ p ∈ cuts c s, p.length ≤ s.length
  | [] => by simp [cuts]
  | x :: s => by
    have ih := cuts_part c s
    intro p hp
    unfold cuts at hp
    split at hp
    · rcases List.mem_cons.1 hp with h | h
      · subst h; simp
      · have := ih p h; simp; omega
    · cases h : cuts c s with
      | nil => exact absurd h (cuts_ne c s)
      | cons a r =>
        rw [h] at hp ih
        rcases List.mem_cons.1 hp with h | h
        · subst h; have := ih a (List.mem_cons_self ..); simp; omega
        · have := ih p (List.mem_cons_of_mem _ h); simp; omega
/-- strings.Split at one byte. -/
theorem split_cuts (c : UInt8) : ∀ s, Go.Lib.split s [c] = cuts c s
  | [] => by rw [Go.Lib.split, Go.Lib.count_miss (by simp [Go.Lib.index])]; rfl
  | b :: l => by
    have ih := split_cuts c l
    unfold Go.Lib.split at ih ⊢
    by_cases h : b = c
    · subst h
      have hix : Go.Lib.index (b :: l) [b] = 0 := by rw [Go.Lib.index]; simp [List.isPrefixOf]
      rw [Go.Lib.count_cons_eq, Nat.add_comm, Go.Lib.splitK, hix, if_neg (by decide), cuts, if_pos rfl, ← ih]
      simp
    · have hp : ([c] : List UInt8).isPrefixOf (b :: l) = false := by simp [List.isPrefixOf, Ne.symm h]
      have hix : Go.Lib.index (b :: l) [c] = if Go.Lib.index l [c] == -1 then -1 else Go.Lib.index l [c] + 1 := by rw [Go.Lib.index, hp]; simp
      rw [Go.Lib.count_cons_ne b c l h, cuts, if_neg h, ← ih]
      by_cases hm : Go.Lib.index l [c] = -1
      · rw [Go.Lib.count_miss hm]; rfl
      · have hge := Go.Lib.index_ge l [c]
        obtain ⟨j, hj⟩ : ∃ j : Nat, Go.Lib.index l [c] = j := ⟨(Go.Lib.index l [c]).toNat, by omega⟩
        have hne : ¬ ((j : Int) == -1) = true := fun e => by have := beq_iff_eq.1 e; omega
        have hne1 : ¬ ((j : Int) + 1 == -1) = true := fun e => by have := beq_iff_eq.1 e; omega
        rw [hj, if_neg hne] at hix
        rw [Go.Lib.count_hit (by simp) hj, Nat.add_comm, Go.Lib.splitK, Go.Lib.splitK, hix, hj, if_neg hne, if_neg hne1]
        have e1 : ((j : Int) + 1).toNat = j + 1 := by omega
        have e2 : ((j : Int)).toNat = j := by omega
        rw [e1, e2]
        simp [consHead]
/-! Texts of sets. -/
def showB (s : Nat) : List UInt8 := if s = 0 then [45] else joinC 44 ((idx s).map tens)
def readP : List (List UInt8) → Nat → Int → Option Nat
  | [], s, _ => some s
  | p :: r, s, last => match intR p 31 with
    | none => none
    | some n => if (n : Int) ≤ last then none else readP r (s ||| 2 ^ n) n
def readB (t : List UInt8) : Option Nat := if t = [45] then some 0 else readP (cuts 44 t) 0 (-1)
def orAll (ns : List Nat) (s : Nat) : Nat := ns.foldl (fun s n => s ||| 2 ^ n) s
theorem intR_tens31 {n : Nat} (h : n < 32) : intR (tens n) 31 = some n := intR_tens (by omega) (by omega)
theorem readP_tens : ∀ {ns : List Nat} {s : Nat} {last : Int}, (∀ n ∈ ns, n < 32 ∧ last < (n : Int)) → ns.Pairwise (· < ·) → readP (ns.map tens) s last = some (orAll ns s)
  | [], _, _, _, _ => rfl
  | n :: ns, s, last, h, hs => by
    rw [List.pairwise_cons] at hs
    have h0 := h n (List.mem_cons_self ..)
    rw [List.map_cons, readP, intR_tens31 h0.1]
    simp only
    rw [if_neg (by omega), readP_tens (fun m hm => ⟨(h m (List.mem_cons_of_mem _ hm)).1, by have := hs.1 m hm; omega⟩) hs.2]; rfl
theorem idx_ne {s : Nat} (h0 : s ≠ 0) (h : s < 4294967296) : idx s ≠ [] := by rw [(idx_low h0 h).1]; simp
theorem idx_lt {s n : Nat} (h : n ∈ idx s) : n < 32 := (idx_mem.1 h).1
theorem tens_no_comma (ns : List Nat) : ∀ p ∈ ns.map tens, ∀ x ∈ p, x ≠ 44 := by
  intro p hp x hx
  obtain ⟨n, _, rfl⟩ := List.mem_map.1 hp
  have := tens_digits n x hx
  intro e
  subst e
  simp at this
theorem joinC_dash {ns : List Nat} (h : ns ≠ []) : joinC 44 (ns.map tens) ≠ [45] := by
  cases ns with
  | nil => exact absurd rfl h
  | cons n ns =>
    have hne := tens_ne n
    have hd := tens_digits n
    cases ht : tens n with
    | nil => exact absurd ht hne
    | cons x r =>
      have hx := hd x (by rw [ht]; exact List.mem_cons_self ..)
      have : ∃ q, joinC 44 ((n :: ns).map tens) = x :: q := by
        rw [List.map_cons, ht]
        cases ns with
        | nil => exact ⟨r, rfl⟩
        | cons m ns => exact ⟨r ++ 44 :: joinC 44 (tens m :: ns.map tens), rfl⟩
      obtain ⟨q, hq⟩ := this
      rw [hq]
      intro e
      injection e with e _
      subst e
      simp at hx
/-- A set is read of its text. -/
theorem readB_show {s : Nat} (h : s < 4294967296) : readB (showB s) = some s := by
  unfold readB showB
  by_cases h0 : s = 0
  · rw [if_pos h0, if_pos rfl, h0]
  · have hn := idx_ne h0 h
    rw [if_neg h0, if_neg (joinC_dash hn), cuts_joinC (by simpa using hn) (tens_no_comma _), readP_tens (fun n hn => ⟨idx_lt hn, by omega⟩) (idx_sorted s)]
    exact congrArg some (ofL_idx h)
/-! Numbers are read of their texts. -/
end Go.Proofs.YtkofjkadmknmjaaDoor
namespace Go.Proofs.YtkofjkadmknmjaaDoor
open Go.RowKit

/-- internal/bytealg.MaxLen holds some number. -/
def MaxV (w : World) : Prop := ∃ m, w.cell? ⟨1, 0, none⟩ = some (.int .i64 m)
theorem MaxV.of {w : World} (h : w.ShapedOpen Tryd.prog) : MaxV w := Tryd.laysM143.s1_3 w h
theorem MaxV.below {w w' : World} (h : MaxV w) (hb : Below w.heap.size w w') : MaxV w' := by
  obtain ⟨m, hm⟩ := h
  exact ⟨m, (hb.cell (p := ⟨_, 0, none⟩) (World.block_lt_of_cell? w _ hm)).trans hm⟩
/-- The call hands back a new slice that reads as l. -/
def RetIn {α : Type} (k : Nat) (cs : α → List Value) (w : World) (l : List α) (e : Ending) (w' : World) : Prop :=
  ∃ A c, e = .returned (.slice A l.length c) ∧ In k cs w' A c l ∧ Below w.heap.size w w'
theorem splitB_cuts (t : List UInt8) (c : UInt8) : Lib.splitB (str [c]) 0 (Lib.countB (str t) (str [c])) (str t) = (cuts c t).map str := by
  have h := Lib.splitB_data (str [c]) 0 (Lib.countB (str t) (str [c])) (str t)
  have h2 : Lib.splitK (str [c]).data.toList 0 (Lib.countB (str t) (str [c])) (str t).data.toList = cuts c t := split_cuts c t
  rw [h2] at h
  rw [← h, List.map_map]
  conv => lhs; rw [← List.map_id (Lib.splitB (str [c]) 0 (Lib.countB (str t) (str [c])) (str t))]
  exact List.map_congr_left fun x _ => str_of x
theorem c_Split (t : List UInt8) (c : UInt8) (w : World) (hM : MaxV w) (ht : t.length < 4294967281) : Calls Tryd.prog 77 #[.string (str t), .string (str [c])] w (RetIn 1 sc w (cuts c t)) := by
  obtain ⟨m, hm⟩ := hM
  have hlen : Lib.countB (str t) (str [c]) + 1 = (cuts c t).length := by
    have := Lib.splitB_all (str [c]) (by simp) 0 _ (str t) rfl
    rw [splitB_cuts, List.length_map] at this
    exact this.symm
  have hcl := cuts_len c t
  refine (Tryd.strings_Split (str t) (str [c]) m w (by rw [str_size]; exact ht) hm (by simp)).mono ?_
  rintro e w' ⟨he, hw⟩
  rw [splitB_cuts] at hw
  rw [hlen] at he
  refine ⟨_, _, he, ⟨Nat.le_refl _, by omega, by omega, .inr ⟨_, 0, rfl, by rw [hw, World.size_alloc]; exact Nat.lt_succ_self _, ?_⟩⟩, by rw [hw]; exact (Below.refl _ _).alloc (Nat.le_refl _) _⟩
  intro i hi j u hu
  have hj : j < 1 := (List.getElem?_eq_some_iff.1 hu).1
  have h0 : j = 0 := by omega
  subst h0
  simp only [sc, List.getElem?_cons_zero, Option.some.injEq] at hu
  rw [hw, ← hu, show 0 + i * 1 + 0 = i by omega]
  exact Lib.pieces_cell_at w _ _ i _ (by rw [List.getElem?_map, List.getElem?_eq_getElem hi]; rfl)
end Go.Proofs.YtkofjkadmknmjaaDoor
namespace Go.Proofs.YtkofjkadmknmjaaDoor
open Go.RowKit

/-! Lists of numbers. -/
def ic (n : Int) : List Value := [.int .i64 n]
theorem ic_len (n : Int) : (ic n).length = 1 := rfl
abbrev InI := In 1 ic
/-! Bits. -/
theorem and_u32 (a b : Nat) (ha : a < 4294967296) (hb : b < 4294967296) : bits .and .u32 (a : Int) (b : Int) = ((a &&& b : Nat) : Int) := bits_and_u32_nat a b ha hb
theorem or_u32 (a b : Nat) (ha : a < 4294967296) (hb : b < 4294967296) : bits .or .u32 (a : Int) (b : Int) = ((a ||| b : Nat) : Int) := by
  have hx : a ||| b < 2 ^ 32 := Nat.or_lt_two_pow (by omega) (by omega)
  have h1 : (BitVec.ofInt 32 (a : Int)).toNat = a := by
    rw [BitVec.ofInt_natCast, BitVec.toNat_ofNat]; exact Nat.mod_eq_of_lt (by omega)
  have h2 : (BitVec.ofInt 32 (b : Int)).toNat = b := by
    rw [BitVec.ofInt_natCast, BitVec.toNat_ofNat]; exact Nat.mod_eq_of_lt (by omega)
  show IntKind.u32.wrap ((BitVec.ofInt 32 (a : Int) ||| BitVec.ofInt 32 (b : Int)).toNat : Int) = _
  rw [BitVec.toNat_or, h1, h2, wrap_u32']
  omega
/-- A number's bit. -/
def bitN (n : Int) : Nat := if 0 ≤ n ∧ n ≤ 31 then 2 ^ n.toNat else 0
theorem bitN_nat {n : Nat} (h : n ≤ 31) : bitN n = 2 ^ n := by unfold bitN; rw [if_pos (by omega)]; rfl
theorem bitN_lt (n : Int) : bitN n < 4294967296 := by
  unfold bitN; split
  · have : (2 : Nat) ^ n.toNat < 2 ^ 32 := Nat.pow_lt_pow_right (by omega) (by omega)
    omega
  · omega
def maskOf (l : List Int) : Nat := l.foldl (fun s n => s ||| bitN n) 0
theorem maskOf_snoc (l : List Int) (n : Int) : maskOf (l ++ [n]) = maskOf l ||| bitN n := by unfold maskOf; rw [List.foldl_append]; rfl
theorem maskOf_lt (l : List Int) : maskOf l < 4294967296 := by
  rcases snoc_cases l with rfl | ⟨r, t, rfl⟩
  · decide
  · rw [maskOf_snoc]
    have h1 := maskOf_lt r
    have h2 := bitN_lt t
    have : maskOf r ||| bitN t < 2 ^ 32 := Nat.or_lt_two_pow (by omega) (by omega)
    omega
termination_by l.length
decreasing_by simp_all

theorem andNot_u32 (a b : Nat) (ha : a < 4294967296) (hb : b < 4294967296) : bits .andNot .u32 (a : Int) (b : Int) = ((a &&& (4294967295 - b) : Nat) : Int) := by
  have hx : a &&& (4294967295 - b) < 2 ^ 32 := Nat.and_lt_two_pow _ (by omega)
  have h1 : (BitVec.ofInt 32 (a : Int)).toNat = a := by
    rw [BitVec.ofInt_natCast, BitVec.toNat_ofNat]; exact Nat.mod_eq_of_lt (by omega)
  have h2 : (BitVec.ofInt 32 (b : Int)).toNat = b := by
    rw [BitVec.ofInt_natCast, BitVec.toNat_ofNat]; exact Nat.mod_eq_of_lt (by omega)
  show IntKind.u32.wrap ((BitVec.ofInt 32 (a : Int) &&& ~~~ BitVec.ofInt 32 (b : Int)).toNat : Int) = _
  have e : (2 : Nat) ^ 32 - 1 - b = 4294967295 - b := rfl
  rw [BitVec.toNat_and, BitVec.toNat_not, h1, h2, wrap_u32', e]
  omega
theorem has_div (m n : Nat) : m.testBit n = decide (m / 2 ^ n % 2 = 1) := Nat.testBit_eq_decide_div_mod_eq

/-! The program's. -/
set_option maxHeartbeats 400000 in
theorem c_bits_bit (n : Nat) (w : World) (hn : n ≤ 31) : Calls Tryd.prog 78 #[.int .i64 n] w (RetV w (.int .u32 (bitN n))) := by
  have H : Hid (bitN n = 2 ^ n) := bitN_nat hn
  have h0 : (decide ((n : Int) < 0)) = false := by simp
  have h31 : (decide ((31 : Int) < n)) = false := by simp; omega
  go_enter Tryd.func78, Tryd.ntmps78
  go_wp2
  go_ret
  refine RetV.int ?_ (by repeat (first | exact Below.refl _ _ | refine Below.drew ?_ | refine Below.alloc ?_ (by first | omega | (simp; done) | (simp; omega)) _ | refine Below.setCell ?_ (by first | omega | (simp; done) | (simp; omega)) _ | refine Below.trans ?_ (Below.mono (by assumption) (by first | omega | (simp; done) | (simp; omega)))))
  rw [H.out]
  have hp : (2 : Nat) ^ n < 2 ^ 32 := Nat.pow_lt_pow_right (by omega) (by omega)
  have e : (2 : Int) ^ n = ((2 ^ n : Nat) : Int) := by simp
  rw [e]
  generalize (2 : Nat) ^ n = q at hp ⊢
  exact Int.emod_eq_of_lt (Int.natCast_nonneg _) (by omega)
/-! The reference's. -/
set_option maxHeartbeats 400000 in
theorem c_ref03_Has (m n : Nat) (hm : m < 4294967296) (hn : n ≤ 31) (w : World) : Calls Tryd.prog 40 #[.int .u32 m, .int .i64 n] w (RetV w (.bool (m.testBit n))) := by
  have h0 : (decide ((n : Int) < 0)) = false := by simp
  have h31 : (decide ((31 : Int) < n)) = false := by simp; omega
  have hd0 : m / 2 ^ 0 = m := by simp
  go_enter Tryd.func40, Tryd.ntmps40
  go_wp2
  go_loop [0, 5] (fun s i => ∃ k : Nat, k ≤ n ∧ i = .int .i64 k ∧ s = .int .u32 (m / 2 ^ k : Nat)) (fun _ i => n - (intOf i).toNat)
  case atStart => exact ⟨0, Nat.zero_le _, rfl, by rw [hd0]⟩
  case round =>
    obtain ⟨k, hk, rfl, rfl⟩ := hrel
    clear hd0
    have hle : m / 2 ^ k ≤ m := Nat.div_le_self _ _
    have hle' : ((m / 2 ^ k : Nat) : Int) ≤ 4294967295 := by omega
    by_cases hlt : k < n
    · have H := Lib.hid (show m / 2 ^ (k + 1) = m / 2 ^ k / 2 by rw [Nat.pow_succ, Nat.div_div_eq_div_mul])
      obtain ⟨q, hq⟩ : ∃ q, q = m / 2 ^ k := ⟨_, rfl⟩
      rw [← hq] at hle hle'
      have Q := Lib.hid hq
      rw [← hq]
      clear hq
      go_wp2
      go_round
      case rel => exact ⟨k + 1, by omega, by go_num, by rw [H.out, ← Q.out]; first | rfl | (congr 1; omega)⟩
      case measure => simp [intOf]; omega
    · have : k = n := by omega
      subst this
      have H := Lib.hid (has_div m k)
      obtain ⟨q, hq⟩ : ∃ q, q = m / 2 ^ k := ⟨_, rfl⟩
      rw [← hq] at hle hle'
      have Q := Lib.hid hq
      rw [← hq]
      clear hq
      go_wp2
      go_ret
      refine RetV.bool ?_ (by repeat (first | exact Below.refl _ _ | refine Below.drew ?_ | refine Below.alloc ?_ (by first | omega | (simp; done) | (simp; omega)) _ | refine Below.setCell ?_ (by first | omega | (simp; done) | (simp; omega)) _ | refine Below.trans ?_ (Below.mono (by assumption) (by first | omega | (simp; done) | (simp; omega)))))
      rw [H.out, ← Q.out]
      rw [Bool.eq_iff_iff]; simp; try omega
set_option maxHeartbeats 400000 in
theorem c_ref03_One (n : Nat) (hn : n ≤ 31) (w : World) : Calls Tryd.prog 81 #[.int .i64 n] w (RetV w (.int .u32 ((2 ^ n : Nat) : Int))) := by
  have h0 : (decide ((n : Int) < 0)) = false := by simp
  have h31 : (decide ((31 : Int) < n)) = false := by simp; omega
  go_enter Tryd.func81, Tryd.ntmps81
  go_wp2
  go_loop [3, 4] (fun s i => ∃ k : Nat, k ≤ n ∧ i = .int .i64 k ∧ s = .int .u32 (2 ^ k : Nat)) (fun _ i => n - (intOf i).toNat)
  case atStart => exact ⟨0, Nat.zero_le _, rfl, rfl⟩
  case round =>
    obtain ⟨k, hk, rfl, rfl⟩ := hrel
    by_cases hlt : k < n
    · have H := Lib.hid (show 2 ^ (k + 1) = 2 ^ k * 2 from Nat.pow_succ ..)
      have hp : (2 : Nat) ^ (k + 1) ≤ 2 ^ 31 := Nat.pow_le_pow_right (by omega) (by omega)
      obtain ⟨q, hq⟩ : ∃ q : Nat, q = 2 ^ k := ⟨_, rfl⟩
      have hq2 : (q : Int) * 2 ≤ 2147483648 := by rw [H.out, ← hq] at hp; omega
      have Q := Lib.hid hq
      rw [← hq]
      clear hq hp
      go_wp2
      go_round
      case rel => exact ⟨k + 1, by omega, by go_num, by rw [H.out, ← Q.out]; first | rfl | (congr 1; omega)⟩
      case measure => simp [intOf]; omega
    · have : k = n := by omega
      subst this
      obtain ⟨q, hq⟩ : ∃ q : Nat, q = 2 ^ k := ⟨_, rfl⟩
      have Q := Lib.hid hq
      rw [← hq]
      clear hq
      go_wp2
      go_ret
      exact RetV.int (show (q : Int) = ((2 ^ k : Nat) : Int) by rw [Q.out]) (by repeat (first | exact Below.refl _ _ | refine Below.drew ?_ | refine Below.alloc ?_ (by first | omega | (simp; done) | (simp; omega)) _ | refine Below.setCell ?_ (by first | omega | (simp; done) | (simp; omega)) _ | refine Below.trans ?_ (Below.mono (by assumption) (by first | omega | (simp; done) | (simp; omega)))))
end Go.Proofs.YtkofjkadmknmjaaDoor
namespace Go.Proofs.YtkofjkadmknmjaaDoor
open Go.RowKit

/-- What is left, and the first error. -/
structure Rd where
  s : List UInt8
  e : Int
deriving DecidableEq

/-! A number off bytes: its error, its value, how many bytes it has. -/
def nxE : Nat → Bool → List UInt8 → Int
  | 0, _, _ => 3
  | _ + 1, _, [] => 2
  | f + 1, first, c :: s => if 128 ≤ c.toNat then nxE f false s else if c.toNat = 0 ∧ first = false then 3 else 0
def nxV : Nat → List UInt8 → Nat
  | 0, _ => 0
  | _ + 1, [] => 0
  | f + 1, c :: s => if 128 ≤ c.toNat then c.toNat % 128 + 128 * nxV f s else c.toNat
def nxK : Nat → List UInt8 → Nat
  | 0, _ => 0
  | _ + 1, [] => 0
  | f + 1, c :: s => if 128 ≤ c.toNat then nxK f s + 1 else 1
@[irreducible] def nErr (s : List UInt8) (most : Int) : Int := if nxE 6 true s = 0 then (if 1099511627776 < nxV 6 s ∨ most < (nxV 6 s : Int) then 4 else 0) else nxE 6 true s
@[irreducible] def nVal (s : List UInt8) (most : Int) : Int := if nErr s most = 0 then (nxV 6 s : Int) else 0
@[irreducible] def nLen (s : List UInt8) (most : Int) : Nat := if nErr s most = 0 then nxK 6 s else 0
/-! What the readers' calls answer, and what is left then. -/
/-! A number's bytes are read as it. -/
/-! What is read as a number has just a number's bytes. -/
/-! How the loops over a number's bytes go. -/
def Peek (s : List UInt8) (k acc : Nat) : Prop :=
  k ≤ 6 ∧ k ≤ s.length ∧ acc < 128 ^ k ∧ nxE 6 true s = nxE (6 - k) (decide (k = 0)) (s.drop k) ∧ nxV 6 s = acc + 128 ^ k * nxV (6 - k) (s.drop k) ∧ nxK 6 s = k + nxK (6 - k) (s.drop k) ∧
    ∀ j c, j < k → s[j]? = some c → 128 ≤ c.toNat
section
variable {s : List UInt8} {k acc : Nat}
theorem Peek.start (s : List UInt8) : Peek s 0 0 := ⟨by omega, by omega, by simp, by simp, by simp, by simp, fun j c h => by omega⟩
theorem Peek.next (h : Peek s k acc) (hk : k < 6) (hl : k < s.length) (hc : 128 ≤ s[k].toNat) : Peek s (k + 1) (acc + s[k].toNat % 128 * 128 ^ k) := by
  obtain ⟨_, _, h3, h4, h5, h6, h7⟩ := h
  rw [List.drop_eq_getElem_cons hl, show 6 - k = (6 - (k + 1)) + 1 by omega] at h4 h5 h6
  rw [nxE, if_pos hc] at h4
  rw [nxV, if_pos hc] at h5
  rw [nxK, if_pos hc] at h6
  have hm : s[k].toNat % 128 < 128 := Nat.mod_lt _ (by omega)
  refine ⟨by omega, by omega, ?_, ?_, ?_, by omega, ?_⟩
  · rw [Nat.pow_succ]
    have : s[k].toNat % 128 * 128 ^ k ≤ 127 * 128 ^ k := Nat.mul_le_mul_right _ (by omega)
    omega
  · rw [h4]; simp
  · rw [h5, Nat.mul_add, Nat.pow_succ, Nat.mul_comm (128 ^ k) (s[k].toNat % 128), Nat.mul_assoc]; omega
  · intro j c hj hjc
    rcases Nat.lt_or_ge j k with hlt | hge
    · exact h7 j c hlt hjc
    · obtain rfl : j = k := by omega
      rw [List.getElem?_eq_getElem hl] at hjc
      injection hjc with hjc
      rw [← hjc]; exact hc
theorem Peek.full (h : Peek s 6 acc) : nxE 6 true s = 3 := by rw [h.2.2.2.1]; rfl
theorem Peek.zero (h : Peek s k acc) (hk : k < 6) (hl : k < s.length) (hc : s[k].toNat = 0) (h0 : 0 < k) : nxE 6 true s = 3 := by
  rw [h.2.2.2.1, List.drop_eq_getElem_cons hl, show 6 - k = (6 - (k + 1)) + 1 by omega, nxE, if_neg (by omega), if_pos ⟨hc, by simp; omega⟩]
theorem Peek.done (h : Peek s k acc) (hk : k < 6) (hl : k < s.length) (hc : s[k].toNat < 128) (h0 : s[k].toNat ≠ 0 ∨ k = 0) : nxE 6 true s = 0 ∧ nxV 6 s = acc + s[k].toNat * 128 ^ k ∧ nxK 6 s = k + 1 := by
  obtain ⟨_, _, h3, h4, h5, h6, h7⟩ := h
  rw [List.drop_eq_getElem_cons hl, show 6 - k = (6 - (k + 1)) + 1 by omega] at h4 h5 h6
  rw [nxE, if_neg (by omega)] at h4
  rw [nxV, if_neg (by omega)] at h5
  rw [nxK, if_neg (by omega)] at h6
  refine ⟨?_, by rw [h5, Nat.mul_comm], h6⟩
  rw [h4, if_neg]
  rintro ⟨h1, h2⟩
  rcases h0 with h0 | h0
  · exact h0 h1
  · simp [h0] at h2
end
end Go.Proofs.YtkofjkadmknmjaaDoor
