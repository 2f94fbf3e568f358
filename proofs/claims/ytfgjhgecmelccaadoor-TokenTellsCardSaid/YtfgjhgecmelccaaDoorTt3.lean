/-
  Lemmas (walks and plain laws), in one text.
-/
import Derived.Test.YtfgjhgecmelccaaDoorTt2
import Derived.Test.YtfgjhgecmelccaaDoorRows
import Derived.WalkKit
import Derived.WalkSpells
import Derived.WalkLawsBesides
import Derived.Lib.Hide
import Derived.Deep.QuietTactic
import Derived.BigQuiet
import Derived.Maps.AppendAt
import Derived.WalkSmall
import Derived.ProofKit
import Derived.OpenShut
import Derived.JoinedCond
import Derived.Deep.Slices
import Derived.Deep.Fields
import Derived.Carry
import Derived.HandedShaped
import Derived.Shelf.Strings.Builder1
import Derived.Shelf.Strings.Builder2
import Derived.Shelf.Strings.OnBuilder
import Derived.Shelf.Small.Wraps
import Derived.Shelf.Utf8.RuneCount
import Derived.Shelf.Strconv.Itoa0
import Derived.Shelf.Strconv.Itoa1
import Derived.Shelf.LaysM
import Derived.Shelf.Strconv.Itoa2
import Derived.Shelf.Strconv.Itoa3
import Derived.Shelf.Strings.Search1
import Derived.Shelf.Strings.Search2
import Derived.Shelf.Strings.Search3
import Derived.Shelf.Strings.Count
import Derived.Shelf.Strings.Shaped
import Derived.Shelf.Strings.Split
import Derived.Shelf.Strings.SplitShaped
import Derived.Shelf.Unicode.Decode
import Derived.Shelf.Strings.RuneCount
import Derived.Shelf.Strings.Explode
import Derived.Shelf.Unicode.DecodeSlow
import Derived.Test.YtfgjhgecmelccaaDoorProg
import Derived.Deep.AppendSrc
import Derived.Lib.AppendStr
import Derived.Laws.BytesArg
import Derived.Lib.AppendIntMem
import Derived.Lib.ItoaLen
import Derived.Lib.TrailingZeros
import Derived.Lib.SplitLaws
import Derived.Lib.ItoaNum
import Derived.Shelf.Strings.PiecesUse
import Derived.Shelf.Spec.TrailingZeros
import Derived.RangeFuncNested
import Derived.RangeFuncBound
import Derived.RangeFuncCalls
import Derived.RangeFuncLeaves
import Derived.Shelf.Abstract
import Derived.Shelf.RegionOpen
import Derived.OwnWalkIn
import Derived.TacticsInMore
import Derived.LoopNIn
import Derived.LoopIn
import Derived.Test.YtfgjhgecmelccaaDoorTie
import Derived.Lib.LaidTab
import Derived.LaidMore
import Derived.Lay
import Derived.Stop.LaidErr
import Derived.SevenTiedAt
import Derived.Test.YtfgjhgecmelccaaDoorCards
import Derived.Deep.CutBlock
import Derived.Deep.DeepCutAuto
import Derived.Laws.Tables
import Derived.Laws.Rows
import Derived.Laws.CopyOwn
import Derived.Outline
import Derived.IntWalk
import Derived.Lib.EndianBits
import Derived.StillTail
import Derived.Laws.IdiomStrings
import Derived.ChangeKeysEq
import Derived.Laws.StructEq
namespace Go.Proofs.YtfgjhgecmelccaaDoor

/-! Numbers. -/
def tens (n : Nat) : List UInt8 := if n < 10 then [UInt8.ofNat (48 + n)] else tens (n / 10) ++ [UInt8.ofNat (48 + n % 10)]
def intF : Nat → List UInt8 → Option Nat
  | n, [] => some n
  | n, c :: s => if 48 ≤ c.toNat ∧ c.toNat ≤ 57 then intF (10 * n + (c.toNat - 48)) s else none
def intR (s : List UInt8) (most : Int) : Option Nat :=
  if s = [] ∨ 13 < s.length ∨ (1 < s.length ∧ s.head? = some 48) then none else match intF 0 s with
    | none => none
    | some n => if most < (n : Int) ∨ 1099511627776 < n then none else some n
theorem tens_lt {n : Nat} (h : n < 10) : tens n = [UInt8.ofNat (48 + n)] := by unfold tens; rw [if_pos h]
theorem tens_ge {n : Nat} (h : ¬ n < 10) : tens n = tens (n / 10) ++ [UInt8.ofNat (48 + n % 10)] := by rw [tens, if_neg h]
theorem u8_dig {n : Nat} (h : n < 10) : (UInt8.ofNat (48 + n)).toNat = 48 + n := by simp; omega
theorem intF_append : ∀ (a b : List UInt8) (n : Nat), intF n (a ++ b) = (intF n a).bind fun m => intF m b
  | [], b, n => rfl
  | c :: a, b, n => by
    simp only [List.cons_append, intF]
    split
    · exact intF_append a b _
    · rfl
theorem tens_ne (n : Nat) : tens n ≠ [] := by
  unfold tens; split <;> simp
theorem tens_digits (n : Nat) : ∀ c ∈ tens n, 48 ≤ c.toNat ∧ c.toNat ≤ 57 := by
  induction n using Nat.strongRecOn with
  | _ n ih =>
    by_cases h : n < 10
    · rw [tens_lt h]
      intro c hc
      simp only [List.mem_singleton] at hc
      subst hc
      rw [u8_dig h]; omega
    · rw [tens_ge h]
      intro c hc
      rcases List.mem_append.1 hc with hc | hc
      · exact ih (n / 10) (by omega) c hc
      · simp only [List.mem_singleton] at hc
        subst hc
        have : n % 10 < 10 := Nat.mod_lt _ (by omega)
        rw [u8_dig this]; omega
theorem intF_tens (n : Nat) : intF 0 (tens n) = some n := by
  induction n using Nat.strongRecOn with
  | _ n ih =>
    by_cases h : n < 10
    · rw [tens_lt h]
      simp only [intF, u8_dig h]
      rw [if_pos (by omega)]
      congr 1; omega
    · have hm : n % 10 < 10 := Nat.mod_lt _ (by omega)
      rw [tens_ge h, intF_append, ih (n / 10) (by omega)]
      simp only [Option.bind_some, intF, u8_dig hm]
      rw [if_pos (by omega)]
      congr 1; omega
theorem tens_len (n k : Nat) (h : n < 10 ^ k) (hk : 1 ≤ k) : (tens n).length ≤ k := by
  induction k generalizing n with
  | zero => omega
  | succ k ih =>
    by_cases h10 : n < 10
    · rw [tens_lt h10]; simp
    · rw [tens_ge h10, List.length_append]
      have hk1 : 1 ≤ k := by
        rcases Nat.eq_zero_or_pos k with h0 | h0
        · subst h0; omega
        · exact h0
      have := ih (n / 10) (Nat.div_lt_of_lt_mul (by rw [Nat.pow_succ, Nat.mul_comm] at h; exact h)) hk1
      simp; omega
theorem tens_head (n : Nat) : (tens n).head? = some 48 → n = 0 := by
  induction n using Nat.strongRecOn with
  | _ n ih =>
    by_cases h : n < 10
    · rw [tens_lt h]
      intro he
      simp only [List.head?_cons, Option.some.injEq] at he
      have := congrArg UInt8.toNat he
      rw [u8_dig h] at this
      have h48 : (48 : UInt8).toNat = 48 := rfl
      omega
    · rw [tens_ge h]
      intro he
      have hne := tens_ne (n / 10)
      have h0 := ih (n / 10) (by omega) (by
        cases ht : tens (n / 10) with
        | nil => exact absurd ht hne
        | cons c r => rw [ht] at he; simpa using he)
      omega
/-- A number that may be is read of its text. -/
theorem intR_tens {n : Nat} {most : Int} (h : n ≤ 1099511627776) (hm : (n : Int) ≤ most) : intR (tens n) most = some n := by
  unfold intR
  have h13 := tens_len n 13 (by omega) (by omega)
  rw [if_neg, intF_tens]
  · simp only
    rw [if_neg (by omega)]
  · rintro (h1 | h1 | ⟨h1, h2⟩)
    · exact tens_ne n h1
    · omega
    · have := tens_head n h2
      subst this
      rw [tens_lt (by omega)] at h1
      simp at h1
theorem snoc_or {α : Type} (l : List α) : l = [] ∨ ∃ r t, l = r ++ [t] := by
  rcases List.eq_nil_or_concat l with h | ⟨r, t, h⟩
  · exact .inl h
  · exact .inr ⟨r, t, by rw [h, List.concat_eq_append]⟩
theorem tens_intF (k : Nat) : ∀ (s : List UInt8) (n : Nat), s.length = k → s ≠ [] → (1 < s.length → s.head? ≠ some 48) → intF 0 s = some n → s = tens n ∧ (s.head? ≠ some 48 → 0 < n) := by
  induction k with
  | zero => intro s n hl hne; exact absurd (List.eq_nil_of_length_eq_zero hl) hne
  | succ k ih =>
    intro s n hl hne hh hs
    rcases snoc_or s with rfl | ⟨r, t, rfl⟩
    · exact absurd rfl hne
    · rw [intF_append] at hs
      cases hr : intF 0 r with
      | none => rw [hr] at hs; cases hs
      | some m =>
        rw [hr] at hs
        simp only [Option.bind_some, intF] at hs
        split at hs
        · rename_i ht
          injection hs with hs
          have ht2 : t = UInt8.ofNat (48 + (t.toNat - 48)) := by
            rw [show 48 + (t.toNat - 48) = t.toNat by omega]; simp
          by_cases hr0 : r = []
          · subst hr0
            simp only [intF, Option.some.injEq] at hr
            subst hr
            have hn : n = t.toNat - 48 := by omega
            subst hn
            refine ⟨by rw [tens_lt (by omega), ← ht2]; rfl, fun h => ?_⟩
            rcases Nat.eq_zero_or_pos (t.toNat - 48) with h0 | h0
            · exfalso; apply h
              have : t.toNat = 48 := by omega
              have h48 : t = 48 := by rw [ht2, this]; rfl
              rw [h48]; rfl
            · exact h0
          · have hrl : r.length = k := by simpa using hl
            have hrp : 0 < r.length := by
              rcases Nat.eq_zero_or_pos r.length with h0 | h0
              · exact absurd (List.eq_nil_of_length_eq_zero h0) hr0
              · exact h0
            have hhr : (r ++ [t]).head? = r.head? := by
              cases r with
              | nil => exact absurd rfl hr0
              | cons c r => rfl
            have hh' := hh (by simp; omega)
            rw [hhr] at hh'
            obtain ⟨h1, h2⟩ := ih r m hrl hr0 (fun _ => hh') hr
            have hm := h2 hh'
            refine ⟨?_, fun _ => by omega⟩
            rw [tens_ge (by omega), show n / 10 = m by omega, show n % 10 = t.toNat - 48 by omega, ← h1, ← ht2]
        · cases hs
/-- What is read as a number is its text. -/
theorem tens_intR {s : List UInt8} {most : Int} {n : Nat} (h : intR s most = some n) : s = tens n ∧ n ≤ 1099511627776 ∧ (n : Int) ≤ most := by
  unfold intR at h
  split at h
  · cases h
  · rename_i h1
    cases hi : intF 0 s with
    | none => rw [hi] at h; cases h
    | some m =>
      rw [hi] at h
      simp only at h
      split at h
      · cases h
      · injection h with h
        subst h
        refine ⟨(tens_intF s.length s m rfl (fun e => h1 (.inl e)) (fun hl e => h1 (.inr (.inr ⟨hl, e⟩))) hi).1, by omega, by omega⟩

/-! Texts in quotes. -/
end Go.Proofs.YtfgjhgecmelccaaDoor
namespace Go.Proofs.YtfgjhgecmelccaaDoor

/-! The decimal numeral of the library. -/
theorem decDigits_tens (n : Nat) : Go.Lib.decDigits n = tens n := by
  induction n using Nat.strongRecOn with
  | _ n ih =>
    unfold Go.Lib.decDigits
    by_cases h : n < 10
    · rw [dif_pos h, tens_lt h]
    · rw [dif_neg h, tens_ge h, ih (n / 10) (by omega)]
theorem itoa_nat (n : Nat) : Go.Lib.itoa (n : Int) = tens n := by
  unfold Go.Lib.itoa
  rw [if_neg (by omega), decDigits_tens, Int.toNat_natCast]
theorem itoa_neg {n : Int} (h : n < 0) : Go.Lib.itoa n = 45 :: tens n.natAbs := by
  unfold Go.Lib.itoa
  rw [if_pos h, decDigits_tens]
/-! Texts cut at a byte. -/
def consHead (p : List UInt8) : List (List UInt8) → List (List UInt8)
  | [] => [p]
  | q :: r => (p ++ q) :: r
def cuts (c : UInt8) : List UInt8 → List (List UInt8)
  | [] => [[]]
  | x :: s => if x = c then [] :: cuts c s else consHead [x] (cuts c s)
def joinC (c : UInt8) : List (List UInt8) → List UInt8
  | [] => []
  | [p] => p
  | p :: q :: r => p ++ c :: joinC c (q :: r)
theorem cuts_ne (c : UInt8) (s : List UInt8) : cuts c s ≠ [] := by
  cases s with
  | nil => simp [cuts]
  | cons x s =>
    unfold cuts
    split
    · simp
    · cases cuts c s <;> simp [consHead]
theorem consHead_two (p q : List UInt8) (l : List (List UInt8)) (h : l ≠ []) : consHead p (consHead q l) = consHead (p ++ q) l := by
  cases l with
  | nil => exact absurd rfl h
  | cons a r => simp [consHead]
theorem consHead_nil (l : List (List UInt8)) (h : l ≠ []) : consHead [] l = l := by
  cases l with
  | nil => exact absurd rfl h
  | cons a r => simp [consHead]
theorem joinC_cons (c : UInt8) (p : List UInt8) {l : List (List UInt8)} (h : l ≠ []) : joinC c (p :: l) = p ++ c :: joinC c l := by
  cases l with
  | nil => exact absurd rfl h
  | cons a r => rfl
theorem joinC_head (c x : UInt8) {l : List (List UInt8)} (h : l ≠ []) : joinC c (consHead [x] l) = x :: joinC c l := by
  cases l with
  | nil => exact absurd rfl h
  | cons a r =>
    cases r with
    | nil => rfl
    | cons b r => rfl
theorem joinC_cuts (c : UInt8) : ∀ s, joinC c (cuts c s) = s
  | [] => rfl
  | x :: s => by
    unfold cuts
    split
    · rename_i h
      rw [joinC_cons c [] (cuts_ne c s), joinC_cuts c s, h]; rfl
    · rw [joinC_head c x (cuts_ne c s), joinC_cuts c s]
theorem cuts_none {c : UInt8} : ∀ {p : List UInt8}, (∀ x ∈ p, x ≠ c) → cuts c p = [p]
  | [], _ => rfl
  | x :: p, h => by
    rw [cuts, if_neg (h x (List.mem_cons_self ..)), cuts_none (fun y hy => h y (List.mem_cons_of_mem _ hy))]; rfl
theorem cuts_app {c : UInt8} (s : List UInt8) : ∀ {p : List UInt8}, (∀ x ∈ p, x ≠ c) → cuts c (p ++ c :: s) = p :: cuts c s
  | [], _ => by rw [List.nil_append, cuts, if_pos rfl]
  | x :: p, h => by
    rw [List.cons_append, cuts, if_neg (h x (List.mem_cons_self ..)), cuts_app s (fun y hy => h y (List.mem_cons_of_mem _ hy))]; rfl
theorem cuts_joinC {c : UInt8} : ∀ {l : List (List UInt8)}, l ≠ [] → (∀ p ∈ l, ∀ x ∈ p, x ≠ c) → cuts c (joinC c l) = l
  | [], h, _ => absurd rfl h
  | [p], _, h => cuts_none (h p (List.mem_cons_self ..))
  | p :: q :: r, _, h => by
    show cuts c (p ++ c :: joinC c (q :: r)) = _
    rw [cuts_app _ (h p (List.mem_cons_self ..)), cuts_joinC (by simp) (fun y hy => h y (List.mem_cons_of_mem _ hy))]
/-- What is cut so far of a text, up to a place. -/
def CutAt (c : UInt8) (t : List UInt8) (ps : List (List UInt8)) (f i : Nat) : Prop := f ≤ i ∧ i ≤ t.length ∧ cuts c t = ps ++ consHead ((t.drop f).take (i - f)) (cuts c (t.drop i))
theorem CutAt.start (c : UInt8) (t : List UInt8) : CutAt c t [] 0 0 := ⟨Nat.le_refl _, Nat.zero_le _, by simp [consHead_nil _ (cuts_ne c t)]⟩
theorem CutAt.sep {c : UInt8} {t : List UInt8} {ps : List (List UInt8)} {f i : Nat} (h : CutAt c t ps f i) (hi : i < t.length) (hc : t[i] = c) : CutAt c t (ps ++ [(t.drop f).take (i - f)]) (i + 1) (i + 1) := by
  refine ⟨Nat.le_refl _, hi, ?_⟩
  rw [h.2.2, List.drop_eq_getElem_cons hi, cuts, if_pos hc, Nat.sub_self, List.take_zero, consHead_nil _ (cuts_ne _ _), List.append_assoc]
  simp [consHead]
theorem CutAt.next {c : UInt8} {t : List UInt8} {ps : List (List UInt8)} {f i : Nat} (h : CutAt c t ps f i) (hi : i < t.length) (hc : t[i] ≠ c) : CutAt c t ps f (i + 1) := by
  have h1 := h.1
  refine ⟨by omega, hi, ?_⟩
  rw [h.2.2, List.drop_eq_getElem_cons hi, cuts, if_neg hc, consHead_two _ _ _ (cuts_ne _ _)]
  congr 2
  rw [show i + 1 - f = (i - f) + 1 by omega, List.take_succ_eq_append_getElem (by rw [List.length_drop]; omega), List.getElem_drop]
  congr 3
  omega
theorem CutAt.done {c : UInt8} {t : List UInt8} {ps : List (List UInt8)} {f : Nat} (h : CutAt c t ps f t.length) : cuts c t = ps ++ [t.drop f] := by
  rw [h.2.2, List.drop_length, List.take_of_length_le (by rw [List.length_drop]; exact Nat.le_refl _)]
  simp [cuts, consHead]
theorem cuts_len (c : UInt8) : ∀ s, (cuts c s).length ≤ s.length + 1
  | [] => by simp [cuts]
  | x :: s => by
    have := cuts_len c s
    unfold cuts
    split
    · simp; exact this
    · cases h : cuts c s with
      | nil => simp [consHead]
      | cons a r => rw [h] at this; simp [consHead] at *; omega
theorem cuts_part (c : UInt8) : ∀ s, ∀ p ∈ cuts c s, p.length ≤ s.length
  | [] => by simp [cuts]
  | x :: s => by
    have ih := cuts_part c s
    intro p hp
    unfold cuts at hp
    split at hp
    · rcases List.mem_cons.1 hp with h | h
      · subst h; simp
      · have := ih p h; simp; omega
    · cases h : cuts c s with
      | nil => exact absurd h (cuts_ne c s)
      | cons a r =>
        rw [h] at hp ih
        rcases List.mem_cons.1 hp with h | h
        · subst h; have := ih a (List.mem_cons_self ..); simp; omega
        · have := ih p (List.mem_cons_of_mem _ h); simp; omega
/-- strings.Split at one byte. -/
theorem split_cuts (c : UInt8) : ∀ s, Go.Lib.split s [c] = cuts c s
  | [] => by rw [Go.Lib.split, Go.Lib.count_miss (by simp [Go.Lib.index])]; rfl
  | b :: l => by
    have ih := split_cuts c l
    unfold Go.Lib.split at ih ⊢
    by_cases h : b = c
    · subst h
      have hix : Go.Lib.index (b :: l) [b] = 0 := by rw [Go.Lib.index]; simp [List.isPrefixOf]
      rw [Go.Lib.count_cons_eq, Nat.add_comm, Go.Lib.splitK, hix, if_neg (by decide), cuts, if_pos rfl, ← ih]
      simp
    · have hp : ([c] : List UInt8).isPrefixOf (b :: l) = false := by simp [List.isPrefixOf, Ne.symm h]
      have hix : Go.Lib.index (b :: l) [c] = if Go.Lib.index l [c] == -1 then -1 else Go.Lib.index l [c] + 1 := by rw [Go.Lib.index, hp]; simp
      rw [Go.Lib.count_cons_ne b c l h, cuts, if_neg h, ← ih]
      by_cases hm : Go.Lib.index l [c] = -1
      · rw [Go.Lib.count_miss hm]; rfl
      · have hge := Go.Lib.index_ge l [c]
        obtain ⟨j, hj⟩ : ∃ j : Nat, Go.Lib.index l [c] = j := ⟨(Go.Lib.index l [c]).toNat, by omega⟩
        have hne : ¬ ((j : Int) == -1) = true := fun e => by have := beq_iff_eq.1 e; omega
        have hne1 : ¬ ((j : Int) + 1 == -1) = true := fun e => by have := beq_iff_eq.1 e; omega
        rw [hj, if_neg hne] at hix
        rw [Go.Lib.count_hit (by simp) hj, Nat.add_comm, Go.Lib.splitK, Go.Lib.splitK, hix, hj, if_neg hne, if_neg hne1]
        have e1 : ((j : Int) + 1).toNat = j + 1 := by omega
        have e2 : ((j : Int)).toNat = j := by omega
        rw [e1, e2]
        simp [consHead]
/-! Texts of sets. -/
/-! Numbers are read of their texts. -/
end Go.Proofs.YtfgjhgecmelccaaDoor
namespace Go.Proofs.YtfgjhgecmelccaaDoor
open Go.RowKit

/-- internal/bytealg.MaxLen holds some number. -/
def MaxV (w : World) : Prop := ∃ m, w.cell? ⟨0, 0, none⟩ = some (.int .i64 m)
theorem MaxV.of {w : World} (h : w.ShapedOpen Tryd.prog) : MaxV w := Tryd.laysM143.s1_3 w h
theorem MaxV.below {w w' : World} (h : MaxV w) (hb : Below w.heap.size w w') : MaxV w' := by
  obtain ⟨m, hm⟩ := h
  exact ⟨m, (hb.cell (p := ⟨_, 0, none⟩) (World.block_lt_of_cell? w _ hm)).trans hm⟩
/-- The call hands back a new slice that reads as l. -/
def RetIn {α : Type} (k : Nat) (cs : α → List Value) (w : World) (l : List α) (e : Ending) (w' : World) : Prop :=
  ∃ A c, e = .returned (.slice A l.length c) ∧ In k cs w' A c l ∧ Below w.heap.size w w'
theorem splitB_cuts (t : List UInt8) (c : UInt8) : Lib.splitB (str [c]) 0 (Lib.countB (str t) (str [c])) (str t) = (cuts c t).map str := by
  have h := Lib.splitB_data (str [c]) 0 (Lib.countB (str t) (str [c])) (str t)
  have h2 : Lib.splitK (str [c]).data.toList 0 (Lib.countB (str t) (str [c])) (str t).data.toList = cuts c t := split_cuts c t
  rw [h2] at h
  rw [← h, List.map_map]
  conv => lhs; rw [← List.map_id (Lib.splitB (str [c]) 0 (Lib.countB (str t) (str [c])) (str t))]
  exact List.map_congr_left fun x _ => str_of x
theorem c_Split (t : List UInt8) (c : UInt8) (w : World) (hM : MaxV w) (ht : t.length < 4294967281) : Calls Tryd.prog 92 #[.string (str t), .string (str [c])] w (RetIn 1 sc w (cuts c t)) := by
  obtain ⟨m, hm⟩ := hM
  have hlen : Lib.countB (str t) (str [c]) + 1 = (cuts c t).length := by
    have := Lib.splitB_all (str [c]) (by simp) 0 _ (str t) rfl
    rw [splitB_cuts, List.length_map] at this
    exact this.symm
  have hcl := cuts_len c t
  refine (Tryd.strings_Split (str t) (str [c]) m w (by rw [str_size]; exact ht) hm (by simp)).mono ?_
  rintro e w' ⟨he, hw⟩
  rw [splitB_cuts] at hw
  rw [hlen] at he
  refine ⟨_, _, he, ⟨Nat.le_refl _, by omega, by omega, .inr ⟨_, 0, rfl, by rw [hw, World.size_alloc]; exact Nat.lt_succ_self _, ?_⟩⟩, by rw [hw]; exact (Below.refl _ _).alloc (Nat.le_refl _) _⟩
  intro i hi j u hu
  have hj : j < 1 := (List.getElem?_eq_some_iff.1 hu).1
  have h0 : j = 0 := by omega
  subst h0
  simp only [sc, List.getElem?_cons_zero, Option.some.injEq] at hu
  rw [hw, ← hu, show 0 + i * 1 + 0 = i by omega]
  exact Lib.pieces_cell_at w _ _ i _ (by rw [List.getElem?_map, List.getElem?_eq_getElem hi]; rfl)
end Go.Proofs.YtfgjhgecmelccaaDoor
namespace Go.Proofs.YtfgjhgecmelccaaDoor
open Go.RowKit

/-! Lists of numbers. -/
def ic (n : Int) : List Value := [.int .i64 n]
/-! Bits. -/
/-! The program's. -/
/-! The reference's. -/
end Go.Proofs.YtfgjhgecmelccaaDoor
namespace Go.Proofs.YtfgjhgecmelccaaDoor
open Go.RowKit

/-- What is left, and the first error. -/
structure Rd where
  s : List UInt8
  e : Int
deriving DecidableEq

/-! A number off bytes: its error, its value, how many bytes it has. -/
def nxE : Nat → Bool → List UInt8 → Int
  | 0, _, _ => 3
  | _ + 1, _, [] => 2
  | f + 1, first, c :: s => if 128 ≤ c.toNat then nxE f false s else if c.toNat = 0 ∧ first = false then 3 else 0
def nxV : Nat → List UInt8 → Nat
  | 0, _ => 0
  | _ + 1, [] => 0
  | f + 1, c :: s => if 128 ≤ c.toNat then c.toNat % 128 + 128 * nxV f s else c.toNat
def nxK : Nat → List UInt8 → Nat
  | 0, _ => 0
  | _ + 1, [] => 0
  | f + 1, c :: s => if 128 ≤ c.toNat then nxK f s + 1 else 1
@[irreducible] def nErr (s : List UInt8) (most : Int) : Int := if nxE 6 true s = 0 then (if 1099511627776 < nxV 6 s ∨ most < (nxV 6 s : Int) then 4 else 0) else nxE 6 true s
@[irreducible] def nVal (s : List UInt8) (most : Int) : Int := if nErr s most = 0 then (nxV 6 s : Int) else 0
@[irreducible] def nLen (s : List UInt8) (most : Int) : Nat := if nErr s most = 0 then nxK 6 s else 0
theorem nVal_bad {s : List UInt8} {most : Int} (h : nErr s most ≠ 0) : nVal s most = 0 := by unfold nVal; rw [if_neg h]
theorem nLen_bad {s : List UInt8} {most : Int} (h : nErr s most ≠ 0) : nLen s most = 0 := by unfold nLen; rw [if_neg h]
/-! What the readers' calls answer, and what is left then. -/
def rdN (st : Rd) (most : Int) : Int := if st.e = 0 then nVal st.s most else 0
def rdN' (st : Rd) (most : Int) : Rd := if st.e = 0 then ⟨st.s.drop (nLen st.s most), nErr st.s most⟩ else st
def rdF (st : Rd) (e : Int) : Rd := if st.e = 0 then ⟨st.s, e⟩ else st
/-! A number's bytes are read as it. -/
/-! What is read as a number has just a number's bytes. -/
/-! How the loops over a number's bytes go. -/
def Peek (s : List UInt8) (k acc : Nat) : Prop :=
  k ≤ 6 ∧ k ≤ s.length ∧ acc < 128 ^ k ∧ nxE 6 true s = nxE (6 - k) (decide (k = 0)) (s.drop k) ∧ nxV 6 s = acc + 128 ^ k * nxV (6 - k) (s.drop k) ∧ nxK 6 s = k + nxK (6 - k) (s.drop k) ∧
    ∀ j c, j < k → s[j]? = some c → 128 ≤ c.toNat
section
variable {s : List UInt8} {k acc : Nat}
theorem Peek.start (s : List UInt8) : Peek s 0 0 := ⟨by omega, by omega, by simp, by simp, by simp, by simp, fun j c h => by omega⟩
theorem Peek.next (h : Peek s k acc) (hk : k < 6) (hl : k < s.length) (hc : 128 ≤ s[k].toNat) : Peek s (k + 1) (acc + s[k].toNat % 128 * 128 ^ k) := by
  obtain ⟨_, _, h3, h4, h5, h6, h7⟩ := h
  rw [List.drop_eq_getElem_cons hl, show 6 - k = (6 - (k + 1)) + 1 by omega] at h4 h5 h6
  rw [nxE, if_pos hc] at h4
  rw [nxV, if_pos hc] at h5
  rw [nxK, if_pos hc] at h6
  have hm : s[k].toNat % 128 < 128 := Nat.mod_lt _ (by omega)
  refine ⟨by omega, by omega, ?_, ?_, ?_, by omega, ?_⟩
  · rw [Nat.pow_succ]
    have : s[k].toNat % 128 * 128 ^ k ≤ 127 * 128 ^ k := Nat.mul_le_mul_right _ (by omega)
    omega
  · rw [h4]; simp
  · rw [h5, Nat.mul_add, Nat.pow_succ, Nat.mul_comm (128 ^ k) (s[k].toNat % 128), Nat.mul_assoc]; omega
  · intro j c hj hjc
    rcases Nat.lt_or_ge j k with hlt | hge
    · exact h7 j c hlt hjc
    · obtain rfl : j = k := by omega
      rw [List.getElem?_eq_getElem hl] at hjc
      injection hjc with hjc
      rw [← hjc]; exact hc
theorem Peek.full (h : Peek s 6 acc) : nxE 6 true s = 3 := by rw [h.2.2.2.1]; rfl
theorem Peek.zero (h : Peek s k acc) (hk : k < 6) (hl : k < s.length) (hc : s[k].toNat = 0) (h0 : 0 < k) : nxE 6 true s = 3 := by
  rw [h.2.2.2.1, List.drop_eq_getElem_cons hl, show 6 - k = (6 - (k + 1)) + 1 by omega, nxE, if_neg (by omega), if_pos ⟨hc, by simp; omega⟩]
theorem Peek.done (h : Peek s k acc) (hk : k < 6) (hl : k < s.length) (hc : s[k].toNat < 128) (h0 : s[k].toNat ≠ 0 ∨ k = 0) : nxE 6 true s = 0 ∧ nxV 6 s = acc + s[k].toNat * 128 ^ k ∧ nxK 6 s = k + 1 := by
  obtain ⟨_, _, h3, h4, h5, h6, h7⟩ := h
  rw [List.drop_eq_getElem_cons hl, show 6 - k = (6 - (k + 1)) + 1 by omega] at h4 h5 h6
  rw [nxE, if_neg (by omega)] at h4
  rw [nxV, if_neg (by omega)] at h5
  rw [nxK, if_neg (by omega)] at h6
  refine ⟨?_, by rw [h5, Nat.mul_comm], h6⟩
  rw [h4, if_neg]
  rintro ⟨h1, h2⟩
  rcases h0 with h0 | h0
  · exact h0 h1
  · simp [h0] at h2
end
end Go.Proofs.YtfgjhgecmelccaaDoor
namespace Go.Proofs.YtfgjhgecmelccaaDoor
open Go.RowKit

/-! Worlds in which, below a block number, one block alone may have turned. -/
structure Kept (p : Option Nat) (B : Nat) (w w' : World) : Prop where
  os : w'.os = w.os
  tape : w'.tape = w.tape
  output : w'.output = w.output
  size : w.heap.size ≤ w'.heap.size
  block : ∀ k, k < B → p ≠ some k → w'.heap[k]? = w.heap[k]?
section
variable {p : Option Nat} {B B' : Nat} {a b c w w' : World}
theorem Kept.refl (p : Option Nat) (B : Nat) (w : World) : Kept p B w w := ⟨rfl, rfl, rfl, Nat.le_refl _, fun _ _ _ => rfl⟩
theorem Kept.of_below (h : Below B w w') : Kept p B w w' := ⟨h.os, h.tape, h.output, h.size, fun k hk _ => h.block k hk⟩
theorem Kept.trans (h : Kept p B a b) (k : Kept p B b c) : Kept p B a c := ⟨k.os.trans h.os, k.tape.trans h.tape, k.output.trans h.output, Nat.le_trans h.size k.size, fun i hi hp => (k.block i hi hp).trans (h.block i hi hp)⟩
theorem Kept.mono (h : Kept p B w w') (hB : B' ≤ B) : Kept p B' w w' := ⟨h.os, h.tape, h.output, h.size, fun k hk hp => h.block k (by omega) hp⟩
theorem Kept.below (h : Kept p B w w') (hB : B' ≤ B) (hp : ∀ g, p = some g → B' ≤ g) : Below B' w w' := ⟨h.os, h.tape, h.output, h.size, fun k hk => h.block k (by omega) (fun e => by have := hp k e; omega)⟩
theorem Kept.alloc (h : Kept p B a w) (hB : B ≤ w.heap.size) (o : Obj) : Kept p B a (w.alloc o) := h.trans (.of_below ((Below.refl _ _).alloc hB o))
theorem Kept.drew (h : Kept p B a w) : Kept p B a w.drew := ⟨h.os, h.tape, h.output, h.size, h.block⟩
theorem Kept.setCell (h : Kept p B a w) {q : Addr} (hq : B ≤ q.block ∨ p = some q.block) (u : Value) : Kept p B a (w.setCell q u) :=
  h.trans ⟨rfl, rfl, rfl, by simp [World.setCell], fun k hk hp => Below.heap_setCell _ _ _ _ (fun e => by
    subst e
    rcases hq with h | h
    · omega
    · exact hp h)⟩
theorem Kept.then_below (h : Kept p B a w) (k : Below w.heap.size w w') (hB : B ≤ w.heap.size) : Kept p B a w' := h.trans (.of_below (k.mono hB))
theorem Kept.then_kept (h : Kept p B a w) (k : Kept p w.heap.size w w') (hB : B ≤ w.heap.size) : Kept p B a w' := h.trans (k.mono hB)
theorem Kept.cell (h : Kept p B w w') {q : Addr} (hq : q.block < B) (hp : p ≠ some q.block) : w'.cell? q = w.cell? q := World.cell?_of_block (w := w) (h.block q.block hq hp)
end

/-! A block that is known whole. -/
def Blk (w : World) (g : Nat) (cs : Array Value) : Prop := ∃ t, w.heap[g]? = some (.cells cs t (0, 0))
section
variable {w w' : World} {g : Nat} {cs : Array Value}
theorem Blk.lt (h : Blk w g cs) : g < w.heap.size := by
  obtain ⟨t, h⟩ := h
  rcases Nat.lt_or_ge g w.heap.size with hlt | hge
  · exact hlt
  · rw [Array.getElem?_eq_none hge] at h; cases h
theorem Blk.cell (h : Blk w g cs) {i : Nat} {v : Value} (hv : cs[i]? = some v) : w.cell? ⟨g, i, none⟩ = some v := by
  obtain ⟨t, h⟩ := h
  simp [World.cell?, h, hv]
theorem Blk.frozen (h : Blk w g cs) (i : Nat) : w.frozen? ⟨g, i, none⟩ = false := by
  obtain ⟨t, h⟩ := h
  simp [World.frozen?, h]
theorem Blk.new (w : World) (t : TypeId) (cs : Array Value) : Blk (w.alloc (.cells cs t)) w.heap.size cs := ⟨t, heap_alloc_new w _⟩
theorem Blk.kept {p : Option Nat} {B : Nat} (h : Blk w g cs) (k : Kept p B w w') (hg : g < B) (hp : p ≠ some g) : Blk w' g cs := by
  obtain ⟨t, h⟩ := h
  exact ⟨t, (k.block g hg hp).trans h⟩
theorem Blk.below {B : Nat} (h : Blk w g cs) (k : Below B w w') (hg : g < B) : Blk w' g cs := by
  obtain ⟨t, h⟩ := h
  exact ⟨t, (k.block g hg).trans h⟩
theorem Blk.store (h : Blk w g cs) (i : Nat) (u : Value) : Blk (w.setCell ⟨g, i, none⟩ u) g (cs.setIfInBounds i u) := by
  obtain ⟨t, h⟩ := h
  exact ⟨t, by simp [World.setCell, Array.getElem?_modify, h]⟩
theorem Blk.far (h : Blk w g cs) {q : Addr} (hq : g ≠ q.block) (u : Value) : Blk (w.setCell q u) g cs := by
  obtain ⟨t, h⟩ := h
  exact ⟨t, (Below.heap_setCell w q u g hq).trans h⟩
end

/-! The readers in memory. -/
/-- The program's reader at block g: the bytes B, the place, the error. -/
def RdA (w : World) (g : Nat) (A : Option Addr) (c : Nat) (B : List UInt8) (pos : Nat) (e : Int) : Prop :=
  Blk w g #[.slice A B.length c, .int .i64 pos, .int .i64 e] ∧ pos ≤ B.length ∧ B.length ≤ c ∧ c ≤ 9223372036854775807 ∧ B.length ≤ 4294967296 ∧ (B = [] ∨ ∃ b off, A = some ⟨b, off, none⟩ ∧ b < g ∧ Row 1 bc w b off B)
/-- The program's reader; none: the nil one. -/
def RdP (w : World) (p : Option Nat) (st : Rd) : Prop :=
  (p = none ∧ st = ⟨[], 1⟩) ∨ ∃ g A c B pos, p = some g ∧ RdA w g A c B pos st.e ∧ st.s = B.drop pos
/-- The reference's reader at block h. -/
def RdR (w : World) (h : Nat) (st : Rd) : Prop := Blk w h #[.string (str st.s), .int .i64 st.e] ∧ st.s.length ≤ 4294967296
section
variable {w w' : World} {g h : Nat} {A : Option Addr} {c pos : Nat} {B : List UInt8} {e : Int} {p q : Option Nat} {st st' : Rd}
theorem RdA.kept (r : RdA w g A c B pos e) (k : Kept q w.heap.size w w') (hq : ∀ h, q = some h → g < h) : RdA w' g A c B pos e := by
  obtain ⟨h1, h2, h3, h4, h5, h6⟩ := r
  refine ⟨h1.kept k h1.lt (fun e => by have := hq g e; omega), h2, h3, h4, h5, h6.imp id fun ⟨b, off, hA, hb, hr⟩ => ⟨b, off, hA, hb, ?_⟩⟩
  have := h1.lt
  exact hr.keep fun o => k.cell (by show b < _; omega) (fun e => by have := hq b e; omega)
theorem RdA.store1 (r : RdA w g A c B pos e) (pos' : Nat) (hp : pos' ≤ B.length) : RdA (w.setCell ⟨g, 1, none⟩ (.int .i64 pos')) g A c B pos' e := by
  obtain ⟨h1, h2, h3, h4, h5, h6⟩ := r
  refine ⟨by simpa using h1.store 1 (.int .i64 pos'), hp, h3, h4, h5, h6.imp id fun ⟨b, off, hA, hb, hr⟩ => ⟨b, off, hA, hb, ?_⟩⟩
  exact hr.keep fun o => World.cell?_setCell_other _ _ _ _ (fun e => by injection e; omega)
theorem RdA.store2 (r : RdA w g A c B pos e) (e' : Int) : RdA (w.setCell ⟨g, 2, none⟩ (.int .i64 e')) g A c B pos e' := by
  obtain ⟨h1, h2, h3, h4, h5, h6⟩ := r
  refine ⟨by simpa using h1.store 2 (.int .i64 e'), h2, h3, h4, h5, h6.imp id fun ⟨b, off, hA, hb, hr⟩ => ⟨b, off, hA, hb, ?_⟩⟩
  exact hr.keep fun o => World.cell?_setCell_other _ _ _ _ (fun e => by injection e; omega)
theorem RdP.kept (r : RdP w p st) (k : Kept q w.heap.size w w') (hq : ∀ g h, p = some g → q = some h → g < h) : RdP w' p st :=
  r.imp id fun ⟨g, A, c, B, pos, hp, ha, hs⟩ => ⟨g, A, c, B, pos, hp, ha.kept k (fun h => hq g h hp), hs⟩
theorem RdP.below (r : RdP w p st) (k : Below w.heap.size w w') : RdP w' p st := r.kept (q := none) (.of_below k) (fun _ _ _ h => by cases h)
theorem RdP.lt (r : RdP w p st) (hg : p = some g) : g < w.heap.size := by
  rcases r with ⟨rfl, _⟩ | ⟨g', A, c, B, pos, hp, ha, _⟩
  · cases hg
  · rw [hp] at hg; injection hg with hg; subst hg; exact ha.1.lt
theorem RdR.kept (r : RdR w h st) (k : Kept q w.heap.size w w') (hq : q ≠ some h) : RdR w' h st := ⟨r.1.kept k r.1.lt hq, r.2⟩
theorem RdR.below (r : RdR w h st) (k : Below w.heap.size w w') : RdR w' h st := r.kept (q := none) (.of_below k) (by simp)
theorem RdR.lt (r : RdR w h st) : h < w.heap.size := r.1.lt
end

/-! The ends of the readers' calls. -/
/-- The call hands back v, the program's reader is then st'; nothing else below the heap's end has turned. -/
def RetP (p : Option Nat) (st' : Rd) (w : World) (v : Value) (e : Ending) (w' : World) : Prop := e = .returned v ∧ RdP w' p st' ∧ Kept p w.heap.size w w'
end Go.Proofs.YtfgjhgecmelccaaDoor
