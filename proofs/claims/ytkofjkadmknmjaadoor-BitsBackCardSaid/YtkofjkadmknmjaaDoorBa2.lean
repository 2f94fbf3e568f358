/-
  Lemmas (walks and plain laws), in one text.
-/
import Derived.Test.YtkofjkadmknmjaaDoorBa1
import Derived.Test.YtkofjkadmknmjaaDoorRows
import Derived.WalkKit
import Derived.WalkSpells
import Derived.WalkLawsBesides
import Derived.Lib.Hide
import Derived.Deep.QuietTactic
import Derived.BigQuiet
import Derived.Maps.AppendAt
import Derived.WalkSmall
import Derived.ProofKit
import Derived.OpenShut
import Derived.JoinedCond
import Derived.Deep.Slices
import Derived.Deep.Fields
import Derived.Carry
import Derived.HandedShaped
import Derived.Shelf.Small.Wraps
import Derived.Shelf.Utf8.RuneCount
import Derived.Shelf.Strconv.Itoa0
import Derived.Shelf.Strconv.Itoa1
import Derived.Shelf.LaysM
import Derived.Shelf.Strconv.Itoa2
import Derived.Shelf.Strconv.Itoa3
import Derived.Shelf.Strings.Search1
import Derived.Shelf.Strings.Search2
import Derived.Shelf.Strings.Search3
import Derived.Shelf.Strings.Count
import Derived.Shelf.Strings.Shaped
import Derived.Shelf.Strings.Prefix
import Derived.Shelf.Strings.Split
import Derived.Shelf.Strings.SplitShaped
import Derived.Shelf.Unicode.DecodeSlow
import Derived.Test.YtkofjkadmknmjaaDoorProg
import Derived.Deep.AppendSrc
import Derived.Lib.AppendStr
import Derived.Laws.BytesArg
import Derived.Lib.AppendIntMem
import Derived.Lib.ItoaLen
import Derived.Lib.TrailingZeros
import Derived.Lib.SplitLaws
import Derived.Lib.ItoaNum
import Derived.Shelf.Strings.PiecesUse
import Derived.Shelf.Spec.TrailingZeros
import Derived.RangeFuncNested
import Derived.RangeFuncBound
import Derived.RangeFuncCalls
import Derived.RangeFuncLeaves
import Derived.Shelf.Abstract
import Derived.Shelf.RegionOpen
import Derived.OwnWalkIn
import Derived.TacticsInMore
import Derived.LoopNIn
import Derived.LoopIn
import Derived.Test.YtkofjkadmknmjaaDoorTie
import Derived.Lib.LaidTab
import Derived.LaidMore
import Derived.Lay
import Derived.Stop.LaidErr
import Derived.SevenTiedAt
import Derived.Test.YtkofjkadmknmjaaDoorCards
import Derived.StillTail
import Derived.OrdersIn
import Derived.ControlIn
import Derived.Lib.BitFns
import Derived.Deep.CutBlock
import Derived.Deep.DeepCutAuto
import Derived.Laws.IdiomStrings
import Derived.Outline
import Derived.IntWalk
import Derived.Lib.Tables
namespace Go.Proofs.YtkofjkadmknmjaaDoor
open Go.RowKit

def bc (b : UInt8) : List Value := [.int .u8 b.toNat]
/-- A slice of bytes. -/
abbrev InB := In 1 bc

theorem RetV.str {w w' : World} {a b : List UInt8} (h : a = b) (hb : Below w.heap.size w w') : RetV w (.string (str b)) (.returned (.string (str a))) w' := ⟨by rw [h], hb⟩

theorem RetS.of {α : Type} {k : Nat} {cs : α → List Value} {et : TypeId} {w w' : World} {l l' : List α} {v : Value} {b : Nat} (h : w'.ownsRow b et k v l'.length (l'.flatMap cs)) (hb : w.heap.size ≤ b) (e : l' = l) (hB : Below w.heap.size w w') :
    RetS k cs et w l (.returned v) w' := ⟨v, rfl, by subst e; exact own_base h hb, hB⟩

/-! Numbers and texts as bytes. -/
def numF : Nat → Nat → List UInt8
  | 0, v => [UInt8.ofNat v]
  | f + 1, v => if v < 128 then [UInt8.ofNat v] else UInt8.ofNat (v % 128 + 128) :: numF f (v / 128)
def clampN (n : Int) : Nat := (min (max n 0) 1099511627776).toNat
@[irreducible] def num (n : Int) : List UInt8 := numF 6 (clampN n)
section
variable {P : Program} (w : World)
theorem Src.go {A : Option Addr} {m size c : Nat} {news : List Value} {tx e' : TypeId} (hk : P.underlying tx = some (.slice e')) (h : Src w A m size news) (h1 : ∀ u ∈ news, u.oneCell' = true) : Go.Src P size tx (.slice A m c) m news w := by
  rcases A with _ | ad
  · have hm : m = 0 := by
      rcases Nat.eq_zero_or_pos m with h0 | h0
      · exact h0
      · obtain ⟨ad, hh, _⟩ := h.2 h0; cases hh
    subst hm
    have hnil : news = [] := List.eq_nil_of_length_eq_zero (by simpa using h.1)
    subst hnil
    exact Go.Src.ofNil w hk c
  · refine Go.Src.ofSlice w hk ad m c news h.1 (fun j u hu => ?_) h1
    rcases Nat.eq_zero_or_pos m with h0 | h0
    · subst h0
      have hnil : news = [] := List.eq_nil_of_length_eq_zero (by simpa using h.1)
      subst hnil; simp at hu
    · obtain ⟨ad', hh, hc⟩ := h.2 h0
      injection hh with hh; subst hh; exact hc j u hu
theorem Src.first {A : Option Addr} {m size c : Nat} {news : List Value} (h : Src w A m size news) : (Builtin.firstCells size m (.slice A m c)).run P w.drew = .ok news.toArray w.drew := by
  rcases A with _ | ad
  · have hm : m = 0 := by
      rcases Nat.eq_zero_or_pos m with h0 | h0
      · exact h0
      · obtain ⟨ad, hh, _⟩ := h.2 h0; cases hh
    subst hm
    have hnil : news = [] := List.eq_nil_of_length_eq_zero (by simpa using h.1)
    subst hnil
    exact run_firstCells_none w.drew size 0 0 c
  · refine run_firstCells_some w.drew size m ad m c news h.1 (fun j u hu => ?_)
    rcases Nat.eq_zero_or_pos m with h0 | h0
    · subst h0
      have hnil : news = [] := List.eq_nil_of_length_eq_zero (by simpa using h.1)
      subst hnil; simp at hu
    · obtain ⟨ad', hh, hc⟩ := h.2 h0
      injection hh with hh; subst hh; exact hc j u hu
/-- A slice that is full, or a call's own. -/
def Held (w : World) (base : Nat) (e : TypeId) (size : Nat) (v : Value) (n : Nat) (xs : List Value) : Prop :=
  w.ownsRow base e size v n xs ∨ ∃ A, v = .slice A n n ∧ Src w A n size xs
end
section
variable {w w' : World} {base : Nat} {e : TypeId} {size n : Nat} {v : Value} {xs : List Value}
theorem Src.below {A : Option Addr} (h : Src w A n size xs) (hb : Below w.heap.size w w') : Src w' A n size xs := by
  refine ⟨h.1, fun hm => ?_⟩
  obtain ⟨ad, rfl, hc⟩ := h.2 hm
  refine ⟨ad, rfl, fun j u hu => ?_⟩
  have h1 := hc j u hu
  rw [hb.cell (World.block_lt_of_cell? _ _ h1)]
  exact h1
theorem Held.below (h : Held w base e size v n xs) (hb : Below w.heap.size w w') : Held w' base e size v n xs := by
  rcases h with h | ⟨A, rfl, h⟩
  · exact .inl (own_below h hb)
  · exact .inr ⟨A, rfl, h.below hb⟩
theorem Held.shape (h : Held w base e size v n xs) : ∃ A c, v = .slice A n c := by
  rcases h with h | ⟨A, rfl, _⟩
  · obtain ⟨A, c, rfl, _⟩ := own_form h; exact ⟨_, _, rfl⟩
  · exact ⟨_, _, rfl⟩
end
/-! Bytes as texts. -/
section
variable {P : Program} (w : World)
end
end Go.Proofs.YtkofjkadmknmjaaDoor
namespace Go.Proofs.YtkofjkadmknmjaaDoor
open Go.RowKit

/-- internal/strconv's table of powers of ten holds what its source lays. -/
def PowTab (w : World) : Prop := ∀ w', Below w.heap.size w w' → Lib.TabIs Tryd.prog w' "internal/strconv.uint64pow10" .u64 Lib.pow10Tab
theorem PowTab.of {w : World} (h : Lib.TabIs Tryd.prog w "internal/strconv.uint64pow10" .u64 Lib.pow10Tab) : PowTab w := Lib.tabBelow_of_tabIs h
theorem PowTab.here {w : World} (h : PowTab w) : Lib.TabIs Tryd.prog w "internal/strconv.uint64pow10" .u64 Lib.pow10Tab := h w (Below.refl _ _)
theorem PowTab.below {w w' : World} (h : PowTab w) (hb : Below w.heap.size w w') : PowTab w' := fun w2 hb2 => h w2 (hb.trans (hb2.mono hb.size))
theorem below_sgrow (w : World) (k : Nat) (os : Array Obj) : Below w.heap.size w (Sort.grow (w.drewN k) os) :=
  ⟨rfl, rfl, rfl, by simp [Sort.grow, World.drewN], fun j hj => by
    show (w.heap ++ os)[j]? = w.heap[j]?
    rw [Array.getElem?_append_left hj]⟩
theorem c_Itoa (n : Int) (w : World) (h0 : -9223372036854775808 ≤ n) (h1 : n ≤ 9223372036854775807) (hP : PowTab w) : Calls Tryd.prog 80 #[.int .i64 n] w (RetV w (.string (str (Lib.itoa n)))) :=
  (Tryd.strconv_Itoa n h0 h1 w hP.here).mono fun _ _ ⟨he, k, os, hw⟩ => ⟨he, by rw [hw]; exact below_sgrow w k os⟩
set_option maxHeartbeats 400000 in
theorem c_bits_Tens (n : Int) (w : World) (h0 : -9223372036854775808 ≤ n) (h1 : n ≤ 9223372036854775807) (hP : PowTab w) : Calls Tryd.prog 35 #[.int .i64 n] w (RetV w (.string (str (Lib.itoa n)))) := by
  go_enter Tryd.func35, Tryd.ntmps35
  go_wp2_with (fail)
  refine (c_Itoa n _ h0 h1 hP).mono ?_
  rintro e w1 ⟨rfl, hb1⟩
  go_wp2_with (fail)
  go_ret
  exact RetV.of rfl hb1
def sc (s : List UInt8) : List Value := [.string (str s)]
end Go.Proofs.YtkofjkadmknmjaaDoor
namespace Go.Proofs.YtkofjkadmknmjaaDoor

/-! Numbers. -/
def tens (n : Nat) : List UInt8 := if n < 10 then [UInt8.ofNat (48 + n)] else tens (n / 10) ++ [UInt8.ofNat (48 + n % 10)]
def intF : Nat → List UInt8 → Option Nat
  | n, [] => some n
  | n, c :: s => if 48 ≤ c.toNat ∧ c.toNat ≤ 57 then intF (10 * n + (c.toNat - 48)) s else none
def intR (s : List UInt8) (most : Int) : Option Nat :=
  if s = [] ∨ 13 < s.length ∨ (1 < s.length ∧ s.head? = some 48) then none else match intF 0 s with
    | none => none
    | some n => if most < (n : Int) ∨ 1099511627776 < n then none else some n
theorem tens_lt {n : Nat} (h : n < 10) : tens n = [UInt8.ofNat (48 + n)] := by unfold tens; rw [if_pos h]
theorem tens_ge {n : Nat} (h : ¬ n < 10) : tens n = tens (n / 10) ++ [UInt8.ofNat (48 + n % 10)] := by rw [tens, if_neg h]
theorem u8_dig {n : Nat} (h : n < 10) : (UInt8.ofNat (48 + n)).toNat = 48 + n := by simp; omega
theorem intF_append : ∀ (a b : List UInt8) (n : Nat), intF n (a ++ b) = (intF n a).bind fun m => intF m b
  | [], b, n => rfl
  | c :: a, b, n => by
    simp only [List.cons_append, intF]
    split
    · exact intF_append a b _
    · rfl
theorem tens_ne (n : Nat) : tens n ≠ [] := by
  unfold tens; split <;> simp
theorem tens_digits (n : Nat) : ∀ c ∈ tens n, 48 ≤ c.toNat ∧ c.toNat ≤ 57 := by
  induction n using Nat.strongRecOn with
  | _ n ih =>
    by_cases h : n < 10
    · rw [tens_lt h]
      intro c hc
      simp only [List.mem_singleton] at hc
      subst hc
      rw [u8_dig h]; omega
    · rw [tens_ge h]
      intro c hc
      rcases List.mem_append.1 hc with hc | hc
      · exact ih (n / 10) (by omega) c hc
      · simp only [List.mem_singleton] at hc
        subst hc
        have : n % 10 < 10 := Nat.mod_lt _ (by omega)
        rw [u8_dig this]; omega
theorem intF_tens (n : Nat) : intF 0 (tens n) = some n := by
  induction n using Nat.strongRecOn with
  | _ n ih =>
    by_cases h : n < 10
    · rw [tens_lt h]
      simp only [intF, u8_dig h]
      rw [if_pos (by omega)]
      congr 1; omega
    · have hm : n % 10 < 10 := Nat.mod_lt _ (by omega)
      rw [tens_ge h, intF_append, ih (n / 10) (by omega)]
      simp only [Option.bind_some, intF, u8_dig hm]
      rw [if_pos (by omega)]
      congr 1; omega
theorem tens_len (n k : Nat) (h : n < 10 ^ k) (hk : 1 ≤ k) : (tens n).length ≤ k := by
  induction k generalizing n with
  | zero => omega
  | succ k ih =>
    by_cases h10 : n < 10
    · rw [tens_lt h10]; simp
    · rw [tens_ge h10, List.length_append]
      have hk1 : 1 ≤ k := by
        rcases Nat.eq_zero_or_pos k with h0 | h0
        · subst h0; omega
        · exact h0
      have := ih (n / 10) (Nat.div_lt_of_lt_mul (by rw [Nat.pow_succ, Nat.mul_comm] at h; exact h)) hk1
      simp; omega
theorem tens_head (n : Nat) : (tens n).head? = some 48 → n = 0 := by
  induction n using Nat.strongRecOn with
  | _ n ih =>
    by_cases h : n < 10
    · rw [tens_lt h]
      intro he
      simp only [List.head?_cons, Option.some.injEq] at he
      have := congrArg UInt8.toNat he
      rw [u8_dig h] at this
      have h48 : (48 : UInt8).toNat = 48 := rfl
      omega
    · rw [tens_ge h]
      intro he
      have hne := tens_ne (n / 10)
      have h0 := ih (n / 10) (by omega) (by
        cases ht : tens (n / 10) with
        | nil => exact absurd ht hne
        | cons c r => rw [ht] at he; simpa using he)
      omega
/-- A number that may be is read of its text. -/
theorem intR_tens {n : Nat} {most : Int} (h : n ≤ 1099511627776) (hm : (n : Int) ≤ most) : intR (tens n) most = some n := by
  unfold intR
  have h13 := tens_len n 13 (by omega) (by omega)
  rw [if_neg, intF_tens]
  · simp only
    rw [if_neg (by omega)]
  · rintro (h1 | h1 | ⟨h1, h2⟩)
    · exact tens_ne n h1
    · omega
    · have := tens_head n h2
      subst this
      rw [tens_lt (by omega)] at h1
      simp at h1
theorem snoc_or {α : Type} (l : List α) : l = [] ∨ ∃ r t, l = r ++ [t] := by
  rcases List.eq_nil_or_concat l with h | ⟨r, t, h⟩
  · exact .inl h
  · exact .inr ⟨r, t, by rw [h, List.concat_eq_append]⟩
theorem tens_intF (k : Nat) : ∀ (s : List UInt8) (n : Nat), s.length = k → s ≠ [] → (1 < s.length → s.head? ≠ some 48) → intF 0 s = some n → s = tens n ∧ (s.head? ≠ some 48 → 0 < n) := by
  induction k with
  | zero => intro s n hl hne; exact absurd (List.eq_nil_of_length_eq_zero hl) hne
  | succ k ih =>
    intro s n hl hne hh hs
    rcases snoc_or s with rfl | ⟨r, t, rfl⟩
    · exact absurd rfl hne
    · rw [intF_append] at hs
      cases hr : intF 0 r with
      | none => rw [hr] at hs; cases hs
      | some m =>
        rw [hr] at hs
        simp only [Option.bind_some, intF] at hs
        split at hs
        · rename_i ht
          injection hs with hs
          have ht2 : t = UInt8.ofNat (48 + (t.toNat - 48)) := by
            rw [show 48 + (t.toNat - 48) = t.toNat by omega]; simp
          by_cases hr0 : r = []
          · subst hr0
            simp only [intF, Option.some.injEq] at hr
            subst hr
            have hn : n = t.toNat - 48 := by omega
            subst hn
            refine ⟨by rw [tens_lt (by omega), ← ht2]; rfl, fun h => ?_⟩
            rcases Nat.eq_zero_or_pos (t.toNat - 48) with h0 | h0
            · exfalso; apply h
              have : t.toNat = 48 := by omega
              have h48 : t = 48 := by rw [ht2, this]; rfl
              rw [h48]; rfl
            · exact h0
          · have hrl : r.length = k := by simpa using hl
            have hrp : 0 < r.length := by
              rcases Nat.eq_zero_or_pos r.length with h0 | h0
              · exact absurd (List.eq_nil_of_length_eq_zero h0) hr0
              · exact h0
            have hhr : (r ++ [t]).head? = r.head? := by
              cases r with
              | nil => exact absurd rfl hr0
              | cons c r => rfl
            have hh' := hh (by simp; omega)
            rw [hhr] at hh'
            obtain ⟨h1, h2⟩ := ih r m hrl hr0 (fun _ => hh') hr
            have hm := h2 hh'
            refine ⟨?_, fun _ => by omega⟩
            rw [tens_ge (by omega), show n / 10 = m by omega, show n % 10 = t.toNat - 48 by omega, ← h1, ← ht2]
        · cases hs
/-- What is read as a number is its text. -/
theorem tens_intR {s : List UInt8} {most : Int} {n : Nat} (h : intR s most = some n) : s = tens n ∧ n ≤ 1099511627776 ∧ (n : Int) ≤ most := by
  unfold intR at h
  split at h
  · cases h
  · rename_i h1
    cases hi : intF 0 s with
    | none => rw [hi] at h; cases h
    | some m =>
      rw [hi] at h
      simp only at h
      split at h
      · cases h
      · injection h with h
        subst h
        refine ⟨(tens_intF s.length s m rfl (fun e => h1 (.inl e)) (fun hl e => h1 (.inr (.inr ⟨hl, e⟩))) hi).1, by omega, by omega⟩

/-! Texts in quotes. -/
end Go.Proofs.YtkofjkadmknmjaaDoor
namespace Go.Proofs.YtkofjkadmknmjaaDoor

/-- The numbers of a set, rising. -/
def idx (s : Nat) : List Nat := (List.range 32).filter s.testBit
def bitsF : Nat → Nat → List Nat
  | 0, _ => []
  | f + 1, s => if s % 2 = 1 then 0 :: (bitsF f (s / 2)).map (· + 1) else (bitsF f (s / 2)).map (· + 1)
theorem bitsF_range : ∀ (f s : Nat), bitsF f s = (List.range f).filter s.testBit
  | 0, s => by simp [bitsF]
  | f + 1, s => by
    rw [bitsF, bitsF_range f, List.range_succ_eq_map, List.filter_cons, List.filter_map]
    have e : (s.testBit ∘ Nat.succ) = (s / 2).testBit := by funext i; simp [Nat.testBit_succ]
    rw [e, Nat.testBit_zero]
    by_cases h : s % 2 = 1
    · rw [if_pos h, if_pos (by simpa using h)]
    · rw [if_neg h, if_neg (by simpa using h)]
theorem idx_F (s : Nat) : idx s = bitsF 32 s := (bitsF_range 32 s).symm
theorem bitsF_zero : ∀ f, bitsF f 0 = []
  | 0 => rfl
  | f + 1 => by rw [bitsF, if_neg (by decide), bitsF_zero f]; rfl
theorem idx_zero : idx 0 = [] := by rw [idx_F, bitsF_zero]
theorem and_low (s : Nat) (_h : s ≠ 0) : (s % 2 = 1 → s &&& (s - 1) = s - 1) ∧ (s % 2 = 0 → s &&& (s - 1) = 2 * (s / 2 &&& (s / 2 - 1))) := by
  have hd : (s &&& (s - 1)) / 2 = s / 2 &&& (s - 1) / 2 := Nat.and_div_two
  have hm : (s &&& (s - 1)) % 2 = 0 := by
    rcases Nat.mod_two_eq_zero_or_one (s &&& (s - 1)) with h1 | h1
    · exact h1
    · have := Nat.and_mod_two_eq_one.1 h1
      omega
  constructor
  · intro h1
    have e : (s - 1) / 2 = s / 2 := by omega
    rw [e, Nat.and_self] at hd
    omega
  · intro h1
    have e : (s - 1) / 2 = s / 2 - 1 := by omega
    rw [e] at hd
    omega
theorem bitsF_low : ∀ (f s : Nat), s ≠ 0 → s < 2 ^ f → bitsF f s = Go.Lib.ctzFrom f s :: bitsF f (s &&& (s - 1)) ∧ (s &&& (s - 1)) < s
  | 0, s, h0, h => by simp at h; omega
  | f + 1, s, h0, h => by
    obtain ⟨h1, h2⟩ := and_low s h0
    unfold Go.Lib.ctzFrom
    by_cases hs : s % 2 = 1
    · rw [h1 hs, if_pos hs, bitsF, if_pos hs, bitsF, if_neg (by omega), show (s - 1) / 2 = s / 2 by omega]
      exact ⟨rfl, by omega⟩
    · have ht : s / 2 ≠ 0 := by omega
      obtain ⟨i1, i2⟩ := bitsF_low f (s / 2) ht (by rw [Nat.pow_succ] at h; omega)
      rw [h2 (by omega), if_neg hs, bitsF, if_neg hs, i1, bitsF, if_neg (by omega), Nat.mul_div_cancel_left _ (by omega), List.map_cons, Nat.add_comm]
      exact ⟨rfl, by omega⟩
theorem idx_low {s : Nat} (h0 : s ≠ 0) (h : s < 4294967296) : idx s = Go.Lib.ctz 32 s :: idx (s &&& (s - 1)) ∧ (s &&& (s - 1)) < s := by
  have := bitsF_low 32 s h0 h
  rw [idx_F, idx_F, Go.Lib.ctz, if_neg h0]
  exact this
theorem idx_mem {s n : Nat} : n ∈ idx s ↔ n < 32 ∧ s.testBit n = true := by unfold idx; rw [List.mem_filter, List.mem_range]
theorem idx_len (s : Nat) : (idx s).length ≤ 32 := by
  unfold idx
  exact Nat.le_trans (List.length_filter_le _ _) (by simp)
theorem idx_sorted (s : Nat) : (idx s).Pairwise (· < ·) := by
  unfold idx
  exact List.Pairwise.filter _ List.pairwise_lt_range
/-- The set of some numbers. -/
def ofL (l : List Nat) : Nat := l.foldl (fun s n => s ||| 2 ^ n) 0
theorem ofL_from (l : List Nat) (s n : Nat) : (l.foldl (fun s n => s ||| 2 ^ n) s).testBit n = (s.testBit n || decide (n ∈ l)) := by
  induction l generalizing s with
  | nil => simp
  | cons x l ih =>
    rw [List.foldl_cons, ih, Nat.testBit_or, Nat.testBit_two_pow]
    by_cases h : n = x
    · subst h; simp
    · have h' : ¬ x = n := fun e => h e.symm
      simp [h, h']
theorem ofL_bit (l : List Nat) (n : Nat) : (ofL l).testBit n = decide (n ∈ l) := by unfold ofL; rw [ofL_from]; simp
theorem ofL_idx {s : Nat} (h : s < 4294967296) : ofL (idx s) = s := by
  refine Nat.eq_of_testBit_eq fun n => ?_
  rw [ofL_bit]
  by_cases hn : n < 32
  · cases hb : s.testBit n with
    | true => exact decide_eq_true (idx_mem.2 ⟨hn, hb⟩)
    | false => exact decide_eq_false (fun h => by rw [(idx_mem.1 h).2] at hb; cases hb)
  · rw [decide_eq_false (fun h => hn (idx_mem.1 h).1)]
    exact (Nat.testBit_lt_two_pow (Nat.lt_of_lt_of_le h (Nat.pow_le_pow_right (n := 2) (by omega) (Nat.le_of_not_lt hn)))).symm
end Go.Proofs.YtkofjkadmknmjaaDoor
namespace Go.Proofs.YtkofjkadmknmjaaDoor

/-! The decimal numeral of the library. -/
theorem decDigits_tens (n : Nat) : Go.Lib.decDigits n = tens n := by
  induction n using Nat.strongRecOn with
  | _ n ih =>
    unfold Go.Lib.decDigits
    by_cases h : n < 10
    · rw [dif_pos h, tens_lt h]
    · rw [dif_neg h, tens_ge h, ih (n / 10) (by omega)]
theorem itoa_nat (n : Nat) : Go.Lib.itoa (n : Int) = tens n := by
  unfold Go.Lib.itoa
  rw [if_neg (by omega), decDigits_tens, Int.toNat_natCast]
theorem itoa_neg {n : Int} (h : n < 0) : Go.Lib.itoa n = 45 :: tens n.natAbs := by
  unfold Go.Lib.itoa
  rw [if_pos h, decDigits_tens]
/-! Texts cut at a byte. -/
def consHead (p : List UInt8) : List (List UInt8) → List (List UInt8)
  | [] => [p]
  | q :: r => (p ++ q) :: r
def cuts (c : UInt8) : List UInt8 → List (List UInt8)
  | [] => [[]]
  | x :: s => if x = c then [] :: cuts c s else consHead [x] (cuts c s)
def joinC (c : UInt8) : List (List UInt8) → List UInt8
  | [] => []
  | [p] => p
  | p :: q :: r => p ++ c :: joinC c (q :: r)
theorem cuts_ne (c : UInt8) (s : List UInt8) : cuts c s ≠ [] := by
  cases s with
  | nil => simp [cuts]
  | cons x s =>
    unfold cuts
    split
    · simp
    · cases cuts c s <;> simp [consHead]
theorem consHead_two (p q : List UInt8) (l : List (List UInt8)) (h : l ≠ []) : consHead p (consHead q l) = consHead (p ++ q) l := by
  cases l with
  | nil => exact absurd rfl h
  | cons a r => simp [consHead]
theorem consHead_nil (l : List (List UInt8)) (h : l ≠ []) : consHead [] l = l := by
  cases l with
  | nil => exact absurd rfl h
  | cons a r => simp [consHead]
theorem joinC_cons (c : UInt8) (p : List UInt8) {l : List (List UInt8)} (h : l ≠ []) : joinC c (p :: l) = p ++ c :: joinC c l := by
  cases l with
  | nil => exact absurd rfl h
  | cons a r => rfl
theorem cuts_none {c : UInt8} : ∀ {p : List UInt8}, (∀ x ∈ p, x ≠ c) → cuts c p = [p]
  | [], _ => rfl
  | x :: p, h => by
    rw [cuts, if_neg (h x (List.mem_cons_self ..)), cuts_none (fun y hy => h y (List.mem_cons_of_mem _ hy))]; rfl
theorem cuts_app {c : UInt8} (s : List UInt8) : ∀ {p : List UInt8}, (∀ x ∈ p, x ≠ c) → cuts c (p ++ c :: s) = p :: cuts c s
  | [], _ => by rw [List.nil_append, cuts, if_pos rfl]
  | x :: p, h => by
    rw [List.cons_append, cuts, if_neg (h x (List.mem_cons_self ..)), cuts_app s (fun y hy => h y (List.mem_cons_of_mem _ hy))]; rfl
theorem cuts_joinC {c : UInt8} : ∀ {l : List (List UInt8)}, l ≠ [] → (∀ p ∈ l, ∀ x ∈ p, x ≠ c) → cuts c (joinC c l) = l
  | [], h, _ => absurd rfl h
  | [p], _, h => cuts_none (h p (List.mem_cons_self ..))
  | p :: q :: r, _, h => by
    show cuts c (p ++ c :: joinC c (q :: r)) = _
    rw [cuts_app _ (h p (List.mem_cons_self ..)), cuts_joinC (by simp) (fun y hy => h y (List.mem_cons_of_mem _ hy))]
theorem joinC_flat (c : UInt8) : ∀ l : List (List UInt8), (l.flatMap fun p => c :: p).drop 1 = joinC c l
  | [] => rfl
  | [p] => by simp [joinC]
  | p :: q :: r => by
    have := joinC_flat c (q :: r)
    rw [joinC_cons c p (by simp), ← this]
    simp
/-- What is cut so far of a text, up to a place. -/
def CutAt (c : UInt8) (t : List UInt8) (ps : List (List UInt8)) (f i : Nat) : Prop := f ≤ i ∧ i ≤ t.length ∧ cuts c t = ps ++ consHead ((t.drop f).take (i - f)) (cuts c (t.drop i))
theorem CutAt.start (c : UInt8) (t : List UInt8) : CutAt c t [] 0 0 := ⟨Nat.le_refl _, Nat.zero_le _, by simp [consHead_nil _ (cuts_ne c t)]⟩
theorem CutAt.sep {c : UInt8} {t : List UInt8} {ps : List (List UInt8)} {f i : Nat} (h : CutAt c t ps f i) (hi : i < t.length) (hc : t[i] = c) : CutAt c t (ps ++ [(t.drop f).take (i - f)]) (i + 1) (i + 1) := by
  refine ⟨Nat.le_refl _, hi, ?_⟩
  rw [h.2.2, List.drop_eq_getElem_cons hi, cuts, if_pos hc, Nat.sub_self, List.take_zero, consHead_nil _ (cuts_ne _ _), List.append_assoc]
  simp [consHead]
theorem CutAt.next {c : UInt8} {t : List UInt8} {ps : List (List UInt8)} {f i : Nat} (h : CutAt c t ps f i) (hi : i < t.length) (hc : t[i] ≠ c) : CutAt c t ps f (i + 1) := by
  have h1 := h.1
  refine ⟨by omega, hi, ?_⟩
  rw [h.2.2, List.drop_eq_getElem_cons hi, cuts, if_neg hc, consHead_two _ _ _ (cuts_ne _ _)]
  congr 2
  rw [show i + 1 - f = (i - f) + 1 by omega, List.take_succ_eq_append_getElem (by rw [List.length_drop]; omega), List.getElem_drop]
  congr 3
  omega
theorem CutAt.done {c : UInt8} {t : List UInt8} {ps : List (List UInt8)} {f : Nat} (h : CutAt c t ps f t.length) : cuts c t = ps ++ [t.drop f] := by
  rw [h.2.2, List.drop_length, List.take_of_length_le (by rw [List.length_drop]; exact Nat.le_refl _)]
  simp [cuts, consHead]
theorem cuts_len (c : UInt8) : ∀ s, (cuts c s).length ≤ s.length + 1
  | [] => by simp [cuts]
  | x :: s => by
    have := cuts_len c s
    unfold cuts
    split
    · simp; exact this
    · cases h : cuts c s with
      | nil => simp [consHead]
      | cons a r => rw [h] at this; simp [consHead] at *; omega
theorem cuts_part (c : UInt8) : ∀ s, ∀ p ∈ cuts c s, p.length ≤ s.length
  | [] => by simp [cuts]
  | x :: s => by
    have ih := cuts_part c s
    intro p hp
    unfold cuts at hp
    split at hp
    · rcases List.mem_cons.1 hp with h | h
      · subst h; simp
      · have := ih p h; simp; omega
    · cases h : cuts c s with
      | nil => exact absurd h (cuts_ne c s)
      | cons a r =>
        rw [h] at hp ih
        rcases List.mem_cons.1 hp with h | h
        · subst h; have := ih a (List.mem_cons_self ..); simp; omega
        · have := ih p (List.mem_cons_of_mem _ h); simp; omega
/-- strings.Split at one byte. -/
theorem split_cuts (c : UInt8) : ∀ s, Go.Lib.split s [c] = cuts c s
  | [] => by rw [Go.Lib.split, Go.Lib.count_miss (by simp [Go.Lib.index])]; rfl
  | b :: l => by
    have ih := split_cuts c l
    unfold Go.Lib.split at ih ⊢
    by_cases h : b = c
    · subst h
      have hix : Go.Lib.index (b :: l) [b] = 0 := by rw [Go.Lib.index]; simp [List.isPrefixOf]
      rw [Go.Lib.count_cons_eq, Nat.add_comm, Go.Lib.splitK, hix, if_neg (by decide), cuts, if_pos rfl, ← ih]
      simp
    · have hp : ([c] : List UInt8).isPrefixOf (b :: l) = false := by simp [List.isPrefixOf, Ne.symm h]
      have hix : Go.Lib.index (b :: l) [c] = if Go.Lib.index l [c] == -1 then -1 else Go.Lib.index l [c] + 1 := by rw [Go.Lib.index, hp]; simp
      rw [Go.Lib.count_cons_ne b c l h, cuts, if_neg h, ← ih]
      by_cases hm : Go.Lib.index l [c] = -1
      · rw [Go.Lib.count_miss hm]; rfl
      · have hge := Go.Lib.index_ge l [c]
        obtain ⟨j, hj⟩ : ∃ j : Nat, Go.Lib.index l [c] = j := ⟨(Go.Lib.index l [c]).toNat, by omega⟩
        have hne : ¬ ((j : Int) == -1) = true := fun e => by have := beq_iff_eq.1 e; omega
        have hne1 : ¬ ((j : Int) + 1 == -1) = true := fun e => by have := beq_iff_eq.1 e; omega
        rw [hj, if_neg hne] at hix
        rw [Go.Lib.count_hit (by simp) hj, Nat.add_comm, Go.Lib.splitK, Go.Lib.splitK, hix, hj, if_neg hne, if_neg hne1]
        have e1 : ((j : Int) + 1).toNat = j + 1 := by omega
        have e2 : ((j : Int)).toNat = j := by omega
        rw [e1, e2]
        simp [consHead]
/-! Texts of sets. -/
def showB (s : Nat) : List UInt8 := if s = 0 then [45] else joinC 44 ((idx s).map tens)
def readP : List (List UInt8) → Nat → Int → Option Nat
  | [], s, _ => some s
  | p :: r, s, last => match intR p 31 with
    | none => none
    | some n => if (n : Int) ≤ last then none else readP r (s ||| 2 ^ n) n
def readB (t : List UInt8) : Option Nat := if t = [45] then some 0 else readP (cuts 44 t) 0 (-1)
def orAll (ns : List Nat) (s : Nat) : Nat := ns.foldl (fun s n => s ||| 2 ^ n) s
theorem intR_tens31 {n : Nat} (h : n < 32) : intR (tens n) 31 = some n := intR_tens (by omega) (by omega)
theorem readP_tens : ∀ {ns : List Nat} {s : Nat} {last : Int}, (∀ n ∈ ns, n < 32 ∧ last < (n : Int)) → ns.Pairwise (· < ·) → readP (ns.map tens) s last = some (orAll ns s)
  | [], _, _, _, _ => rfl
  | n :: ns, s, last, h, hs => by
    rw [List.pairwise_cons] at hs
    have h0 := h n (List.mem_cons_self ..)
    rw [List.map_cons, readP, intR_tens31 h0.1]
    simp only
    rw [if_neg (by omega), readP_tens (fun m hm => ⟨(h m (List.mem_cons_of_mem _ hm)).1, by have := hs.1 m hm; omega⟩) hs.2]; rfl
theorem idx_ne {s : Nat} (h0 : s ≠ 0) (h : s < 4294967296) : idx s ≠ [] := by rw [(idx_low h0 h).1]; simp
theorem idx_lt {s n : Nat} (h : n ∈ idx s) : n < 32 := (idx_mem.1 h).1
theorem tens_no_comma (ns : List Nat) : ∀ p ∈ ns.map tens, ∀ x ∈ p, x ≠ 44 := by
  intro p hp x hx
  obtain ⟨n, _, rfl⟩ := List.mem_map.1 hp
  have := tens_digits n x hx
  intro e
  subst e
  simp at this
theorem joinC_dash {ns : List Nat} (h : ns ≠ []) : joinC 44 (ns.map tens) ≠ [45] := by
  cases ns with
  | nil => exact absurd rfl h
  | cons n ns =>
    have hne := tens_ne n
    have hd := tens_digits n
    cases ht : tens n with
    | nil => exact absurd ht hne
    | cons x r =>
      have hx := hd x (by rw [ht]; exact List.mem_cons_self ..)
      have : ∃ q, joinC 44 ((n :: ns).map tens) = x :: q := by
        rw [List.map_cons, ht]
        cases ns with
        | nil => exact ⟨r, rfl⟩
        | cons m ns => exact ⟨r ++ 44 :: joinC 44 (tens m :: ns.map tens), rfl⟩
      obtain ⟨q, hq⟩ := this
      rw [hq]
      intro e
      injection e with e _
      subst e
      simp at hx
/-- A set is read of its text. -/
theorem readB_show {s : Nat} (h : s < 4294967296) : readB (showB s) = some s := by
  unfold readB showB
  by_cases h0 : s = 0
  · rw [if_pos h0, if_pos rfl, h0]
  · have hn := idx_ne h0 h
    rw [if_neg h0, if_neg (joinC_dash hn), cuts_joinC (by simpa using hn) (tens_no_comma _), readP_tens (fun n hn => ⟨idx_lt hn, by omega⟩) (idx_sorted s)]
    exact congrArg some (ofL_idx h)
/-! Numbers are read of their texts. -/
theorem intR_itoa (n most : Int) : intR (Go.Lib.itoa n) most = if 0 ≤ n ∧ n ≤ 1099511627776 ∧ n ≤ most then some n.toNat else none := by
  by_cases h0 : n < 0
  · rw [itoa_neg h0, if_neg (by omega)]
    unfold intR
    split
    · rfl
    · have : intF 0 (45 :: tens n.natAbs) = none := by rw [intF, if_neg (by decide)]
      rw [this]
  · obtain ⟨k, rfl⟩ : ∃ k : Nat, n = k := ⟨n.toNat, by omega⟩
    rw [itoa_nat, Int.toNat_natCast]
    split
    · rename_i h
      exact intR_tens (by omega) (by omega)
    · rename_i h
      unfold intR
      split
      · rfl
      · rw [intF_tens]
        simp only
        rw [if_pos (by omega)]
end Go.Proofs.YtkofjkadmknmjaaDoor
