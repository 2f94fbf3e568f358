/-
  Lemmas (walks and plain laws), in one text.
-/
import Derived.Test.YtkofjkadmknmjaaDoorVc2
import Derived.Test.YtkofjkadmknmjaaDoorRows
import Derived.WalkKit
import Derived.WalkSpells
import Derived.WalkLawsBesides
import Derived.Lib.Hide
import Derived.Deep.QuietTactic
import Derived.BigQuiet
import Derived.Maps.AppendAt
import Derived.WalkSmall
import Derived.ProofKit
import Derived.OpenShut
import Derived.JoinedCond
import Derived.Deep.Slices
import Derived.Deep.Fields
import Derived.Carry
import Derived.Shelf.Small.Wraps
import Derived.Shelf.Utf8.RuneCount
import Derived.Shelf.Strconv.Itoa0
import Derived.Shelf.Strconv.Itoa1
import Derived.Shelf.LaysM
import Derived.Shelf.Strconv.Itoa2
import Derived.Shelf.Strconv.Itoa3
import Derived.Shelf.Strings.Search1
import Derived.Shelf.Strings.Search2
import Derived.Shelf.Strings.Search3
import Derived.Shelf.Strings.Count
import Derived.Shelf.Strings.Shaped
import Derived.Shelf.Strings.Prefix
import Derived.Shelf.Strings.Split
import Derived.Shelf.Strings.SplitShaped
import Derived.Shelf.Unicode.DecodeSlow
import Derived.Test.YtkofjkadmknmjaaDoorProg
import Derived.Deep.AppendSrc
import Derived.Lib.AppendStr
import Derived.Laws.BytesArg
import Derived.Lib.AppendIntMem
import Derived.Lib.ItoaLen
import Derived.Test.YtkofjkadmknmjaaDoorTie
import Derived.Lib.LaidTab
import Derived.LaidMore
import Derived.Stop.LaidErr
import Derived.SevenTiedAt
import Derived.HandedShaped
import Derived.Test.YtkofjkadmknmjaaDoorCards
import Derived.Deep.CutBlock
import Derived.Deep.DeepCutAuto
import Derived.Laws.IdiomStrings
import Derived.Outline
import Derived.IntWalk
import Derived.StillTail
import Derived.Laws.Tables
import Derived.Laws.Rows
import Derived.ChangeKeysEq
import Derived.Laws.StructEq
import Derived.Lib.AppendZeros
import Derived.Deep.Quiet
import Derived.OwnWalk
import Derived.Lib.TrailingZeros
import Derived.Lib.SplitLaws
import Derived.Lib.ItoaNum
import Derived.Shelf.Strings.PiecesUse
namespace Go.Proofs.YtkofjkadmknmjaaDoor

/-! Numbers. -/
def tens (n : Nat) : List UInt8 := if n < 10 then [UInt8.ofNat (48 + n)] else tens (n / 10) ++ [UInt8.ofNat (48 + n % 10)]
def intF : Nat → List UInt8 → Option Nat
  | n, [] => some n
  | n, c :: s => if 48 ≤ c.toNat ∧ c.toNat ≤ 57 then intF (10 * n + (c.toNat - 48)) s else none
def intR (s : List UInt8) (most : Int) : Option Nat :=
  if s = [] ∨ 13 < s.length ∨ (1 < s.length ∧ s.head? = some 48) then none else match intF 0 s with
    | none => none
    | some n => if most < (n : Int) ∨ 1099511627776 < n then none else some n
theorem tens_lt {n : Nat} (h : n < 10) : tens n = [UInt8.ofNat (48 + n)] := by unfold tens; rw [if_pos h]
theorem tens_ge {n : Nat} (h : ¬ n < 10) : tens n = tens (n / 10) ++ [UInt8.ofNat (48 + n % 10)] := by rw [tens, if_neg h]
theorem u8_dig {n : Nat} (h : n < 10) : (UInt8.ofNat (48 + n)).toNat = 48 + n := by simp; omega
theorem intF_append : ∀ (a b : List UInt8) (n : Nat), intF n (a ++ b) = (intF n a).bind fun m => intF m b
  | [], b, n => rfl
  | c :: a, b, n => by
    simp only [List.cons_append, intF]
    split
    · exact intF_append a b _
    · rfl
theorem tens_ne (n : Nat) : tens n ≠ [] := by
  unfold tens; split <;> simp
theorem tens_digits (n : Nat) : ∀ c ∈ tens n, 48 ≤ c.toNat ∧ c.toNat ≤ 57 := by
  induction n using Nat.strongRecOn with
  | _ n ih =>
    by_cases h : n < 10
    · rw [tens_lt h]
      intro c hc
      simp only [List.mem_singleton] at hc
      subst hc
      rw [u8_dig h]; omega
    · rw [tens_ge h]
      intro c hc
      rcases List.mem_append.1 hc with hc | hc
      · exact ih (n / 10) (by omega) c hc
      · simp only [List.mem_singleton] at hc
        subst hc
        have : n % 10 < 10 := Nat.mod_lt _ (by omega)
        rw [u8_dig this]; omega
theorem intF_tens (n : Nat) : intF 0 (tens n) = some n := by
  induction n using Nat.strongRecOn with
  | _ n ih =>
    by_cases h : n < 10
    · rw [tens_lt h]
      simp only [intF, u8_dig h]
      rw [if_pos (by omega)]
      congr 1; omega
    · have hm : n % 10 < 10 := Nat.mod_lt _ (by omega)
      rw [tens_ge h, intF_append, ih (n / 10) (by omega)]
      simp only [Option.bind_some, intF, u8_dig hm]
      rw [if_pos (by omega)]
      congr 1; omega
theorem tens_len (n k : Nat) (h : n < 10 ^ k) (hk : 1 ≤ k) : (tens n).length ≤ k := by
  induction k generalizing n with
  | zero => omega
  | succ k ih =>
    by_cases h10 : n < 10
    · rw [tens_lt h10]; simp
    · rw [tens_ge h10, List.length_append]
      have hk1 : 1 ≤ k := by
        rcases Nat.eq_zero_or_pos k with h0 | h0
        · subst h0; omega
        · exact h0
      have := ih (n / 10) (Nat.div_lt_of_lt_mul (by rw [Nat.pow_succ, Nat.mul_comm] at h; exact h)) hk1
      simp; omega
theorem tens_head (n : Nat) : (tens n).head? = some 48 → n = 0 := by
  induction n using Nat.strongRecOn with
  | _ n ih =>
    by_cases h : n < 10
    · rw [tens_lt h]
      intro he
      simp only [List.head?_cons, Option.some.injEq] at he
      have := congrArg UInt8.toNat he
      rw [u8_dig h] at this
      have h48 : (48 : UInt8).toNat = 48 := rfl
      omega
    · rw [tens_ge h]
      intro he
      have hne := tens_ne (n / 10)
      have h0 := ih (n / 10) (by omega) (by
        cases ht : tens (n / 10) with
        | nil => exact absurd ht hne
        | cons c r => rw [ht] at he; simpa using he)
      omega
/-- A number that may be is read of its text. -/
theorem intR_tens {n : Nat} {most : Int} (h : n ≤ 1099511627776) (hm : (n : Int) ≤ most) : intR (tens n) most = some n := by
  unfold intR
  have h13 := tens_len n 13 (by omega) (by omega)
  rw [if_neg, intF_tens]
  · simp only
    rw [if_neg (by omega)]
  · rintro (h1 | h1 | ⟨h1, h2⟩)
    · exact tens_ne n h1
    · omega
    · have := tens_head n h2
      subst this
      rw [tens_lt (by omega)] at h1
      simp at h1
/-! Texts in quotes. -/
def hexD (n : Nat) : UInt8 := if n < 10 then UInt8.ofNat (48 + n) else UInt8.ofNat (87 + n)
def hexV (c : UInt8) : Nat := if 48 ≤ c.toNat ∧ c.toNat ≤ 57 then c.toNat - 48 else if 97 ≤ c.toNat ∧ c.toNat ≤ 102 then c.toNat - 87 else 16
def quC (c : UInt8) : List UInt8 := if c.toNat < 32 ∨ 126 < c.toNat then [92, 120, hexD (c.toNat / 16), hexD (c.toNat % 16)] else if c = 34 ∨ c = 92 then [92, c] else [c]
def quote (s : List UInt8) : List UInt8 := 34 :: (s.flatMap quC ++ [34])
/-- What stands between quotes. -/
def unq : List UInt8 → Option (List UInt8)
  | [] => some []
  | [c] => if c.toNat < 32 ∨ 126 < c.toNat ∨ c = 34 ∨ c = 92 then none else some [c]
  | c :: d :: s =>
    if c.toNat < 32 ∨ 126 < c.toNat ∨ c = 34 then none
    else if c ≠ 92 then (unq (d :: s)).map (c :: ·)
    else if d = 34 ∨ d = 92 then (unq s).map (d :: ·)
    else match s with
      | a :: b :: r => if d ≠ 120 ∨ 15 < hexV a ∨ 15 < hexV b ∨ (32 ≤ 16 * hexV a + hexV b ∧ 16 * hexV a + hexV b ≤ 126) then none else (unq r).map (UInt8.ofNat (16 * hexV a + hexV b) :: ·)
      | _ => none
def unquote (t : List UInt8) : Option (List UInt8) := if t.length < 2 ∨ t.head? ≠ some 34 ∨ t.getLast? ≠ some 34 then none else unq (t.drop 1).dropLast
theorem hexV_D {n : Nat} (h : n < 16) : hexV (hexD n) = n := by
  unfold hexV hexD
  have h1 : ∀ k, k < 256 → (UInt8.ofNat k).toNat = k := fun k hk => by simp; omega
  by_cases h10 : n < 10
  · simp only [if_pos h10, h1 (48 + n) (by omega)]
    rw [if_pos (by omega)]; omega
  · simp only [if_neg h10, h1 (87 + n) (by omega)]
    rw [if_neg (by omega), if_pos (by omega)]; omega
theorem unq_one (c : UInt8) : unq [c] = if c.toNat < 32 ∨ 126 < c.toNat ∨ c = 34 ∨ c = 92 then none else some [c] := by rw [unq.eq_def]
theorem unq_two (c d : UInt8) (s : List UInt8) : unq (c :: d :: s) = if c.toNat < 32 ∨ 126 < c.toNat ∨ c = 34 then none
    else if c ≠ 92 then (unq (d :: s)).map (c :: ·)
    else if d = 34 ∨ d = 92 then (unq s).map (d :: ·)
    else match s with
      | a :: b :: r => if d ≠ 120 ∨ 15 < hexV a ∨ 15 < hexV b ∨ (32 ≤ 16 * hexV a + hexV b ∧ 16 * hexV a + hexV b ≤ 126) then none else (unq r).map (UInt8.ofNat (16 * hexV a + hexV b) :: ·)
      | _ => none := by rw [unq.eq_def]
theorem unq_cons {c : UInt8} (hc : ¬ (c.toNat < 32 ∨ 126 < c.toNat ∨ c = 34)) (h92 : c ≠ 92) (s : List UInt8) : unq (c :: s) = (unq s).map (c :: ·) := by
  cases s with
  | nil => 
    rw [unq_one, if_neg (by
      rintro (h | h | h | h)
      · exact hc (.inl h)
      · exact hc (.inr (.inl h))
      · exact hc (.inr (.inr h))
      · exact h92 h)]
    rfl
  | cons d s => rw [unq_two, if_neg hc, if_pos h92]
theorem unq_esc {d : UInt8} (hd : d = 34 ∨ d = 92) (s : List UInt8) : unq (92 :: d :: s) = (unq s).map (d :: ·) := by
  rw [unq_two, if_neg (by decide), if_neg (by simp), if_pos hd]
theorem unq_hex {a b : UInt8} (s : List UInt8) (h : ¬ (15 < hexV a ∨ 15 < hexV b ∨ (32 ≤ 16 * hexV a + hexV b ∧ 16 * hexV a + hexV b ≤ 126))) :
    unq (92 :: 120 :: a :: b :: s) = (unq s).map (UInt8.ofNat (16 * hexV a + hexV b) :: ·) := by
  rw [unq_two, if_neg (by decide), if_neg (by simp), if_neg (by decide)]
  exact if_neg (fun h1 => h1.elim (fun h2 => h2 rfl) h)
/-- A text is read of its quotes. -/
theorem unq_quote : ∀ s : List UInt8, unq (s.flatMap quC) = some s
  | [] => rfl
  | c :: s => by
    have ih := unq_quote s
    have hc := c.toNat_lt
    rw [List.flatMap_cons]
    rw [quC]
    by_cases h1 : c.toNat < 32 ∨ 126 < c.toNat
    · rw [if_pos h1]
      have ha := hexV_D (n := c.toNat / 16) (by omega)
      have hb := hexV_D (n := c.toNat % 16) (Nat.mod_lt _ (by omega))
      have he : 16 * (c.toNat / 16) + c.toNat % 16 = c.toNat := Nat.div_add_mod _ _
      simp only [List.cons_append, List.nil_append]
      rw [unq_hex _ (by rw [ha, hb, he]; omega), ha, hb, he, ih]
      simp
    · rw [if_neg h1]
      by_cases h2 : c = 34 ∨ c = 92
      · rw [if_pos h2]
        simp only [List.cons_append, List.nil_append]
        rw [unq_esc h2, ih]; rfl
      · rw [if_neg h2]
        simp only [List.cons_append, List.nil_append]
        rw [unq_cons (by rintro (h | h | h); · exact h1 (.inl h)
                         · exact h1 (.inr h)
                         · exact h2 (.inl h)) (fun h => h2 (.inr h)), ih]; rfl
theorem unquote_quote (s : List UInt8) : unquote (quote s) = some s := by
  unfold unquote quote
  rw [if_neg]
  · rw [List.drop_one, List.tail_cons, List.dropLast_concat]
    exact unq_quote s
  · rintro (h | h | h)
    · simp at h; omega
    · simp at h
    · apply h
      rw [show (34 : UInt8) :: (s.flatMap quC ++ [34]) = ((34 : UInt8) :: s.flatMap quC) ++ [34] by simp, List.getLast?_concat]
end Go.Proofs.YtkofjkadmknmjaaDoor
namespace Go.Proofs.YtkofjkadmknmjaaDoor
open Go.RowKit

def intV (s : List UInt8) (most : Int) : Int := match intR s most with | some n => n | none => 0
def intOk (s : List UInt8) (most : Int) : Bool := (intR s most).isSome
theorem intR_none {s : List UInt8} {most : Int} (h : intR s most = none) : intV s most = 0 ∧ intOk s most = false := by unfold intV intOk; rw [h]; exact ⟨rfl, rfl⟩
theorem intR_some {s : List UInt8} {most : Int} {n : Nat} (h : intR s most = some n) : intV s most = n ∧ intOk s most = true := by unfold intV intOk; rw [h]; exact ⟨rfl, rfl⟩
theorem intF_lt : ∀ (s : List UInt8) (n m : Nat), intF n s = some m → m < (n + 1) * 10 ^ s.length
  | [], n, m, h => by simp only [intF, Option.some.injEq] at h; subst h; simp
  | c :: s, n, m, h => by
    rw [intF] at h
    split at h
    · have := intF_lt s _ m h
      have e : (10 * n + (c.toNat - 48) + 1) * 10 ^ s.length ≤ (n + 1) * 10 * 10 ^ s.length := Nat.mul_le_mul_right _ (by omega)
      rw [List.length_cons, Nat.pow_succ]
      rw [Nat.mul_comm (10 ^ s.length) 10, ← Nat.mul_assoc]; omega
    · cases h
/-- How far a number's text has been read. -/
def IntAt (s : List UInt8) (k n : Nat) : Prop := intF 0 s = intF n (s.drop k) ∧ n < 10 ^ k
theorem IntAt.start (s : List UInt8) : IntAt s 0 0 := ⟨rfl, by simp⟩
theorem IntAt.next {s : List UInt8} {k n : Nat} (h : IntAt s k n) (hk : k < s.length) (h1 : 48 ≤ s[k].toNat) (h2 : s[k].toNat ≤ 57) : IntAt s (k + 1) (10 * n + (s[k].toNat - 48)) := by
  refine ⟨?_, ?_⟩
  · rw [h.1, List.drop_eq_getElem_cons hk, intF, if_pos ⟨h1, h2⟩]
  · have := h.2
    rw [Nat.pow_succ]; omega
theorem IntAt.bad {s : List UInt8} {k n : Nat} (h : IntAt s k n) (hk : k < s.length) (h1 : ¬ (48 ≤ s[k].toNat ∧ s[k].toNat ≤ 57)) : intF 0 s = none := by
  rw [h.1, List.drop_eq_getElem_cons hk, intF, if_neg h1]
theorem IntAt.done {s : List UInt8} {n : Nat} (h : IntAt s s.length n) : intF 0 s = some n := by
  rw [h.1, List.drop_length, intF]
theorem head_zero {s : List UInt8} (h : 0 < s.length) : (s.head? = some 48) = (s[0].toNat = 48) := by
  cases s with
  | nil => simp at h
  | cons c s =>
    simp only [List.head?_cons, Option.some.injEq, List.getElem_cons_zero, eq_iff_iff]
    constructor
    · intro h; subst h; rfl
    · intro h; have : c = UInt8.ofNat c.toNat := by simp
      rw [this, h]; rfl
theorem str_beq_nil {s : List UInt8} (h : s ≠ []) : s.isEmpty = false := by cases s <;> simp_all

set_option maxHeartbeats 1000000 in
set_option maxRecDepth 4000 in
theorem c_bits_Int (s : List UInt8) (most : Int) (w : World) (hs : s.length ≤ 4294967296) : Calls Tryd.prog 31 #[.string (str s), .int .i64 most] w (RetV w (.tuple #[.int .i64 (intV s most), .bool (intOk s most)])) := by
  by_cases hb : s = [] ∨ 13 < s.length ∨ (1 < s.length ∧ s.head? = some 48)
  · have hn : intR s most = none := by unfold intR; rw [if_pos hb]
    rw [(intR_none hn).1, (intR_none hn).2]
    clear hn
    rcases hb with rfl | hb | ⟨h1, h2⟩
    · go_enter Tryd.func31, Tryd.ntmps31
      go_wp2_with (fail)
      go_ret2
      exact RetV.of rfl (by repeat (first | exact Below.refl _ _ | refine Below.drew ?_ | refine Below.alloc ?_ (by first | omega | (simp; done) | (simp; omega)) _ | refine Below.setCell ?_ (by first | omega | (simp; done) | (simp; omega)) _ | refine Below.trans ?_ (Below.mono (by assumption) (by first | omega | (simp; done) | (simp; omega)))))
    · have he := str_beq_nil (s := s) (by intro h; subst h; simp at hb)
      have h13 : decide ((13 : Int) < (s.length : Int)) = true := by simp; omega
      go_enter Tryd.func31, Tryd.ntmps31
      go_wp2_with (fail)
      all_goals (go_ret2; exact RetV.of rfl (by repeat (first | exact Below.refl _ _ | refine Below.drew ?_ | refine Below.alloc ?_ (by first | omega | (simp; done) | (simp; omega)) _ | refine Below.setCell ?_ (by first | omega | (simp; done) | (simp; omega)) _ | refine Below.trans ?_ (Below.mono (by assumption) (by first | omega | (simp; done) | (simp; omega))))))
    · rw [head_zero (by omega)] at h2
      have h0 : 0 < s.length := by omega
      have hz : ((s[0].toNat : Int) == 48) = true := by simp; omega
      go_enter Tryd.func31, Tryd.ntmps31
      go_wp2_with (fail)
      all_goals (go_ret2; exact RetV.of rfl (by repeat (first | exact Below.refl _ _ | refine Below.drew ?_ | refine Below.alloc ?_ (by first | omega | (simp; done) | (simp; omega)) _ | refine Below.setCell ?_ (by first | omega | (simp; done) | (simp; omega)) _ | refine Below.trans ?_ (Below.mono (by assumption) (by first | omega | (simp; done) | (simp; omega))))))
  · have hne : s ≠ [] := fun h => hb (.inl h)
    have hlen : s.length ≤ 13 := Nat.le_of_not_lt fun h => hb (.inr (.inl h))
    have h0 : 0 < s.length := by
      rcases Nat.eq_zero_or_pos s.length with h | h
      · exact absurd (List.eq_nil_of_length_eq_zero h) hne
      · exact h
    have hz : 1 < s.length → ((s[0].toNat : Int) == 48) = false := fun h1 => by
      have : ¬ s[0].toNat = 48 := fun h => hb (.inr (.inr ⟨h1, by rw [head_zero h0]; exact h⟩))
      simp; omega
    have hR : intR s most = match intF 0 s with | none => none | some n => if most < (n : Int) ∨ 1099511627776 < n then none else some n := by unfold intR; rw [if_neg hb] <;> rfl
    have HR := Lib.hid hR
    have he := str_beq_nil hne
    have h13 : decide ((13 : Int) < (s.length : Int)) = false := by simp; omega
    clear hR hb hne
    have key : Calls Tryd.prog 31 #[.string (str s), .int .i64 most] w (RetV w (.tuple #[.int .i64 (intV s most), .bool (intOk s most)])) := by
      by_cases h1 : 1 < s.length
      all_goals
        first
          | (have hz1 := hz h1; have h1' : decide ((1 : Int) < (s.length : Int)) = true := by simp; omega)
          | (have h1' : decide ((1 : Int) < (s.length : Int)) = false := by simp; omega)
        clear hz h1
        go_enter Tryd.func31, Tryd.ntmps31
        go_wp2_with (with_reducible refine stop_conv 9 63 (.tmp 26) rfl rfl ?_)
        refine Stop.mk (wpList_strbytes rfl _ _ (.tmp 26) rfl Tryd.underlying9 Tryd.underlying63 Tryd.underlying5 s rfl hs ?_)
        intro A c w1 hlaid
        have hb1 := hlaid.below
        have Hl := Lib.hid hlaid
        clear hlaid
        go_wp2_with (fail)
        go_loopw [6, 29] (fun n i wr => ∃ k m : Nat, Hid (IntAt s k m) ∧ k ≤ s.length ∧ i = .int .i64 k ∧ n = .int .i64 m ∧ wr = w1) (fun _ i _ => s.length - (intOf i).toNat)
        case atStart => exact ⟨0, 0, IntAt.start s, by omega, rfl, rfl, rfl⟩
        case round =>
          obtain ⟨k, m, hp, hk, rfl, rfl, rfl⟩ := hrel
          have hm := hp.out.2
          have hm13 : m < 10 ^ 13 := Nat.lt_of_lt_of_le hm (Nat.pow_le_pow_right (by omega) (by omega))
          clear hm
          by_cases hlt : k < s.length
          · obtain ⟨b, off, rfl, hbb, hrow⟩ := Hl.out.reads.at hlt
            have e0 : wr.cell? ⟨b, off + k, none⟩ = some (.int .u8 s[k].toNat) := by have := hrow k hlt 0 _ rfl; simpa using this
            have hk0 : (0 : Int) ≤ (k : Int) := by omega
            have hk1 : (k : Int) < (s.length : Int) := by omega
            have h256 := s[k].toNat_lt
            by_cases hd : 48 ≤ s[k].toNat ∧ s[k].toNat ≤ 57
            · have hp2 := Lib.hid (hp.out.next hlt hd.1 hd.2)
              have hd1 : decide ((s[k].toNat : Int) < 48) = false := by simp; omega
              have hd2 : decide ((57 : Int) < (s[k].toNat : Int)) = false := by simp; omega
              have hd3 := hd.1
              have hd4 := hd.2
              clear hrow hd hp
              go_wp2_with (fail)
              go_roundw
              case rel => exact ⟨k + 1, 10 * m + (s[k].toNat - 48), hp2.out, by omega, by go_num, by first | rfl | (congr 1; push_cast; omega) | (simp; omega), by first | rfl | trivial⟩
              case measure => simp [intOf]; omega
            · have hn : intR s most = none := by rw [HR.out, hp.out.bad hlt hd]
              have HN1 := Lib.hid (intR_none hn).1
              have HN2 := Lib.hid (intR_none hn).2
              clear hn hrow hp HR
              by_cases hd1 : s[k].toNat < 48
              all_goals
                first
                  | (have hd2 : decide ((s[k].toNat : Int) < 48) = true := by simp; omega)
                  | ((have hd2 : decide ((s[k].toNat : Int) < 48) = false := by simp; omega); (have hd3 : decide ((57 : Int) < (s[k].toNat : Int)) = true := by simp; omega))
                clear hd1 hd
                go_wp2_with (fail)
                go_ret2
                rw [HN1.out, HN2.out]
                exact RetV.of rfl hb1
          · obtain rfl : k = s.length := by omega
            have hdone := hp.out.done
            have hmm := intF_lt s 0 m hdone
            clear hp hlt
            by_cases hlong : most < (m : Int) ∨ 1099511627776 < m
            · have hn : intR s most = none := by rw [HR.out, hdone]; simp only; rw [if_pos hlong]
              have HN1 := Lib.hid (intR_none hn).1
              have HN2 := Lib.hid (intR_none hn).2
              have hmin : decide (min most 1099511627776 < (m : Int)) = true := by simp; omega
              clear hn hdone HR hlong
              go_wp2_with (fail)
              go_ret2
              rw [HN1.out, HN2.out]
              exact RetV.of rfl hb1
            · have hn : intR s most = some m := by rw [HR.out, hdone]; simp only; rw [if_neg hlong]
              have HN1 := Lib.hid (intR_some hn).1
              have HN2 := Lib.hid (intR_some hn).2
              have hmin : decide (min most 1099511627776 < (m : Int)) = false := by simp; omega
              clear hn hdone HR hlong
              go_wp2_with (fail)
              go_ret2
              rw [HN1.out, HN2.out]
              exact RetV.of rfl hb1
    exact key
end Go.Proofs.YtkofjkadmknmjaaDoor
namespace Go.Proofs.YtkofjkadmknmjaaDoor
open Go.RowKit

set_option maxHeartbeats 400000 in
theorem c_value_hex (c : UInt8) (w : World) : Calls Tryd.prog 91 #[.int .u8 c.toNat] w (RetV w (.int .u8 (hexV c))) := by
  have hc := c.toNat_lt
  go_enter Tryd.func91, Tryd.ntmps91
  go_wp2_with (fail)
  all_goals (go_ret; refine RetV.int ?_ (by repeat (first | exact Below.refl _ _ | refine Below.drew ?_ | refine Below.alloc ?_ (by first | omega | (simp; done) | (simp; omega)) _ | refine Below.setCell ?_ (by first | omega | (simp; done) | (simp; omega)) _ | refine Below.trans ?_ (Below.mono (by assumption) (by first | omega | (simp; done) | (simp; omega))))); unfold hexV; (repeat' split) <;> omega)
end Go.Proofs.YtkofjkadmknmjaaDoor
