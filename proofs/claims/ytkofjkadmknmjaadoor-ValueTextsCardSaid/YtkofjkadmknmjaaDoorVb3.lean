/-
  Numbers and texts in quotes, as bytes: how they are shown, how they are read, that each is read of its text, and that what is read has just that text. No program is looked at here.
-/
import Derived.Test.YtkofjkadmknmjaaDoorVb2
import Derived.Test.YtkofjkadmknmjaaDoorRows
import Derived.WalkKit
import Derived.WalkSpells
import Derived.WalkLawsBesides
import Derived.Lib.Hide
import Derived.Deep.QuietTactic
import Derived.BigQuiet
import Derived.Maps.AppendAt
import Derived.WalkSmall
import Derived.ProofKit
import Derived.OpenShut
import Derived.JoinedCond
import Derived.Deep.Slices
import Derived.Deep.Fields
import Derived.Carry
import Derived.Shelf.Small.Wraps
import Derived.Shelf.Utf8.RuneCount
import Derived.Shelf.Strconv.Itoa0
import Derived.Shelf.Strconv.Itoa1
import Derived.Shelf.LaysM
import Derived.Shelf.Strconv.Itoa2
import Derived.Shelf.Strconv.Itoa3
import Derived.Shelf.Strings.Search1
import Derived.Shelf.Strings.Search2
import Derived.Shelf.Strings.Search3
import Derived.Shelf.Strings.Count
import Derived.Shelf.Strings.Shaped
import Derived.Shelf.Strings.Prefix
import Derived.Shelf.Strings.Split
import Derived.Shelf.Strings.SplitShaped
import Derived.Shelf.Unicode.DecodeSlow
import Derived.Test.YtkofjkadmknmjaaDoorProg
import Derived.Deep.AppendSrc
import Derived.Lib.AppendStr
import Derived.Laws.BytesArg
import Derived.Lib.AppendIntMem
import Derived.Lib.ItoaLen
import Derived.Test.YtkofjkadmknmjaaDoorTie
import Derived.Lib.LaidTab
import Derived.LaidMore
import Derived.Stop.LaidErr
import Derived.SevenTiedAt
import Derived.HandedShaped
import Derived.Test.YtkofjkadmknmjaaDoorCards
import Derived.Deep.CutBlock
import Derived.Deep.DeepCutAuto
import Derived.Laws.IdiomStrings
import Derived.Outline
import Derived.IntWalk
import Derived.StillTail
import Derived.Laws.Tables
import Derived.Laws.Rows
import Derived.ChangeKeysEq
import Derived.Laws.StructEq
import Derived.Lib.AppendZeros
import Derived.Deep.Quiet
import Derived.OwnWalk
import Derived.Lib.TrailingZeros
import Derived.Lib.SplitLaws
import Derived.Lib.ItoaNum
import Derived.Shelf.Strings.PiecesUse
namespace Go.Proofs.YtkofjkadmknmjaaDoor

/-! Numbers. -/
def tens (n : Nat) : List UInt8 := if n < 10 then [UInt8.ofNat (48 + n)] else tens (n / 10) ++ [UInt8.ofNat (48 + n % 10)]
def intF : Nat → List UInt8 → Option Nat
  | n, [] => some n
  | n, c :: s => if 48 ≤ c.toNat ∧ c.toNat ≤ 57 then intF (10 * n + (c.toNat - 48)) s else none
def intR (s : List UInt8) (most : Int) : Option Nat :=
  if s = [] ∨ 13 < s.length ∨ (1 < s.length ∧ s.head? = some 48) then none else match intF 0 s with
    | none => none
    | some n => if most < (n : Int) ∨ 1099511627776 < n then none else some n
theorem tens_lt {n : Nat} (h : n < 10) : tens n = [UInt8.ofNat (48 + n)] := by unfold tens; rw [if_pos h]
theorem tens_ge {n : Nat} (h : ¬ n < 10) : tens n = tens (n / 10) ++ [UInt8.ofNat (48 + n % 10)] := by rw [tens, if_neg h]
theorem intF_append : ∀ (a b : List UInt8) (n : Nat), intF n (a ++ b) = (intF n a).bind fun m => intF m b
  | [], b, n => rfl
  | c :: a, b, n => by
    simp only [List.cons_append, intF]
    split
    · exact intF_append a b _
    · rfl
theorem tens_len (n k : Nat) (h : n < 10 ^ k) (hk : 1 ≤ k) : (tens n).length ≤ k := by
  induction k generalizing n with
  | zero => omega
  | succ k ih =>
    by_cases h10 : n < 10
    · rw [tens_lt h10]; simp
    · rw [tens_ge h10, List.length_append]
      have hk1 : 1 ≤ k := by
        rcases Nat.eq_zero_or_pos k with h0 | h0
        · subst h0; omega
        · exact h0
      have := ih (n / 10) (Nat.div_lt_of_lt_mul (by rw [Nat.pow_succ, Nat.mul_comm] at h; exact h)) hk1
      simp; omega
theorem snoc_or {α : Type} (l : List α) : l = [] ∨ ∃ r t, l = r ++ [t] := by
  rcases List.eq_nil_or_concat l with h | ⟨r, t, h⟩
  · exact .inl h
  · exact .inr ⟨r, t, by rw [h, List.concat_eq_append]⟩
theorem tens_intF (k : Nat) : ∀ (s : List UInt8) (n : Nat), s.length = k → s ≠ [] → (1 < s.length → s.head? ≠ some 48) → intF 0 s = some n → s = tens n ∧ (s.head? ≠ some 48 → 0 < n) := by
  induction k with
  | zero => intro s n hl hne; exact absurd (List.eq_nil_of_length_eq_zero hl) hne
  | succ k ih =>
    intro s n hl hne hh hs
    rcases snoc_or s with rfl | ⟨r, t, rfl⟩
    · exact absurd rfl hne
    · rw [intF_append] at hs
      cases hr : intF 0 r with
      | none => rw [hr] at hs; cases hs
      | some m =>
        rw [hr] at hs
        simp only [Option.bind_some, intF] at hs
        split at hs
        · rename_i ht
          injection hs with hs
          have ht2 : t = UInt8.ofNat (48 + (t.toNat - 48)) := by
            rw [show 48 + (t.toNat - 48) = t.toNat by omega]; simp
          by_cases hr0 : r = []
          · subst hr0
            simp only [intF, Option.some.injEq] at hr
            subst hr
            have hn : n = t.toNat - 48 := by omega
            subst hn
            refine ⟨by rw [tens_lt (by omega), ← ht2]; rfl, fun h => ?_⟩
            rcases Nat.eq_zero_or_pos (t.toNat - 48) with h0 | h0
            · exfalso; apply h
              have : t.toNat = 48 := by omega
              have h48 : t = 48 := by rw [ht2, this]; rfl
              rw [h48]; rfl
            · exact h0
          · have hrl : r.length = k := by simpa using hl
            have hrp : 0 < r.length := by
              rcases Nat.eq_zero_or_pos r.length with h0 | h0
              · exact absurd (List.eq_nil_of_length_eq_zero h0) hr0
              · exact h0
            have hhr : (r ++ [t]).head? = r.head? := by
              cases r with
              | nil => exact absurd rfl hr0
              | cons c r => rfl
            have hh' := hh (by simp; omega)
            rw [hhr] at hh'
            obtain ⟨h1, h2⟩ := ih r m hrl hr0 (fun _ => hh') hr
            have hm := h2 hh'
            refine ⟨?_, fun _ => by omega⟩
            rw [tens_ge (by omega), show n / 10 = m by omega, show n % 10 = t.toNat - 48 by omega, ← h1, ← ht2]
        · cases hs
/-- What is read as a number is its text. -/
theorem tens_intR {s : List UInt8} {most : Int} {n : Nat} (h : intR s most = some n) : s = tens n ∧ n ≤ 1099511627776 ∧ (n : Int) ≤ most := by
  unfold intR at h
  split at h
  · cases h
  · rename_i h1
    cases hi : intF 0 s with
    | none => rw [hi] at h; cases h
    | some m =>
      rw [hi] at h
      simp only at h
      split at h
      · cases h
      · injection h with h
        subst h
        refine ⟨(tens_intF s.length s m rfl (fun e => h1 (.inl e)) (fun hl e => h1 (.inr (.inr ⟨hl, e⟩))) hi).1, by omega, by omega⟩

/-! Texts in quotes. -/
def hexD (n : Nat) : UInt8 := if n < 10 then UInt8.ofNat (48 + n) else UInt8.ofNat (87 + n)
def hexV (c : UInt8) : Nat := if 48 ≤ c.toNat ∧ c.toNat ≤ 57 then c.toNat - 48 else if 97 ≤ c.toNat ∧ c.toNat ≤ 102 then c.toNat - 87 else 16
def quC (c : UInt8) : List UInt8 := if c.toNat < 32 ∨ 126 < c.toNat then [92, 120, hexD (c.toNat / 16), hexD (c.toNat % 16)] else if c = 34 ∨ c = 92 then [92, c] else [c]
def quote (s : List UInt8) : List UInt8 := 34 :: (s.flatMap quC ++ [34])
/-- What stands between quotes. -/
def unq : List UInt8 → Option (List UInt8)
  | [] => some []
  | [c] => if c.toNat < 32 ∨ 126 < c.toNat ∨ c = 34 ∨ c = 92 then none else some [c]
  | c :: d :: s =>
    if c.toNat < 32 ∨ 126 < c.toNat ∨ c = 34 then none
    else if c ≠ 92 then (unq (d :: s)).map (c :: ·)
    else if d = 34 ∨ d = 92 then (unq s).map (d :: ·)
    else match s with
      | a :: b :: r => if d ≠ 120 ∨ 15 < hexV a ∨ 15 < hexV b ∨ (32 ≤ 16 * hexV a + hexV b ∧ 16 * hexV a + hexV b ≤ 126) then none else (unq r).map (UInt8.ofNat (16 * hexV a + hexV b) :: ·)
      | _ => none
def unquote (t : List UInt8) : Option (List UInt8) := if t.length < 2 ∨ t.head? ≠ some 34 ∨ t.getLast? ≠ some 34 then none else unq (t.drop 1).dropLast
theorem hexV_D {n : Nat} (h : n < 16) : hexV (hexD n) = n := by
  unfold hexV hexD
  have h1 : ∀ k, k < 256 → (UInt8.ofNat k).toNat = k := fun k hk => by simp; omega
  by_cases h10 : n < 10
  · simp only [if_pos h10, h1 (48 + n) (by omega)]
    rw [if_pos (by omega)]; omega
  · simp only [if_neg h10, h1 (87 + n) (by omega)]
    rw [if_neg (by omega), if_pos (by omega)]; omega
theorem hexD_V {c : UInt8} (h : ¬ 15 < hexV c) : hexD (hexV c) = c := by
  unfold hexV at *
  by_cases h1 : 48 ≤ c.toNat ∧ c.toNat ≤ 57
  · rw [if_pos h1]
    unfold hexD
    rw [if_pos (by omega), show 48 + (c.toNat - 48) = c.toNat by omega]; simp
  · rw [if_neg h1] at h ⊢
    by_cases h2 : 97 ≤ c.toNat ∧ c.toNat ≤ 102
    · rw [if_pos h2]
      unfold hexD
      rw [if_neg (by omega), show 87 + (c.toNat - 87) = c.toNat by omega]; simp
    · rw [if_neg h2] at h; omega
theorem unq_one (c : UInt8) : unq [c] = if c.toNat < 32 ∨ 126 < c.toNat ∨ c = 34 ∨ c = 92 then none else some [c] := by rw [unq.eq_def]
theorem unq_two (c d : UInt8) (s : List UInt8) : unq (c :: d :: s) = if c.toNat < 32 ∨ 126 < c.toNat ∨ c = 34 then none
    else if c ≠ 92 then (unq (d :: s)).map (c :: ·)
    else if d = 34 ∨ d = 92 then (unq s).map (d :: ·)
    else match s with
      | a :: b :: r => if d ≠ 120 ∨ 15 < hexV a ∨ 15 < hexV b ∨ (32 ≤ 16 * hexV a + hexV b ∧ 16 * hexV a + hexV b ≤ 126) then none else (unq r).map (UInt8.ofNat (16 * hexV a + hexV b) :: ·)
      | _ => none := by rw [unq.eq_def]
theorem unq_cons {c : UInt8} (hc : ¬ (c.toNat < 32 ∨ 126 < c.toNat ∨ c = 34)) (h92 : c ≠ 92) (s : List UInt8) : unq (c :: s) = (unq s).map (c :: ·) := by
  cases s with
  | nil => 
    rw [unq_one, if_neg (by
      rintro (h | h | h | h)
      · exact hc (.inl h)
      · exact hc (.inr (.inl h))
      · exact hc (.inr (.inr h))
      · exact h92 h)]
    rfl
  | cons d s => rw [unq_two, if_neg hc, if_pos h92]
theorem unq_esc {d : UInt8} (hd : d = 34 ∨ d = 92) (s : List UInt8) : unq (92 :: d :: s) = (unq s).map (d :: ·) := by
  rw [unq_two, if_neg (by decide), if_neg (by simp), if_pos hd]
theorem unq_hex {a b : UInt8} (s : List UInt8) (h : ¬ (15 < hexV a ∨ 15 < hexV b ∨ (32 ≤ 16 * hexV a + hexV b ∧ 16 * hexV a + hexV b ≤ 126))) :
    unq (92 :: 120 :: a :: b :: s) = (unq s).map (UInt8.ofNat (16 * hexV a + hexV b) :: ·) := by
  rw [unq_two, if_neg (by decide), if_neg (by simp), if_neg (by decide)]
  exact if_neg (fun h1 => h1.elim (fun h2 => h2 rfl) h)
/-- A text is read of its quotes. -/
theorem unq_quote : ∀ s : List UInt8, unq (s.flatMap quC) = some s
  | [] => rfl
  | c :: s => by
    have ih := unq_quote s
    have hc := c.toNat_lt
    rw [List.flatMap_cons]
    rw [quC]
    by_cases h1 : c.toNat < 32 ∨ 126 < c.toNat
    · rw [if_pos h1]
      have ha := hexV_D (n := c.toNat / 16) (by omega)
      have hb := hexV_D (n := c.toNat % 16) (Nat.mod_lt _ (by omega))
      have he : 16 * (c.toNat / 16) + c.toNat % 16 = c.toNat := Nat.div_add_mod _ _
      simp only [List.cons_append, List.nil_append]
      rw [unq_hex _ (by rw [ha, hb, he]; omega), ha, hb, he, ih]
      simp
    · rw [if_neg h1]
      by_cases h2 : c = 34 ∨ c = 92
      · rw [if_pos h2]
        simp only [List.cons_append, List.nil_append]
        rw [unq_esc h2, ih]; rfl
      · rw [if_neg h2]
        simp only [List.cons_append, List.nil_append]
        rw [unq_cons (by rintro (h | h | h); · exact h1 (.inl h)
                         · exact h1 (.inr h)
                         · exact h2 (.inl h)) (fun h => h2 (.inr h)), ih]; rfl
/-- What is read of quotes has just that text. -/
theorem quote_unq (k : Nat) : ∀ (t : List UInt8) (u : List UInt8), t.length ≤ k → unq t = some u → u.flatMap quC = t := by
  induction k with
  | zero =>
    intro t u hl h
    have : t = [] := List.eq_nil_of_length_eq_zero (by omega)
    subst this
    simp only [unq, Option.some.injEq] at h
    subst h; rfl
  | succ k ih =>
    intro t u hl h
    match t, hl, h with
    | [], _, h =>
      simp only [unq, Option.some.injEq] at h
      subst h; rfl
    | [c], _, h =>
      rw [unq_one] at h
      split at h
      · cases h
      · rename_i hc
        injection h with h
        subst h
        simp only [List.flatMap_cons, List.flatMap_nil, List.append_nil, quC]
        rw [if_neg (by rintro (h | h); · exact hc (.inl h)
                       · exact hc (.inr (.inl h))), if_neg (by rintro (h | h); · exact hc (.inr (.inr (.inl h)))
                                                               · exact hc (.inr (.inr (.inr h))))]
    | c :: d :: s, hl, h =>
      rw [unq_two] at h
      split at h
      · cases h
      · rename_i hc
        split at h
        · rename_i h92
          obtain ⟨u', hu', rfl⟩ := Option.map_eq_some_iff.1 h
          have := ih (d :: s) u' (by simp at hl ⊢; omega) hu'
          rw [List.flatMap_cons, this, quC, if_neg (by rintro (h | h); · exact hc (.inl h)
                                                       · exact hc (.inr (.inl h))), if_neg (by rintro (h | h); · exact hc (.inr (.inr h))
                                                                                               · exact h92 h)]
          rfl
        · rename_i h92
          have h92 : c = 92 := by simpa using h92
          subst h92
          split at h
          · rename_i hd
            obtain ⟨u', hu', rfl⟩ := Option.map_eq_some_iff.1 h
            have := ih s u' (by simp at hl; omega) hu'
            rw [List.flatMap_cons, this, quC, if_neg (by rcases hd with rfl | rfl <;> decide), if_pos hd]
            rfl
          · match s, hl, h with
            | a :: b :: r, hl, h =>
              simp only at h
              split at h
              · cases h
              · rename_i hx
                obtain ⟨u', hu', rfl⟩ := Option.map_eq_some_iff.1 h
                have := ih r u' (by simp at hl; omega) hu'
                have hd : d = 120 := Decidable.byContradiction fun e => hx (.inl e)
                have ha : ¬ 15 < hexV a := fun e => hx (.inr (.inl e))
                have hb : ¬ 15 < hexV b := fun e => hx (.inr (.inr (.inl e)))
                have hab : ¬ (32 ≤ 16 * hexV a + hexV b ∧ 16 * hexV a + hexV b ≤ 126) := fun e => hx (.inr (.inr (.inr e)))
                have hn : (UInt8.ofNat (16 * hexV a + hexV b)).toNat = 16 * hexV a + hexV b := by simp; omega
                rw [List.flatMap_cons, this, quC, hn, if_pos (by omega), show (16 * hexV a + hexV b) / 16 = hexV a by omega, show (16 * hexV a + hexV b) % 16 = hexV b by omega, hexD_V ha, hexD_V hb, hd]
                rfl
            | [_], _, h => cases h
            | [], _, h => cases h
theorem unquote_quote (s : List UInt8) : unquote (quote s) = some s := by
  unfold unquote quote
  rw [if_neg]
  · rw [List.drop_one, List.tail_cons, List.dropLast_concat]
    exact unq_quote s
  · rintro (h | h | h)
    · simp at h; omega
    · simp at h
    · apply h
      rw [show (34 : UInt8) :: (s.flatMap quC ++ [34]) = ((34 : UInt8) :: s.flatMap quC) ++ [34] by simp, List.getLast?_concat]
theorem quote_unquote {t u : List UInt8} (h : unquote t = some u) : quote u = t := by
  unfold unquote at h
  split at h
  · cases h
  · rename_i hc
    have h2 : 2 ≤ t.length := by
      rcases Nat.lt_or_ge t.length 2 with h | h
      · exact absurd (.inl h) hc
      · exact h
    have hh : t.head? = some 34 := Decidable.byContradiction fun e => hc (.inr (.inl e))
    have hl : t.getLast? = some 34 := Decidable.byContradiction fun e => hc (.inr (.inr e))
    have hq := quote_unq _ _ _ (Nat.le_refl _) h
    unfold quote
    rw [hq]
    match t, h2, hh, hl with
    | c :: d :: s, _, hh, hl =>
      simp only [List.head?_cons, Option.some.injEq] at hh
      subst hh
      rw [List.drop_one, List.tail_cons]
      have hl' : (d :: s).getLast? = some 34 := by simpa using hl
      congr 1
      have hne : d :: s ≠ [] := by simp
      have := List.dropLast_concat_getLast hne
      rw [List.getLast?_eq_some_getLast hne] at hl'
      injection hl' with hl'
      rw [hl'] at this
      exact this
end Go.Proofs.YtkofjkadmknmjaaDoor
