/-
  Lemmas (walks and plain laws), in one text.
-/
import Derived.Test.YtfgjhgecmelccaaDoorTt7
import Derived.Test.YtfgjhgecmelccaaDoorRows
import Derived.WalkKit
import Derived.WalkSpells
import Derived.WalkLawsBesides
import Derived.Lib.Hide
import Derived.Deep.QuietTactic
import Derived.BigQuiet
import Derived.Maps.AppendAt
import Derived.WalkSmall
import Derived.ProofKit
import Derived.OpenShut
import Derived.JoinedCond
import Derived.Deep.Slices
import Derived.Deep.Fields
import Derived.Carry
import Derived.HandedShaped
import Derived.Shelf.Strings.Builder1
import Derived.Shelf.Strings.Builder2
import Derived.Shelf.Strings.OnBuilder
import Derived.Shelf.Small.Wraps
import Derived.Shelf.Utf8.RuneCount
import Derived.Shelf.Strconv.Itoa0
import Derived.Shelf.Strconv.Itoa1
import Derived.Shelf.LaysM
import Derived.Shelf.Strconv.Itoa2
import Derived.Shelf.Strconv.Itoa3
import Derived.Shelf.Strings.Search1
import Derived.Shelf.Strings.Search2
import Derived.Shelf.Strings.Search3
import Derived.Shelf.Strings.Count
import Derived.Shelf.Strings.Shaped
import Derived.Shelf.Strings.Split
import Derived.Shelf.Strings.SplitShaped
import Derived.Shelf.Unicode.Decode
import Derived.Shelf.Strings.RuneCount
import Derived.Shelf.Strings.Explode
import Derived.Shelf.Unicode.DecodeSlow
import Derived.Test.YtfgjhgecmelccaaDoorProg
import Derived.Deep.AppendSrc
import Derived.Lib.AppendStr
import Derived.Laws.BytesArg
import Derived.Lib.AppendIntMem
import Derived.Lib.ItoaLen
import Derived.Lib.TrailingZeros
import Derived.Lib.SplitLaws
import Derived.Lib.ItoaNum
import Derived.Shelf.Strings.PiecesUse
import Derived.Shelf.Spec.TrailingZeros
import Derived.RangeFuncNested
import Derived.RangeFuncBound
import Derived.RangeFuncCalls
import Derived.RangeFuncLeaves
import Derived.Shelf.Abstract
import Derived.Shelf.RegionOpen
import Derived.OwnWalkIn
import Derived.TacticsInMore
import Derived.LoopNIn
import Derived.LoopIn
import Derived.Test.YtfgjhgecmelccaaDoorTie
import Derived.Lib.LaidTab
import Derived.LaidMore
import Derived.Lay
import Derived.Stop.LaidErr
import Derived.SevenTiedAt
import Derived.Test.YtfgjhgecmelccaaDoorCards
import Derived.Deep.CutBlock
import Derived.Deep.DeepCutAuto
import Derived.Laws.Tables
import Derived.Laws.Rows
import Derived.Laws.CopyOwn
import Derived.Outline
import Derived.IntWalk
import Derived.Lib.EndianBits
import Derived.StillTail
import Derived.Laws.IdiomStrings
import Derived.ChangeKeysEq
import Derived.Laws.StructEq
namespace Go.Proofs.YtfgjhgecmelccaaDoor
open Go.RowKit

def intV (s : List UInt8) (most : Int) : Int := match intR s most with | some n => n | none => 0
def intOk (s : List UInt8) (most : Int) : Bool := (intR s most).isSome
theorem intR_none {s : List UInt8} {most : Int} (h : intR s most = none) : intV s most = 0 ∧ intOk s most = false := by unfold intV intOk; rw [h]; exact ⟨rfl, rfl⟩
theorem intR_some {s : List UInt8} {most : Int} {n : Nat} (h : intR s most = some n) : intV s most = n ∧ intOk s most = true := by unfold intV intOk; rw [h]; exact ⟨rfl, rfl⟩
theorem intF_lt : ∀ (s : List UInt8) (n m : Nat), intF n s = some m → m < (n + 1) * 10 ^ s.length
  | [], n, m, h => by simp only [intF, Option.some.injEq] at h; subst h; simp
  | c :: s, n, m, h => by
    rw [intF] at h
    split at h
    · have := intF_lt s _ m h
      have e : (10 * n + (c.toNat - 48) + 1) * 10 ^ s.length ≤ (n + 1) * 10 * 10 ^ s.length := Nat.mul_le_mul_right _ (by omega)
      rw [List.length_cons, Nat.pow_succ]
      rw [Nat.mul_comm (10 ^ s.length) 10, ← Nat.mul_assoc]; omega
    · cases h
/-- How far a number's text has been read. -/
def IntAt (s : List UInt8) (k n : Nat) : Prop := intF 0 s = intF n (s.drop k) ∧ n < 10 ^ k
theorem IntAt.start (s : List UInt8) : IntAt s 0 0 := ⟨rfl, by simp⟩
theorem IntAt.next {s : List UInt8} {k n : Nat} (h : IntAt s k n) (hk : k < s.length) (h1 : 48 ≤ s[k].toNat) (h2 : s[k].toNat ≤ 57) : IntAt s (k + 1) (10 * n + (s[k].toNat - 48)) := by
  refine ⟨?_, ?_⟩
  · rw [h.1, List.drop_eq_getElem_cons hk, intF, if_pos ⟨h1, h2⟩]
  · have := h.2
    rw [Nat.pow_succ]; omega
theorem IntAt.bad {s : List UInt8} {k n : Nat} (h : IntAt s k n) (hk : k < s.length) (h1 : ¬ (48 ≤ s[k].toNat ∧ s[k].toNat ≤ 57)) : intF 0 s = none := by
  rw [h.1, List.drop_eq_getElem_cons hk, intF, if_neg h1]
theorem IntAt.done {s : List UInt8} {n : Nat} (h : IntAt s s.length n) : intF 0 s = some n := by
  rw [h.1, List.drop_length, intF]
theorem head_zero {s : List UInt8} (h : 0 < s.length) : (s.head? = some 48) = (s[0].toNat = 48) := by
  cases s with
  | nil => simp at h
  | cons c s =>
    simp only [List.head?_cons, Option.some.injEq, List.getElem_cons_zero, eq_iff_iff]
    constructor
    · intro h; subst h; rfl
    · intro h; have : c = UInt8.ofNat c.toNat := by simp
      rw [this, h]; rfl
theorem str_beq_nil {s : List UInt8} (h : s ≠ []) : s.isEmpty = false := by cases s <;> simp_all

set_option maxHeartbeats 1000000 in
set_option maxRecDepth 4000 in
theorem c_bits_Int (s : List UInt8) (most : Int) (w : World) (hs : s.length ≤ 4294967296) : Calls Tryd.prog 94 #[.string (str s), .int .i64 most] w (RetV w (.tuple #[.int .i64 (intV s most), .bool (intOk s most)])) := by
  by_cases hb : s = [] ∨ 13 < s.length ∨ (1 < s.length ∧ s.head? = some 48)
  · have hn : intR s most = none := by unfold intR; rw [if_pos hb]
    rw [(intR_none hn).1, (intR_none hn).2]
    clear hn
    rcases hb with rfl | hb | ⟨h1, h2⟩
    · go_enter Tryd.func94, Tryd.ntmps94
      go_wp2_with (fail)
      go_ret2
      exact RetV.of rfl (by repeat (first | exact Below.refl _ _ | refine Below.drew ?_ | refine Below.alloc ?_ (by first | omega | (simp; done) | (simp; omega)) _ | refine Below.setCell ?_ (by first | omega | (simp; done) | (simp; omega)) _ | refine Below.trans ?_ (Below.mono (by assumption) (by first | omega | (simp; done) | (simp; omega)))))
    · have he := str_beq_nil (s := s) (by intro h; subst h; simp at hb)
      have h13 : decide ((13 : Int) < (s.length : Int)) = true := by simp; omega
      go_enter Tryd.func94, Tryd.ntmps94
      go_wp2_with (fail)
      all_goals (go_ret2; exact RetV.of rfl (by repeat (first | exact Below.refl _ _ | refine Below.drew ?_ | refine Below.alloc ?_ (by first | omega | (simp; done) | (simp; omega)) _ | refine Below.setCell ?_ (by first | omega | (simp; done) | (simp; omega)) _ | refine Below.trans ?_ (Below.mono (by assumption) (by first | omega | (simp; done) | (simp; omega))))))
    · rw [head_zero (by omega)] at h2
      have h0 : 0 < s.length := by omega
      have hz : ((s[0].toNat : Int) == 48) = true := by simp; omega
      go_enter Tryd.func94, Tryd.ntmps94
      go_wp2_with (fail)
      all_goals (go_ret2; exact RetV.of rfl (by repeat (first | exact Below.refl _ _ | refine Below.drew ?_ | refine Below.alloc ?_ (by first | omega | (simp; done) | (simp; omega)) _ | refine Below.setCell ?_ (by first | omega | (simp; done) | (simp; omega)) _ | refine Below.trans ?_ (Below.mono (by assumption) (by first | omega | (simp; done) | (simp; omega))))))
  · have hne : s ≠ [] := fun h => hb (.inl h)
    have hlen : s.length ≤ 13 := Nat.le_of_not_lt fun h => hb (.inr (.inl h))
    have h0 : 0 < s.length := by
      rcases Nat.eq_zero_or_pos s.length with h | h
      · exact absurd (List.eq_nil_of_length_eq_zero h) hne
      · exact h
    have hz : 1 < s.length → ((s[0].toNat : Int) == 48) = false := fun h1 => by
      have : ¬ s[0].toNat = 48 := fun h => hb (.inr (.inr ⟨h1, by rw [head_zero h0]; exact h⟩))
      simp; omega
    have hR : intR s most = match intF 0 s with | none => none | some n => if most < (n : Int) ∨ 1099511627776 < n then none else some n := by unfold intR; rw [if_neg hb] <;> rfl
    have HR := Lib.hid hR
    have he := str_beq_nil hne
    have h13 : decide ((13 : Int) < (s.length : Int)) = false := by simp; omega
    clear hR hb hne
    have key : Calls Tryd.prog 94 #[.string (str s), .int .i64 most] w (RetV w (.tuple #[.int .i64 (intV s most), .bool (intOk s most)])) := by
      by_cases h1 : 1 < s.length
      all_goals
        first
          | (have hz1 := hz h1; have h1' : decide ((1 : Int) < (s.length : Int)) = true := by simp; omega)
          | (have h1' : decide ((1 : Int) < (s.length : Int)) = false := by simp; omega)
        clear hz h1
        go_enter Tryd.func94, Tryd.ntmps94
        go_wp2_with (with_reducible refine stop_conv 9 50 (.tmp 26) rfl rfl ?_)
        refine Stop.mk (wpList_strbytes rfl _ _ (.tmp 26) rfl Tryd.underlying9 Tryd.underlying50 Tryd.underlying5 s rfl hs ?_)
        intro A c w1 hlaid
        have hb1 := hlaid.below
        have Hl := Lib.hid hlaid
        clear hlaid
        go_wp2_with (fail)
        go_loopw [6, 29] (fun n i wr => ∃ k m : Nat, Hid (IntAt s k m) ∧ k ≤ s.length ∧ i = .int .i64 k ∧ n = .int .i64 m ∧ wr = w1) (fun _ i _ => s.length - (intOf i).toNat)
        case atStart => exact ⟨0, 0, IntAt.start s, by omega, rfl, rfl, rfl⟩
        case round =>
          obtain ⟨k, m, hp, hk, rfl, rfl, rfl⟩ := hrel
          have hm := hp.out.2
          have hm13 : m < 10 ^ 13 := Nat.lt_of_lt_of_le hm (Nat.pow_le_pow_right (by omega) (by omega))
          clear hm
          by_cases hlt : k < s.length
          · obtain ⟨b, off, rfl, hbb, hrow⟩ := Hl.out.reads.at hlt
            have e0 : wr.cell? ⟨b, off + k, none⟩ = some (.int .u8 s[k].toNat) := by have := hrow k hlt 0 _ rfl; simpa using this
            have hk0 : (0 : Int) ≤ (k : Int) := by omega
            have hk1 : (k : Int) < (s.length : Int) := by omega
            have h256 := s[k].toNat_lt
            by_cases hd : 48 ≤ s[k].toNat ∧ s[k].toNat ≤ 57
            · have hp2 := Lib.hid (hp.out.next hlt hd.1 hd.2)
              have hd1 : decide ((s[k].toNat : Int) < 48) = false := by simp; omega
              have hd2 : decide ((57 : Int) < (s[k].toNat : Int)) = false := by simp; omega
              have hd3 := hd.1
              have hd4 := hd.2
              clear hrow hd hp
              go_wp2_with (fail)
              go_roundw
              case rel => exact ⟨k + 1, 10 * m + (s[k].toNat - 48), hp2.out, by omega, by go_num, by first | rfl | (congr 1; push_cast; omega) | (simp; omega), by first | rfl | trivial⟩
              case measure => simp [intOf]; omega
            · have hn : intR s most = none := by rw [HR.out, hp.out.bad hlt hd]
              have HN1 := Lib.hid (intR_none hn).1
              have HN2 := Lib.hid (intR_none hn).2
              clear hn hrow hp HR
              by_cases hd1 : s[k].toNat < 48
              all_goals
                first
                  | (have hd2 : decide ((s[k].toNat : Int) < 48) = true := by simp; omega)
                  | ((have hd2 : decide ((s[k].toNat : Int) < 48) = false := by simp; omega); (have hd3 : decide ((57 : Int) < (s[k].toNat : Int)) = true := by simp; omega))
                clear hd1 hd
                go_wp2_with (fail)
                go_ret2
                rw [HN1.out, HN2.out]
                exact RetV.of rfl hb1
          · obtain rfl : k = s.length := by omega
            have hdone := hp.out.done
            have hmm := intF_lt s 0 m hdone
            clear hp hlt
            by_cases hlong : most < (m : Int) ∨ 1099511627776 < m
            · have hn : intR s most = none := by rw [HR.out, hdone]; simp only; rw [if_pos hlong]
              have HN1 := Lib.hid (intR_none hn).1
              have HN2 := Lib.hid (intR_none hn).2
              have hmin : decide (min most 1099511627776 < (m : Int)) = true := by simp; omega
              clear hn hdone HR hlong
              go_wp2_with (fail)
              go_ret2
              rw [HN1.out, HN2.out]
              exact RetV.of rfl hb1
            · have hn : intR s most = some m := by rw [HR.out, hdone]; simp only; rw [if_neg hlong]
              have HN1 := Lib.hid (intR_some hn).1
              have HN2 := Lib.hid (intR_some hn).2
              have hmin : decide (min most 1099511627776 < (m : Int)) = false := by simp; omega
              clear hn hdone HR hlong
              go_wp2_with (fail)
              go_ret2
              rw [HN1.out, HN2.out]
              exact RetV.of rfl hb1
    exact key
set_option maxHeartbeats 1000000 in
set_option maxRecDepth 4000 in
theorem c_ref03_Int (s : List UInt8) (most : Int) (w : World) (hs : s.length ≤ 4294967296) : Calls Tryd.prog 97 #[.string (str s), .int .i64 most] w (RetV w (.tuple #[.int .i64 (intV s most), .bool (intOk s most)])) := by
  by_cases hb : s = [] ∨ 13 < s.length
  · have hn : intR s most = none := by unfold intR; rw [if_pos (hb.elim (fun h => .inl h) (fun h => .inr (.inl h)))]
    rw [(intR_none hn).1, (intR_none hn).2]
    clear hn
    rcases hb with rfl | hb
    · go_enter Tryd.func97, Tryd.ntmps97
      go_wp2_with (fail)
      go_ret2
      exact RetV.of rfl (by repeat (first | exact Below.refl _ _ | refine Below.drew ?_ | refine Below.alloc ?_ (by first | omega | (simp; done) | (simp; omega)) _ | refine Below.setCell ?_ (by first | omega | (simp; done) | (simp; omega)) _ | refine Below.trans ?_ (Below.mono (by assumption) (by first | omega | (simp; done) | (simp; omega)))))
    · have hz : ((s.length : Int) == 0) = false := by simp; intro h; subst h; simp at hb
      have h13 : decide ((13 : Int) < (s.length : Int)) = true := by simp; omega
      go_enter Tryd.func97, Tryd.ntmps97
      go_wp2_with (fail)
      go_ret2
      exact RetV.of rfl (by repeat (first | exact Below.refl _ _ | refine Below.drew ?_ | refine Below.alloc ?_ (by first | omega | (simp; done) | (simp; omega)) _ | refine Below.setCell ?_ (by first | omega | (simp; done) | (simp; omega)) _ | refine Below.trans ?_ (Below.mono (by assumption) (by first | omega | (simp; done) | (simp; omega)))))
  · have hne : s ≠ [] := fun h => hb (.inl h)
    have hlen : s.length ≤ 13 := Nat.le_of_not_lt fun h => hb (.inr h)
    have h0 : 0 < s.length := by
      rcases Nat.eq_zero_or_pos s.length with h | h
      · exact absurd (List.eq_nil_of_length_eq_zero h) hne
      · exact h
    have hR : intR s most = if 1 < s.length ∧ s[0].toNat = 48 then none else match intF 0 s with | none => none | some n => if most < (n : Int) ∨ 1099511627776 < n then none else some n := by
      unfold intR
      by_cases h : 1 < s.length ∧ s[0].toNat = 48
      · rw [if_pos (.inr (.inr ⟨h.1, (head_zero h0).mpr h.2⟩)), if_pos h]
      · rw [if_neg (fun h1 => h1.elim hne (fun h1 => h1.elim (fun h2 => by omega) (fun h2 => h ⟨h2.1, (head_zero h0).mp h2.2⟩))), if_neg h]
        first | done | rfl
    have HR := Lib.hid hR
    have hz : ((s.length : Int) == 0) = false := by simp; omega
    have h13 : decide ((13 : Int) < (s.length : Int)) = false := by simp; omega
    clear hR hb hne
    go_enter Tryd.func97, Tryd.ntmps97
    go_wp2_with (fail)
    go_loop [6, 7] (fun n i => ∃ k m : Nat, Hid (IntAt s k m) ∧ k ≤ s.length ∧ i = .int .i64 k ∧ n = .int .i64 m) (fun _ i => s.length - (intOf i).toNat)
    case atStart => exact ⟨0, 0, IntAt.start s, by omega, rfl, rfl⟩
    case round =>
      obtain ⟨k, m, hp, hk, rfl, rfl⟩ := hrel
      have hm := hp.out.2
      have hm13 : m < 10 ^ 13 := Nat.lt_of_lt_of_le hm (Nat.pow_le_pow_right (by omega) (by omega))
      clear hm
      by_cases hlt : k < s.length
      · have h256 := s[k].toNat_lt
        by_cases hd : 48 ≤ s[k].toNat ∧ s[k].toNat ≤ 57
        · have hp2 := Lib.hid (hp.out.next hlt hd.1 hd.2)
          have hd1 : decide ((s[k].toNat : Int) < 48) = false := by simp; omega
          have hd2 : decide ((57 : Int) < (s[k].toNat : Int)) = false := by simp; omega
          have hd3 := hd.1
          have hd4 := hd.2
          clear hd hp
          go_wp2_with (fail)
          go_round
          case rel => exact ⟨k + 1, _, hp2.out, by omega, by go_num, by go_num⟩
          case measure => simp [intOf]; omega
        · have hn : intR s most = none := by rw [HR.out, hp.out.bad hlt hd]; split <;> rfl
          have HN1 := Lib.hid (intR_none hn).1
          have HN2 := Lib.hid (intR_none hn).2
          clear hn hp HR
          by_cases hd1 : s[k].toNat < 48
          all_goals
            first
              | (have hd2 : decide ((s[k].toNat : Int) < 48) = true := by simp; omega)
              | ((have hd2 : decide ((s[k].toNat : Int) < 48) = false := by simp; omega); (have hd3 : decide ((57 : Int) < (s[k].toNat : Int)) = true := by simp; omega))
            clear hd1 hd
            go_wp2_with (fail)
            go_ret2
            rw [HN1.out, HN2.out]
            exact RetV.of rfl (Below.refl _ _)
      · obtain rfl : k = s.length := by omega
        have hdone := hp.out.done
        have hn : intR s most = if 1 < s.length ∧ s[0].toNat = 48 then none else if most < (m : Int) ∨ 1099511627776 < m then none else some m := by rw [HR.out, hdone]
        have hn2 : intR s most = if ((((s[0].toNat : Int) == 48) && decide ((1 : Int) < (s.length : Int))) || (decide (most < (m : Int)) || decide ((1099511627776 : Int) < (m : Int)))) = true then none else some m := by
          rw [hn]
          simp only [Bool.or_eq_true, Bool.and_eq_true, beq_iff_eq, decide_eq_true_eq]
          by_cases h1 : 1 < s.length ∧ s[0].toNat = 48
          · rw [if_pos h1, if_pos (.inl ⟨by omega, by omega⟩)]
          · rw [if_neg h1]
            by_cases h2 : most < (m : Int) ∨ 1099511627776 < m
            · rw [if_pos h2, if_pos (.inr (h2.elim .inl (fun h => .inr (by omega))))]
            · rw [if_neg h2, if_neg (fun h => h.elim (fun h => h1 ⟨by omega, by omega⟩) (fun h => h2 (h.elim .inl (fun h => .inr (by omega)))))]
        clear hp hlt HR hdone hn
        cases q1 : ((s[0].toNat : Int) == 48)
        all_goals
          cases q2 : decide ((1 : Int) < (s.length : Int))
          all_goals
            cases q3 : decide (most < (m : Int))
            all_goals
              cases q4 : decide ((1099511627776 : Int) < (m : Int))
              all_goals
                rw [q1, q2, q3, q4] at hn2
                simp only [Bool.and_true, Bool.and_false, Bool.or_true, Bool.or_false, if_true, if_false, Bool.false_eq_true] at hn2
                have HV := Lib.hid (show (intV s most, intOk s most) = (match intR s most with | some n => ((n : Int), true) | none => (0, false)) by unfold intV intOk; cases intR s most <;> rfl)
                rw [hn2] at HV
                have HN1 := Lib.hid (congrArg Prod.fst HV.out)
                have HN2 := Lib.hid (congrArg Prod.snd HV.out)
                simp only at HN1 HN2
                clear hn2 HV
                go_wp2_with (fail)
                go_ret2
                rw [HN1.out, HN2.out]
                exact RetV.of rfl (Below.refl _ _)
end Go.Proofs.YtfgjhgecmelccaaDoor
namespace Go.Proofs.YtfgjhgecmelccaaDoor
open Go.RowKit

/-- What the last word says. -/
def curR (d : List UInt8) : Option Nat := if d = [97, 108, 108] then some 1073741824 else match intR d 1073741824 with
  | none => none
  | some n => if n = 1073741824 then none else some n
def tk4 (a b c d : List UInt8) : Option Tok :=
  match intR a 5, intR b 1099511627776, intR c 1099511627776, curR d with
  | some x, some y, some z, some u => if 0 < y then some ⟨x, y, z, u⟩ else none
  | _, _, _, _ => none
/-- What a text is read as. -/
def tkParse (s : List UInt8) : Option Tok := match cuts 46 s with | [a, b, c, d] => tk4 a b c d | _ => none
/-- The words of a token that may be. -/
def tkwC (n : Int) : List UInt8 := if n = 1073741824 then [97, 108, 108] else tens n.toNat
def tkw (t : Tok) : List (List UInt8) := [tens t.dev.toNat, tens t.epoch.toNat, tens t.seq.toNat, tkwC t.cursor]
theorem itoa_pos {n : Int} (h : 0 ≤ n) : Lib.itoa n = tens n.toNat := by
  have := itoa_nat n.toNat
  rw [Int.toNat_of_nonneg h] at this
  exact this
theorem join4 (a b c d : List UInt8) : Lib.join [a, b, c, d] [46] = joinC 46 [a, b, c, d] := by simp [Lib.join, List.intercalate, joinC]
theorem tokT_ok {t : Tok} (h : t.ok = true) : tokT t = joinC 46 (tkw t) := by
  obtain ⟨a1, a2, a3, a4, a5, a6, a7, a8⟩ := Tok.ok_iff.1 h
  unfold tokT tkw tkwC
  rw [if_pos h]
  by_cases hc : t.cursor = 1073741824
  · rw [if_pos hc, if_pos hc]
    unfold tkW
    rw [join4, itoa_pos a1, itoa_pos (by omega), itoa_pos a5]
  · rw [if_neg hc, if_neg hc]
    unfold tkL
    rw [join4, itoa_pos a1, itoa_pos (by omega), itoa_pos a5, itoa_pos a7]
theorem tens_nodot (n : Nat) : ∀ x ∈ tens n, x ≠ 46 := by
  intro x hx e
  have := tens_digits n x hx
  subst e
  simp at this
theorem tkw_nodot (t : Tok) : ∀ p ∈ tkw t, ∀ x ∈ p, x ≠ 46 := by
  intro p hp x hx
  unfold tkw at hp
  simp only [List.mem_cons, List.not_mem_nil, or_false] at hp
  rcases hp with rfl | rfl | rfl | rfl
  · exact tens_nodot _ x hx
  · exact tens_nodot _ x hx
  · exact tens_nodot _ x hx
  · unfold tkwC at hx
    split at hx
    · simp only [List.mem_cons, List.not_mem_nil, or_false] at hx
      rcases hx with rfl | rfl | rfl <;> decide
    · exact tens_nodot _ x hx
theorem cuts_tok {t : Tok} (h : t.ok = true) : cuts 46 (tokT t) = tkw t := by
  rw [tokT_ok h]
  exact cuts_joinC (by simp [tkw]) (tkw_nodot t)
theorem tens_all (n : Nat) : tens n ≠ [97, 108, 108] := by
  intro e
  have := tens_digits n 97 (by rw [e]; simp)
  simp at this
theorem curR_tkwC {n : Int} (h0 : 0 ≤ n) (h1 : n ≤ 1073741824) : curR (tkwC n) = some n.toNat := by
  unfold tkwC curR
  by_cases hc : n = 1073741824
  · rw [if_pos hc, if_pos rfl, hc]; rfl
  · rw [if_neg hc, if_neg (tens_all _), intR_tens (by omega) (by omega)]
    simp only
    rw [if_neg (by omega)]
/-- A token is read of its text. -/
theorem tkParse_text {t : Tok} (h : t.ok = true) : tkParse (tokT t) = some t := by
  obtain ⟨a1, a2, a3, a4, a5, a6, a7, a8⟩ := Tok.ok_iff.1 h
  unfold tkParse
  rw [cuts_tok h]
  unfold tkw
  simp only
  unfold tk4
  rw [intR_tens (by omega) (by omega), intR_tens (by omega) (by omega), intR_tens (by omega) (by omega), curR_tkwC a7 a8]
  simp only
  rw [if_pos (by omega)]
  obtain ⟨d, e, s, c⟩ := t
  simp only at *
  rw [Int.toNat_of_nonneg a1, Int.toNat_of_nonneg (by omega), Int.toNat_of_nonneg a5, Int.toNat_of_nonneg a7]
theorem curR_some {d : List UInt8} {u : Nat} (h : curR d = some u) : d = tkwC u ∧ u ≤ 1073741824 := by
  unfold curR at h
  split at h
  · rename_i hd
    injection h with h
    subst h
    exact ⟨by rw [hd]; rfl, by omega⟩
  · cases hi : intR d 1073741824 with
    | none => rw [hi] at h; cases h
    | some n =>
      rw [hi] at h
      simp only at h
      split at h
      · cases h
      · rename_i hn
        injection h with h
        subst h
        obtain ⟨e1, _, e3⟩ := tens_intR hi
        refine ⟨?_, by omega⟩
        unfold tkwC
        rw [if_neg (by omega), Int.toNat_natCast]
        exact e1
theorem tk4_some {a b c d : List UInt8} {t : Tok} (h : tk4 a b c d = some t) : t.ok = true ∧ tkw t = [a, b, c, d] := by
  unfold tk4 at h
  cases h1 : intR a 5 with
  | none => rw [h1] at h; cases h
  | some x =>
  cases h2 : intR b 1099511627776 with
  | none => rw [h1, h2] at h; cases h
  | some y =>
  cases h3 : intR c 1099511627776 with
  | none => rw [h1, h2, h3] at h; cases h
  | some z =>
  cases h4 : curR d with
  | none => rw [h1, h2, h3, h4] at h; cases h
  | some u =>
    rw [h1, h2, h3, h4] at h
    simp only at h
    split at h
    · rename_i hy
      injection h with h
      subst h
      obtain ⟨x1, x2, x3⟩ := tens_intR h1
      obtain ⟨y1, y2, y3⟩ := tens_intR h2
      obtain ⟨z1, z2, z3⟩ := tens_intR h3
      obtain ⟨u1, u2⟩ := curR_some h4
      refine ⟨Tok.ok_iff.2 ⟨by simp, x3, by simp only; omega, y3, by simp, z3, by simp, by simp only; omega⟩, ?_⟩
      unfold tkw
      simp only [Int.toNat_natCast]
      rw [← x1, ← y1, ← z1, ← u1]
    · cases h
/-- What is read has just that text, and may be. -/
theorem tkParse_some {s : List UInt8} {t : Tok} (h : tkParse s = some t) : t.ok = true ∧ tokT t = s := by
  unfold tkParse at h
  split at h
  · rename_i a b c d hs
    obtain ⟨h1, h2⟩ := tk4_some h
    refine ⟨h1, ?_⟩
    rw [tokT_ok h1, h2, ← hs, joinC_cuts]
  · cases h
/-- The document's reader's token. -/
def rf4 (a b c d : List UInt8) : Tok := ⟨intV a 6, intV b 1099511627776, intV c 1099511627776, if d = [97, 108, 108] then 1073741824 else intV d 1073741823⟩
theorem rf4_tkw {t : Tok} (h : t.ok = true) {a b c d : List UInt8} (e : tkw t = [a, b, c, d]) : rf4 a b c d = t := by
  obtain ⟨a1, a2, a3, a4, a5, a6, a7, a8⟩ := Tok.ok_iff.1 h
  unfold tkw at e
  simp only [List.cons.injEq, and_true] at e
  obtain ⟨rfl, rfl, rfl, rfl⟩ := e
  unfold rf4
  have i1 := (intR_some (intR_tens (n := t.dev.toNat) (most := 6) (by omega) (by omega))).1
  have i2 := (intR_some (intR_tens (n := t.epoch.toNat) (most := 1099511627776) (by omega) (by omega))).1
  have i3 := (intR_some (intR_tens (n := t.seq.toNat) (most := 1099511627776) (by omega) (by omega))).1
  rw [i1, i2, i3]
  have i4 : (if tkwC t.cursor = [97, 108, 108] then (1073741824 : Int) else intV (tkwC t.cursor) 1073741823) = t.cursor := by
    unfold tkwC
    by_cases hc : t.cursor = 1073741824
    · rw [if_pos hc, if_pos rfl, hc]
    · rw [if_neg hc, if_neg (tens_all _), (intR_some (intR_tens (n := t.cursor.toNat) (most := 1073741823) (by omega) (by omega))).1]
      omega
  rw [i4]
  obtain ⟨d, e, s, c⟩ := t
  simp only at *
  rw [Int.toNat_of_nonneg a1, Int.toNat_of_nonneg (by omega), Int.toNat_of_nonneg a5]
/-- The document's reader reads the same. -/
theorem rf4_eq {s a b c d : List UInt8} (h : cuts 46 s = [a, b, c, d]) : (if s = [] ∨ tokT (rf4 a b c d) ≠ s then none else some (rf4 a b c d)) = tkParse s := by
  cases hp : tkParse s with
  | some t =>
    obtain ⟨h1, h2⟩ := tkParse_some hp
    have hk : tkw t = [a, b, c, d] := by rw [← cuts_tok h1, h2, h]
    rw [rf4_tkw h1 hk, if_neg]
    intro hh
    rcases hh with hh | hh
    · rw [hh] at h; simp [cuts] at h
    · exact hh h2
  | none =>
    refine if_pos ?_
    rcases Classical.em (s = []) with hs | hs
    · exact .inl hs
    · refine .inr fun e => ?_
      cases hok : (rf4 a b c d).ok with
      | false => rw [tokT_bad hok] at e; exact hs e.symm
      | true =>
        have := tkParse_text hok
        rw [e, hp] at this
        cases this
/-- What is told of a text. -/
def tkV (s : List UInt8) : Tok := (tkParse s).getD tz
def tkO (s : List UInt8) : Bool := (tkParse s).isSome
theorem tkV_some {s : List UInt8} {t : Tok} (h : tkParse s = some t) : tkV s = t ∧ tkO s = true := by unfold tkV tkO; rw [h]; exact ⟨rfl, rfl⟩
theorem tkV_none {s : List UInt8} (h : tkParse s = none) : tkV s = tz ∧ tkO s = false := by unfold tkV tkO; rw [h]; exact ⟨rfl, rfl⟩
/-- A token may come behind another one. -/
def Tok.goes (a b : Tok) : Bool := a.ok && (b.ok && (decide (a.dev = b.dev) && (decide (a.epoch = b.epoch) && (decide (a.seq ≤ b.seq) && decide (a.cursor ≤ b.cursor)))))
end Go.Proofs.YtfgjhgecmelccaaDoor
