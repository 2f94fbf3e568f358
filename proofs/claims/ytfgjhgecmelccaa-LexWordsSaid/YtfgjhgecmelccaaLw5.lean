/-
  Lemmas (walks and plain laws), in one text.
-/
import Derived.Test.YtfgjhgecmelccaaLw4
import Derived.WalkKit
import Derived.WalkSpells
import Derived.WalkLawsBesides
import Derived.Lib.Hide
import Derived.Deep.QuietTactic
import Derived.BigQuiet
import Derived.Maps.AppendAt
import Derived.WalkSmall
import Derived.StillTail
import Derived.RangeFuncNested
import Derived.RangeFuncCalls
import Derived.OrdersIn
import Derived.ControlIn
import Derived.Test.YtfgjhgecmelccaaProg
import Derived.Deep.CutBlock
import Derived.Deep.DeepCutAuto
import Derived.Deep.AppendSrc
import Derived.Lib.AppendStr
import Derived.Laws.BytesArg
import Derived.WalkMore
import Derived.ScopeJumps
import Derived.Lib.Bytealg
import Derived.Laws.Externs
import Derived.Laws.IdiomStrings
import Derived.Outline
import Derived.IntWalk
import Derived.Laws.Tables
import Derived.Laws.Rows
import Derived.ChangeKeysEq
import Derived.Laws.StructEq
import Derived.RangeFuncBound
import Derived.RangeFuncLeaves
import Derived.OwnWalkIn
import Derived.LoopIn
import Derived.Shelf.Abstract
import Derived.Test.YtfgjhgecmelccaaRows
import Derived.ProofKit
import Derived.OpenShut
import Derived.JoinedCond
import Derived.Deep.Slices
import Derived.Deep.Fields
import Derived.Carry
namespace Go.Proofs.Ytfgjhgecmelccaa
open Go.RowKit

def intV (s : List UInt8) (most : Int) : Int := match intR s most with | some n => n | none => 0
def intOk (s : List UInt8) (most : Int) : Bool := (intR s most).isSome
theorem intR_none {s : List UInt8} {most : Int} (h : intR s most = none) : intV s most = 0 ∧ intOk s most = false := by unfold intV intOk; rw [h]; exact ⟨rfl, rfl⟩
theorem intR_some {s : List UInt8} {most : Int} {n : Nat} (h : intR s most = some n) : intV s most = n ∧ intOk s most = true := by unfold intV intOk; rw [h]; exact ⟨rfl, rfl⟩
theorem intF_lt : ∀ (s : List UInt8) (n m : Nat), intF n s = some m → m < (n + 1) * 10 ^ s.length
  | [], n, m, h => by simp only [intF, Option.some.injEq] at h; subst h; simp
  | c :: s, n, m, h => by
    rw [intF] at h
    split at h
    · have := intF_lt s _ m h
      have e : (10 * n + (c.toNat - 48) + 1) * 10 ^ s.length ≤ (n + 1) * 10 * 10 ^ s.length := Nat.mul_le_mul_right _ (by omega)
      rw [List.length_cons, Nat.pow_succ]
      rw [Nat.mul_comm (10 ^ s.length) 10, ← Nat.mul_assoc]; omega
    · cases h
/-- How far a number's text has been read. -/
def IntAt (s : List UInt8) (k n : Nat) : Prop := intF 0 s = intF n (s.drop k) ∧ n < 10 ^ k
theorem IntAt.start (s : List UInt8) : IntAt s 0 0 := ⟨rfl, by simp⟩
theorem IntAt.next {s : List UInt8} {k n : Nat} (h : IntAt s k n) (hk : k < s.length) (h1 : 48 ≤ s[k].toNat) (h2 : s[k].toNat ≤ 57) : IntAt s (k + 1) (10 * n + (s[k].toNat - 48)) := by
  refine ⟨?_, ?_⟩
  · rw [h.1, List.drop_eq_getElem_cons hk, intF, if_pos ⟨h1, h2⟩]
  · have := h.2
    rw [Nat.pow_succ]; omega
theorem IntAt.bad {s : List UInt8} {k n : Nat} (h : IntAt s k n) (hk : k < s.length) (h1 : ¬ (48 ≤ s[k].toNat ∧ s[k].toNat ≤ 57)) : intF 0 s = none := by
  rw [h.1, List.drop_eq_getElem_cons hk, intF, if_neg h1]
theorem IntAt.done {s : List UInt8} {n : Nat} (h : IntAt s s.length n) : intF 0 s = some n := by
  rw [h.1, List.drop_length, intF]
theorem head_zero {s : List UInt8} (h : 0 < s.length) : (s.head? = some 48) = (s[0].toNat = 48) := by
  cases s with
  | nil => simp at h
  | cons c s =>
    simp only [List.head?_cons, Option.some.injEq, List.getElem_cons_zero, eq_iff_iff]
    constructor
    · intro h; subst h; rfl
    · intro h; have : c = UInt8.ofNat c.toNat := by simp
      rw [this, h]; rfl
theorem str_beq_nil {s : List UInt8} (h : s ≠ []) : s.isEmpty = false := by cases s <;> simp_all

set_option maxHeartbeats 1000000 in
set_option maxRecDepth 4000 in
theorem c_bits_Int (s : List UInt8) (most : Int) (w : World) (hs : s.length ≤ 4294967296) : Calls Try.prog 27 #[.string (str s), .int .i64 most] w (RetV w (.tuple #[.int .i64 (intV s most), .bool (intOk s most)])) := by
  by_cases hb : s = [] ∨ 13 < s.length ∨ (1 < s.length ∧ s.head? = some 48)
  · have hn : intR s most = none := by unfold intR; rw [if_pos hb]
    rw [(intR_none hn).1, (intR_none hn).2]
    clear hn
    rcases hb with rfl | hb | ⟨h1, h2⟩
    · go_enter Try.func27, Try.ntmps27
      go_wp2_with (fail)
      go_ret2
      exact RetV.of rfl (by repeat (first | exact Below.refl _ _ | refine Below.drew ?_ | refine Below.alloc ?_ (by first | omega | (simp; done) | (simp; omega)) _ | refine Below.setCell ?_ (by first | omega | (simp; done) | (simp; omega)) _ | refine Below.trans ?_ (Below.mono (by assumption) (by first | omega | (simp; done) | (simp; omega)))))
    · have he := str_beq_nil (s := s) (by intro h; subst h; simp at hb)
      have h13 : decide ((13 : Int) < (s.length : Int)) = true := by simp; omega
      go_enter Try.func27, Try.ntmps27
      go_wp2_with (fail)
      all_goals (go_ret2; exact RetV.of rfl (by repeat (first | exact Below.refl _ _ | refine Below.drew ?_ | refine Below.alloc ?_ (by first | omega | (simp; done) | (simp; omega)) _ | refine Below.setCell ?_ (by first | omega | (simp; done) | (simp; omega)) _ | refine Below.trans ?_ (Below.mono (by assumption) (by first | omega | (simp; done) | (simp; omega))))))
    · rw [head_zero (by omega)] at h2
      have h0 : 0 < s.length := by omega
      have hz : ((s[0].toNat : Int) == 48) = true := by simp; omega
      go_enter Try.func27, Try.ntmps27
      go_wp2_with (fail)
      all_goals (go_ret2; exact RetV.of rfl (by repeat (first | exact Below.refl _ _ | refine Below.drew ?_ | refine Below.alloc ?_ (by first | omega | (simp; done) | (simp; omega)) _ | refine Below.setCell ?_ (by first | omega | (simp; done) | (simp; omega)) _ | refine Below.trans ?_ (Below.mono (by assumption) (by first | omega | (simp; done) | (simp; omega))))))
  · have hne : s ≠ [] := fun h => hb (.inl h)
    have hlen : s.length ≤ 13 := Nat.le_of_not_lt fun h => hb (.inr (.inl h))
    have h0 : 0 < s.length := by
      rcases Nat.eq_zero_or_pos s.length with h | h
      · exact absurd (List.eq_nil_of_length_eq_zero h) hne
      · exact h
    have hz : 1 < s.length → ((s[0].toNat : Int) == 48) = false := fun h1 => by
      have : ¬ s[0].toNat = 48 := fun h => hb (.inr (.inr ⟨h1, by rw [head_zero h0]; exact h⟩))
      simp; omega
    have hR : intR s most = match intF 0 s with | none => none | some n => if most < (n : Int) ∨ 1099511627776 < n then none else some n := by unfold intR; rw [if_neg hb] <;> rfl
    have HR := Lib.hid hR
    have he := str_beq_nil hne
    have h13 : decide ((13 : Int) < (s.length : Int)) = false := by simp; omega
    clear hR hb hne
    have key : Calls Try.prog 27 #[.string (str s), .int .i64 most] w (RetV w (.tuple #[.int .i64 (intV s most), .bool (intOk s most)])) := by
      by_cases h1 : 1 < s.length
      all_goals
        first
          | (have hz1 := hz h1; have h1' : decide ((1 : Int) < (s.length : Int)) = true := by simp; omega)
          | (have h1' : decide ((1 : Int) < (s.length : Int)) = false := by simp; omega)
        clear hz h1
        go_enter Try.func27, Try.ntmps27
        go_wp2_with (with_reducible refine stop_conv 9 42 (.tmp 26) rfl rfl ?_)
        refine Stop.mk (wpList_strbytes rfl _ _ (.tmp 26) rfl Try.underlying9 Try.underlying42 Try.underlying5 s rfl hs ?_)
        intro A c w1 hlaid
        have hb1 := hlaid.below
        have Hl := Lib.hid hlaid
        clear hlaid
        go_wp2_with (fail)
        go_loopw [6, 29] (fun n i wr => ∃ k m : Nat, Hid (IntAt s k m) ∧ k ≤ s.length ∧ i = .int .i64 k ∧ n = .int .i64 m ∧ wr = w1) (fun _ i _ => s.length - (intOf i).toNat)
        case atStart => exact ⟨0, 0, IntAt.start s, by omega, rfl, rfl, rfl⟩
        case round =>
          obtain ⟨k, m, hp, hk, rfl, rfl, rfl⟩ := hrel
          have hm := hp.out.2
          have hm13 : m < 10 ^ 13 := Nat.lt_of_lt_of_le hm (Nat.pow_le_pow_right (by omega) (by omega))
          clear hm
          by_cases hlt : k < s.length
          · obtain ⟨b, off, rfl, hbb, hrow⟩ := Hl.out.reads.at hlt
            have e0 : wr.cell? ⟨b, off + k, none⟩ = some (.int .u8 s[k].toNat) := by have := hrow k hlt 0 _ rfl; simpa using this
            have hk0 : (0 : Int) ≤ (k : Int) := by omega
            have hk1 : (k : Int) < (s.length : Int) := by omega
            have h256 := s[k].toNat_lt
            by_cases hd : 48 ≤ s[k].toNat ∧ s[k].toNat ≤ 57
            · have hp2 := Lib.hid (hp.out.next hlt hd.1 hd.2)
              have hd1 : decide ((s[k].toNat : Int) < 48) = false := by simp; omega
              have hd2 : decide ((57 : Int) < (s[k].toNat : Int)) = false := by simp; omega
              have hd3 := hd.1
              have hd4 := hd.2
              clear hrow hd hp
              go_wp2_with (fail)
              go_roundw
              case rel => exact ⟨k + 1, 10 * m + (s[k].toNat - 48), hp2.out, by omega, by go_num, by first | rfl | (congr 1; push_cast; omega) | (simp; omega), by first | rfl | trivial⟩
              case measure => simp [intOf]; omega
            · have hn : intR s most = none := by rw [HR.out, hp.out.bad hlt hd]
              have HN1 := Lib.hid (intR_none hn).1
              have HN2 := Lib.hid (intR_none hn).2
              clear hn hrow hp HR
              by_cases hd1 : s[k].toNat < 48
              all_goals
                first
                  | (have hd2 : decide ((s[k].toNat : Int) < 48) = true := by simp; omega)
                  | ((have hd2 : decide ((s[k].toNat : Int) < 48) = false := by simp; omega); (have hd3 : decide ((57 : Int) < (s[k].toNat : Int)) = true := by simp; omega))
                clear hd1 hd
                go_wp2_with (fail)
                go_ret2
                rw [HN1.out, HN2.out]
                exact RetV.of rfl hb1
          · obtain rfl : k = s.length := by omega
            have hdone := hp.out.done
            have hmm := intF_lt s 0 m hdone
            clear hp hlt
            by_cases hlong : most < (m : Int) ∨ 1099511627776 < m
            · have hn : intR s most = none := by rw [HR.out, hdone]; simp only; rw [if_pos hlong]
              have HN1 := Lib.hid (intR_none hn).1
              have HN2 := Lib.hid (intR_none hn).2
              have hmin : decide (min most 1099511627776 < (m : Int)) = true := by simp; omega
              clear hn hdone HR hlong
              go_wp2_with (fail)
              go_ret2
              rw [HN1.out, HN2.out]
              exact RetV.of rfl hb1
            · have hn : intR s most = some m := by rw [HR.out, hdone]; simp only; rw [if_neg hlong]
              have HN1 := Lib.hid (intR_some hn).1
              have HN2 := Lib.hid (intR_some hn).2
              have hmin : decide (min most 1099511627776 < (m : Int)) = false := by simp; omega
              clear hn hdone HR hlong
              go_wp2_with (fail)
              go_ret2
              rw [HN1.out, HN2.out]
              exact RetV.of rfl hb1
    exact key
set_option maxHeartbeats 1000000 in
set_option maxRecDepth 4000 in
theorem c_ref03_Int (s : List UInt8) (most : Int) (w : World) (hs : s.length ≤ 4294967296) : Calls Try.prog 32 #[.string (str s), .int .i64 most] w (RetV w (.tuple #[.int .i64 (intV s most), .bool (intOk s most)])) := by
  by_cases hb : s = [] ∨ 13 < s.length
  · have hn : intR s most = none := by unfold intR; rw [if_pos (hb.elim (fun h => .inl h) (fun h => .inr (.inl h)))]
    rw [(intR_none hn).1, (intR_none hn).2]
    clear hn
    rcases hb with rfl | hb
    · go_enter Try.func32, Try.ntmps32
      go_wp2_with (fail)
      go_ret2
      exact RetV.of rfl (by repeat (first | exact Below.refl _ _ | refine Below.drew ?_ | refine Below.alloc ?_ (by first | omega | (simp; done) | (simp; omega)) _ | refine Below.setCell ?_ (by first | omega | (simp; done) | (simp; omega)) _ | refine Below.trans ?_ (Below.mono (by assumption) (by first | omega | (simp; done) | (simp; omega)))))
    · have hz : ((s.length : Int) == 0) = false := by simp; intro h; subst h; simp at hb
      have h13 : decide ((13 : Int) < (s.length : Int)) = true := by simp; omega
      go_enter Try.func32, Try.ntmps32
      go_wp2_with (fail)
      go_ret2
      exact RetV.of rfl (by repeat (first | exact Below.refl _ _ | refine Below.drew ?_ | refine Below.alloc ?_ (by first | omega | (simp; done) | (simp; omega)) _ | refine Below.setCell ?_ (by first | omega | (simp; done) | (simp; omega)) _ | refine Below.trans ?_ (Below.mono (by assumption) (by first | omega | (simp; done) | (simp; omega)))))
  · have hne : s ≠ [] := fun h => hb (.inl h)
    have hlen : s.length ≤ 13 := Nat.le_of_not_lt fun h => hb (.inr h)
    have h0 : 0 < s.length := by
      rcases Nat.eq_zero_or_pos s.length with h | h
      · exact absurd (List.eq_nil_of_length_eq_zero h) hne
      · exact h
    have hR : intR s most = if 1 < s.length ∧ s[0].toNat = 48 then none else match intF 0 s with | none => none | some n => if most < (n : Int) ∨ 1099511627776 < n then none else some n := by
      unfold intR
      by_cases h : 1 < s.length ∧ s[0].toNat = 48
      · rw [if_pos (.inr (.inr ⟨h.1, (head_zero h0).mpr h.2⟩)), if_pos h]
      · rw [if_neg (fun h1 => h1.elim hne (fun h1 => h1.elim (fun h2 => by omega) (fun h2 => h ⟨h2.1, (head_zero h0).mp h2.2⟩))), if_neg h]
        first | done | rfl
    have HR := Lib.hid hR
    have hz : ((s.length : Int) == 0) = false := by simp; omega
    have h13 : decide ((13 : Int) < (s.length : Int)) = false := by simp; omega
    clear hR hb hne
    go_enter Try.func32, Try.ntmps32
    go_wp2_with (fail)
    go_loop [6, 7] (fun n i => ∃ k m : Nat, Hid (IntAt s k m) ∧ k ≤ s.length ∧ i = .int .i64 k ∧ n = .int .i64 m) (fun _ i => s.length - (intOf i).toNat)
    case atStart => exact ⟨0, 0, IntAt.start s, by omega, rfl, rfl⟩
    case round =>
      obtain ⟨k, m, hp, hk, rfl, rfl⟩ := hrel
      have hm := hp.out.2
      have hm13 : m < 10 ^ 13 := Nat.lt_of_lt_of_le hm (Nat.pow_le_pow_right (by omega) (by omega))
      clear hm
      by_cases hlt : k < s.length
      · have h256 := s[k].toNat_lt
        by_cases hd : 48 ≤ s[k].toNat ∧ s[k].toNat ≤ 57
        · have hp2 := Lib.hid (hp.out.next hlt hd.1 hd.2)
          have hd1 : decide ((s[k].toNat : Int) < 48) = false := by simp; omega
          have hd2 : decide ((57 : Int) < (s[k].toNat : Int)) = false := by simp; omega
          have hd3 := hd.1
          have hd4 := hd.2
          clear hd hp
          go_wp2_with (fail)
          go_round
          case rel => exact ⟨k + 1, _, hp2.out, by omega, by go_num, by go_num⟩
          case measure => simp [intOf]; omega
        · have hn : intR s most = none := by rw [HR.out, hp.out.bad hlt hd]; split <;> rfl
          have HN1 := Lib.hid (intR_none hn).1
          have HN2 := Lib.hid (intR_none hn).2
          clear hn hp HR
          by_cases hd1 : s[k].toNat < 48
          all_goals
            first
              | (have hd2 : decide ((s[k].toNat : Int) < 48) = true := by simp; omega)
              | ((have hd2 : decide ((s[k].toNat : Int) < 48) = false := by simp; omega); (have hd3 : decide ((57 : Int) < (s[k].toNat : Int)) = true := by simp; omega))
            clear hd1 hd
            go_wp2_with (fail)
            go_ret2
            rw [HN1.out, HN2.out]
            exact RetV.of rfl (Below.refl _ _)
      · obtain rfl : k = s.length := by omega
        have hdone := hp.out.done
        have hn : intR s most = if 1 < s.length ∧ s[0].toNat = 48 then none else if most < (m : Int) ∨ 1099511627776 < m then none else some m := by rw [HR.out, hdone]
        have hn2 : intR s most = if ((((s[0].toNat : Int) == 48) && decide ((1 : Int) < (s.length : Int))) || (decide (most < (m : Int)) || decide ((1099511627776 : Int) < (m : Int)))) = true then none else some m := by
          rw [hn]
          simp only [Bool.or_eq_true, Bool.and_eq_true, beq_iff_eq, decide_eq_true_eq]
          by_cases h1 : 1 < s.length ∧ s[0].toNat = 48
          · rw [if_pos h1, if_pos (.inl ⟨by omega, by omega⟩)]
          · rw [if_neg h1]
            by_cases h2 : most < (m : Int) ∨ 1099511627776 < m
            · rw [if_pos h2, if_pos (.inr (h2.elim .inl (fun h => .inr (by omega))))]
            · rw [if_neg h2, if_neg (fun h => h.elim (fun h => h1 ⟨by omega, by omega⟩) (fun h => h2 (h.elim .inl (fun h => .inr (by omega)))))]
        clear hp hlt HR hdone hn
        cases q1 : ((s[0].toNat : Int) == 48)
        all_goals
          cases q2 : decide ((1 : Int) < (s.length : Int))
          all_goals
            cases q3 : decide (most < (m : Int))
            all_goals
              cases q4 : decide ((1099511627776 : Int) < (m : Int))
              all_goals
                rw [q1, q2, q3, q4] at hn2
                simp only [Bool.and_true, Bool.and_false, Bool.or_true, Bool.or_false, if_true, if_false, Bool.false_eq_true] at hn2
                have HV := Lib.hid (show (intV s most, intOk s most) = (match intR s most with | some n => ((n : Int), true) | none => (0, false)) by unfold intV intOk; cases intR s most <;> rfl)
                rw [hn2] at HV
                have HN1 := Lib.hid (congrArg Prod.fst HV.out)
                have HN2 := Lib.hid (congrArg Prod.snd HV.out)
                simp only at HN1 HN2
                clear hn2 HV
                go_wp2_with (fail)
                go_ret2
                rw [HN1.out, HN2.out]
                exact RetV.of rfl (Below.refl _ _)
end Go.Proofs.Ytfgjhgecmelccaa
namespace Go.Proofs.Ytfgjhgecmelccaa
open Go.RowKit

set_option maxHeartbeats 1000000 in
theorem ref03_Tens_low (n : Nat) (h : n < 10) (w : World) : Calls Try.prog 74 #[.int .i64 n] w (RetV w (.string (str (tens n)))) := by
  have kc := fun (w : World) (x : Int) => conv_one (P := Try.prog) w (src := 42) (dst := 9) (e := 5) Try.underlying42 Try.underlying5 Try.underlying9 x
  have H := Lib.hid (tens_lt h)
  have d1 : decide ((n : Int) < 0) = false := by simp
  have d2 : decide ((n : Int) < 10) = true := by simp; omega
  go_enter Try.func74, Try.ntmps74
  go_wp2_with (fail)
  go_ret
  refine RetV.str ?_ (by repeat (first | exact Below.refl _ _ | refine Below.drew ?_ | refine Below.alloc ?_ (by first | omega | (simp; done) | (simp; omega)) _ | refine Below.setCell ?_ (by first | omega | (simp; done) | (simp; omega)) _ | refine Below.trans ?_ (Below.mono (by assumption) (by first | omega | (simp; done) | (simp; omega)))))
  rw [H.out]
  congr 2
  omega
set_option maxHeartbeats 1000000 in
theorem ref03_Tens_high (n : Nat) (h : ¬ n < 10) (hn : n ≤ 9223372036854775807) (w : World) (ih : ∀ w', Calls Try.prog 74 #[.int .i64 ((n / 10 : Nat) : Int)] w' (RetV w' (.string (str (tens (n / 10)))))) :
    Calls Try.prog 74 #[.int .i64 n] w (RetV w (.string (str (tens n)))) := by
  have kc := fun (w : World) (x : Int) => conv_one (P := Try.prog) w (src := 42) (dst := 9) (e := 5) Try.underlying42 Try.underlying5 Try.underlying9 x
  have H := Lib.hid (tens_ge h)
  have IH := Lib.hid ih
  have hl := tens_len (n / 10) 19 (by omega) (by omega)
  have d1 : decide ((n : Int) < 0) = false := by simp
  have d2 : decide ((n : Int) < 10) = false := by simp; omega
  clear ih h
  go_enter Try.func74, Try.ntmps74
  go_wp2_with (fail)
  refine (IH.out _).mono ?_
  rintro e w2 ⟨rfl, hb2⟩
  have hB := Lib.hid (show Below w.heap.size w w2 from Below.trans (by repeat (first | exact Below.refl _ _ | refine Below.drew ?_ | refine Below.alloc ?_ (by first | omega | (simp; done) | (simp; omega)) _ | refine Below.setCell ?_ (by first | omega | (simp; done) | (simp; omega)) _ | refine Below.trans ?_ (Below.mono (by assumption) (by first | omega | (simp; done) | (simp; omega))))) (hb2.mono (by simp)))
  clear hb2
  go_wp2_with (fail)
  go_ret
  refine RetV.str ?_ hB.out
  rw [H.out, UInt8.ofNat_add]
  rfl
theorem c_ref03_Tens (n : Nat) (hn : n ≤ 9223372036854775807) (w : World) : Calls Try.prog 74 #[.int .i64 n] w (RetV w (.string (str (tens n)))) := by
  induction n using Nat.strongRecOn generalizing w with
  | _ n ih =>
    by_cases h : n < 10
    · exact ref03_Tens_low n h w
    · exact ref03_Tens_high n h hn w (fun w' => ih (n / 10) (by omega) (by omega) w')
set_option maxHeartbeats 400000 in
theorem c_value_hex (c : UInt8) (w : World) : Calls Try.prog 71 #[.int .u8 c.toNat] w (RetV w (.int .u8 (hexV c))) := by
  have hc := c.toNat_lt
  go_enter Try.func71, Try.ntmps71
  go_wp2_with (fail)
  all_goals (go_ret; refine RetV.int ?_ (by repeat (first | exact Below.refl _ _ | refine Below.drew ?_ | refine Below.alloc ?_ (by first | omega | (simp; done) | (simp; omega)) _ | refine Below.setCell ?_ (by first | omega | (simp; done) | (simp; omega)) _ | refine Below.trans ?_ (Below.mono (by assumption) (by first | omega | (simp; done) | (simp; omega))))); unfold hexV; (repeat' split) <;> omega)
def hexI (c : UInt8) : Int := if hexV c ≤ 15 then hexV c else -1
set_option maxHeartbeats 400000 in
theorem c_ref04_hex (c : UInt8) (w : World) : Calls Try.prog 73 #[.int .u8 c.toNat] w (RetV w (.int .i64 (hexI c))) := by
  have hc := c.toNat_lt
  go_enter Try.func73, Try.ntmps73
  go_wp2_with (fail)
  all_goals (go_ret; refine RetV.int ?_ (by repeat (first | exact Below.refl _ _ | refine Below.drew ?_ | refine Below.alloc ?_ (by first | omega | (simp; done) | (simp; omega)) _ | refine Below.setCell ?_ (by first | omega | (simp; done) | (simp; omega)) _ | refine Below.trans ?_ (Below.mono (by assumption) (by first | omega | (simp; done) | (simp; omega))))); unfold hexI hexV; (repeat' split) <;> omega)
theorem digit_at (n : Nat) (h : n < 16) : (([48, 49, 50, 51, 52, 53, 54, 55, 56, 57, 97, 98, 99, 100, 101, 102] : List UInt8).drop n).take 1 = [hexD n] := by
  have : ∀ i : Fin 16, (([48, 49, 50, 51, 52, 53, 54, 55, 56, 57, 97, 98, 99, 100, 101, 102] : List UInt8).drop i.val).take 1 = [hexD i.val] := by decide
  exact this ⟨n, h⟩
set_option maxHeartbeats 400000 in
theorem c_ref04_digit (n : Nat) (h : n < 16) (w : World) : Calls Try.prog 81 #[.int .i64 n] w (RetV w (.string (str [hexD n]))) := by
  have hd := digit_at n h
  have Hd := Lib.hid hd
  clear hd
  go_enter Try.func81, Try.ntmps81
  go_wp2_with (fail)
  go_ret
  refine RetV.str ?_ (by repeat (first | exact Below.refl _ _ | refine Below.drew ?_ | refine Below.alloc ?_ (by first | omega | (simp; done) | (simp; omega)) _ | refine Below.setCell ?_ (by first | omega | (simp; done) | (simp; omega)) _ | refine Below.trans ?_ (Below.mono (by assumption) (by first | omega | (simp; done) | (simp; omega)))))
  rw [← Hd.out]
  first | done | (have h1 : n + 1 - n = 1 := by omega
                  simp [h1])
end Go.Proofs.Ytfgjhgecmelccaa
namespace Go.Proofs.Ytfgjhgecmelccaa
open Go.RowKit

/-- A slice of a call's own, as a property. -/
def Sp.own {α : Type} (B : Nat) (e : TypeId) (k : Nat) (cs : α → List Value) (l : List α) : Sp := ⟨fun v w => w.ownsRow B e k v l.length (l.flatMap cs), fun _ _ _ h hb => own_below h hb⟩
end Go.Proofs.Ytfgjhgecmelccaa
